/- Number: the reference's. -/
import Derived.Test.YtonckpcbehobhaaDoorNumber2
namespace Go.Proofs.YtonckpcbehobhaaDoor
open Go.RowKit

set_option maxHeartbeats 2000000 in
theorem refNumber_walk (s : ByteArray) (most : Int) (w : World) (hs : s.size ≤ 140737488355328) (hm : -9223372036854775808 ≤ most ∧ most ≤ 9223372036854775807) :
    Calls Tryd.prog 17 #[.string s, .int .i64 most] w fun e w' => e = .returned (.tuple #[.int .i64 (numR (byts s) most).1, .int .i64 (numR (byts s) most).2]) ∧ w = w' := by
  have hl := byts_len s
  have hm2 := hm.2
  by_cases h0 : s.size = 0
  · have he : s.toList.isEmpty = true := by rw [isEmpty_size]; simp [h0]
    have HF : Hid (numR (byts s) most = (0, 2)) := numR_bad (fun h => h.1 (by rw [hl]; exact h0))
    clear hl h0
    go_enter Tryd.func17, Tryd.ntmps17
    go_wp2
    go_ret2
    rw [HF.out]
    exact ⟨rfl, rfl⟩
  have he : s.toList.isEmpty = false := by rw [isEmpty_size]; simp [h0]
  have h00 : 0 < s.size := by omega
  obtain ⟨c0, hc0⟩ : ∃ c, (s[0].toNat : Int) = c := ⟨_, rfl⟩
  have HC0 : Hid ((byts s).getD 0 0 = c0) := by show _ = _; rw [byts_at h00]; exact hc0
  by_cases h1 : 1 < s.size ∧ c0 = 48
  · obtain ⟨h1, rfl⟩ := h1
    have h1' : (1 : Int) < (s.size : Int) := by omega
    have HF : Hid (numR (byts s) most = (0, 2)) := numR_bad (fun h => h.2.1 ⟨by rw [hl]; exact h1, HC0.out⟩)
    clear hl h0
    go_enter Tryd.func17, Tryd.ntmps17
    go_wp2
    go_ret2
    rw [HF.out]
    exact ⟨rfl, rfl⟩
  have HNZ : Hid (¬ (1 < s.size ∧ c0 = 48)) := h1
  have HL := Lib.hid hl
  by_cases h2 : 1 < s.size
  · have h1' : (1 : Int) < (s.size : Int) := by omega
    have hz : (c0 == 48) = false := by simp; intro h'; exact h1 ⟨h2, h'⟩
    clear h1 hl
    go_enter Tryd.func17, Tryd.ntmps17
    go_wp2
    go_loop [6] (fun i => ∃ k : Nat, k ≤ s.size ∧ i = .int .i64 k ∧ Hid (∀ j, j < k → dig ((byts s).getD j 0))) (fun i => s.size - (intOf i).toNat)
    case atStart => exact ⟨0, Nat.zero_le _, rfl, fun j hj => absurd hj (by omega)⟩
    case round =>
      obtain ⟨k, hk, rfl, hd⟩ := hrel
      by_cases hlt : k < s.size
      · have hks : (k : Int) < (s.size : Int) := by omega
        obtain ⟨y, hy⟩ : ∃ y, (s[k].toNat : Int) = y := ⟨_, rfl⟩
        have HY : Hid ((byts s).getD k 0 = y) := by show _ = _; rw [byts_at hlt]; exact hy
        by_cases hdg : dig y
        · have e1 : decide (y < 48) = false := by simp; exact hdg.1
          have e2 : decide (y > 57) = false := by simp; exact hdg.2
          have HN : Hid (∀ j, j < k + 1 → dig ((byts s).getD j 0)) := by
            intro j hj
            rcases Nat.lt_or_ge j k with h | h
            · exact hd.out j h
            · obtain rfl : j = k := by omega
              rw [HY.out]
              exact hdg
          clear hdg
          go_wp2
          go_round
          case rel => exact ⟨k + 1, by omega, by go_num, HN⟩
          case measure => simp [intOf]; omega
        · have HF : Hid (numR (byts s) most = (0, 2)) := by
            show _ = _
            refine numR_bad fun hc => hdg ?_
            have := hc.2.2 k (by rw [HL.out]; exact hlt)
            rwa [HY.out] at this
          by_cases h3 : y < 48
          · have e1 : decide (y < 48) = true := by simp [h3]
            clear hdg h3
            go_wp2
            go_ret2
            first | rw [HF.out] | rw [HBL.out, HF.out]
            exact ⟨rfl, rfl⟩
          · have e1 : decide (y < 48) = false := by simp; omega
            have e2 : decide (y > 57) = true := by
              simp
              rcases Int.lt_or_le 57 y with h | h
              · exact h
              · exact absurd ⟨by omega, h⟩ hdg
            clear hdg h3
            go_wp2
            go_ret2
            first | rw [HF.out] | rw [HBL.out, HF.out]
            exact ⟨rfl, rfl⟩
      · obtain rfl : k = s.size := by omega
        have HCAN : Hid (Canon (byts s)) := by
          refine ⟨by rw [HL.out]; exact h0, ?_, fun j hj => hd.out j (by rw [← HL.out]; exact hj)⟩
          rw [HL.out, HC0.out]
          exact HNZ.out
        obtain ⟨l, hl⟩ : ∃ l, byts s = l := ⟨_, rfl⟩
        have HBL : Hid (byts s = l) := hl
        rw [hl] at HL HCAN ⊢
        clear hl hd HC0 HNZ
        go_wp2
        go_loop [7, 8] (fun n i => ∃ k : Nat, k ≤ s.size ∧ i = .int .i64 k ∧ n = .int .i64 (val l k) ∧ Hid (k = 0 ∨ val l k ≤ most)) (fun _ i => s.size - (intOf i).toNat)
        case atStart => exact ⟨0, Nat.zero_le _, rfl, rfl, .inl rfl⟩
        case round =>
          obtain ⟨k, hk, rfl, rfl, hv⟩ := hrel
          have hv0 : 0 ≤ val l k := val_nonneg HCAN.out.2.2 k (by rw [HL.out]; exact hk)
          by_cases hlt : k < s.size
          · have hks : (k : Int) < (s.size : Int) := by omega
            have hdg : dig (l.getD k 0) := HCAN.out.2.2 k (by rw [HL.out]; exact hlt)
            obtain ⟨y, hy⟩ : ∃ y, (s[k].toNat : Int) = y := ⟨_, rfl⟩
            have HY : Hid (l.getD k 0 = y) := by show _ = _; rw [← HBL.out, byts_at hlt]; exact hy
            rw [HY.out] at hdg
            obtain ⟨hd0, hd1⟩ := hdg
            have hw1 : IntKind.u8.wrap (y - 48) = y - 48 := by rw [IntKind.wrap_u8]; omega
            obtain ⟨x, hx⟩ : ∃ x, val l k = x := ⟨_, rfl⟩
            have HX : Hid (val l (k + 1) = 10 * x + (y - 48)) := by show _ = _; rw [val, HY.out, hx]
            have HMO : Hid (val l (k + 1) ≤ val l l.length) := val_mono HCAN.out.2.2 (by rw [HL.out]; omega) (Nat.le_refl _)
            rw [hx] at hv0 hv ⊢
            clear hx
            have HOV : Hid (most < 10 * x + (y - 48) → numR l most = (0, 5)) := fun h => numR_over HCAN.out (by have := HMO.out; have := HX.out; omega)
            by_cases hm0 : most < 0
            · have HF := Lib.hid (HOV.out (by omega))
              have d1 : decide (most < 0) = true := by simp [hm0]
              go_wp2
              go_ret2
              first | rw [HF.out] | rw [HBL.out, HF.out]
              exact ⟨rfl, rfl⟩
            have d1 : decide (most < 0) = false := by simp; omega
            by_cases hm1 : most < y - 48
            · have HF := Lib.hid (HOV.out (by omega))
              have d2 : decide (y - 48 > most) = true := by simp; omega
              go_wp2
              go_ret2
              first | rw [HF.out] | rw [HBL.out, HF.out]
              exact ⟨rfl, rfl⟩
            have d2 : decide (y - 48 > most) = false := by simp; omega
            have hnn : 0 ≤ most - (y - 48) := by omega
            by_cases hbig : (most - (y - 48)) / 10 < x
            · have HF := Lib.hid (HOV.out (by omega))
              go_wp2
              go_ret2
              first | rw [HF.out] | rw [HBL.out, HF.out]
              exact ⟨rfl, rfl⟩
            · have HV : Hid (k + 1 = 0 ∨ val l (k + 1) ≤ most) := .inr (by have := HX.out; omega)
              have hbig' : x ≤ (most - (y - 48)) / 10 := by omega
              have hle : 10 * x + (y - 48) ≤ 9223372036854775807 := by omega
              go_wp2
              go_round
              case rel => exact ⟨k + 1, by omega, by go_num, by rw [HX.out], HV⟩
              case measure => simp [intOf]; omega
          · obtain rfl : k = s.size := by omega
            have HF : Hid (numR l most = (val l s.size, 0)) := by
              show _ = _
              rw [numR_ok HCAN.out (by rw [HL.out]; rcases hv.out with h | h; exact absurd h h0; exact h), HL.out]
            go_wp2
            go_ret2
            first | rw [HF.out] | rw [HBL.out, HF.out]
            exact ⟨rfl, rfl⟩
  · have h1' : ¬ (1 : Int) < (s.size : Int) := by omega
    clear h1 hl
    go_enter Tryd.func17, Tryd.ntmps17
    go_wp2
    go_loop [6] (fun i => ∃ k : Nat, k ≤ s.size ∧ i = .int .i64 k ∧ Hid (∀ j, j < k → dig ((byts s).getD j 0))) (fun i => s.size - (intOf i).toNat)
    case atStart => exact ⟨0, Nat.zero_le _, rfl, fun j hj => absurd hj (by omega)⟩
    case round =>
      obtain ⟨k, hk, rfl, hd⟩ := hrel
      by_cases hlt : k < s.size
      · have hks : (k : Int) < (s.size : Int) := by omega
        obtain ⟨y, hy⟩ : ∃ y, (s[k].toNat : Int) = y := ⟨_, rfl⟩
        have HY : Hid ((byts s).getD k 0 = y) := by show _ = _; rw [byts_at hlt]; exact hy
        by_cases hdg : dig y
        · have e1 : decide (y < 48) = false := by simp; exact hdg.1
          have e2 : decide (y > 57) = false := by simp; exact hdg.2
          have HN : Hid (∀ j, j < k + 1 → dig ((byts s).getD j 0)) := by
            intro j hj
            rcases Nat.lt_or_ge j k with h | h
            · exact hd.out j h
            · obtain rfl : j = k := by omega
              rw [HY.out]
              exact hdg
          clear hdg
          go_wp2
          go_round
          case rel => exact ⟨k + 1, by omega, by go_num, HN⟩
          case measure => simp [intOf]; omega
        · have HF : Hid (numR (byts s) most = (0, 2)) := by
            show _ = _
            refine numR_bad fun hc => hdg ?_
            have := hc.2.2 k (by rw [HL.out]; exact hlt)
            rwa [HY.out] at this
          by_cases h3 : y < 48
          · have e1 : decide (y < 48) = true := by simp [h3]
            clear hdg h3
            go_wp2
            go_ret2
            first | rw [HF.out] | rw [HBL.out, HF.out]
            exact ⟨rfl, rfl⟩
          · have e1 : decide (y < 48) = false := by simp; omega
            have e2 : decide (y > 57) = true := by
              simp
              rcases Int.lt_or_le 57 y with h | h
              · exact h
              · exact absurd ⟨by omega, h⟩ hdg
            clear hdg h3
            go_wp2
            go_ret2
            first | rw [HF.out] | rw [HBL.out, HF.out]
            exact ⟨rfl, rfl⟩
      · obtain rfl : k = s.size := by omega
        have HCAN : Hid (Canon (byts s)) := by
          refine ⟨by rw [HL.out]; exact h0, ?_, fun j hj => hd.out j (by rw [← HL.out]; exact hj)⟩
          rw [HL.out, HC0.out]
          exact HNZ.out
        obtain ⟨l, hl⟩ : ∃ l, byts s = l := ⟨_, rfl⟩
        have HBL : Hid (byts s = l) := hl
        rw [hl] at HL HCAN ⊢
        clear hl hd HC0 HNZ
        go_wp2
        go_loop [7, 8] (fun n i => ∃ k : Nat, k ≤ s.size ∧ i = .int .i64 k ∧ n = .int .i64 (val l k) ∧ Hid (k = 0 ∨ val l k ≤ most)) (fun _ i => s.size - (intOf i).toNat)
        case atStart => exact ⟨0, Nat.zero_le _, rfl, rfl, .inl rfl⟩
        case round =>
          obtain ⟨k, hk, rfl, rfl, hv⟩ := hrel
          have hv0 : 0 ≤ val l k := val_nonneg HCAN.out.2.2 k (by rw [HL.out]; exact hk)
          by_cases hlt : k < s.size
          · have hks : (k : Int) < (s.size : Int) := by omega
            have hdg : dig (l.getD k 0) := HCAN.out.2.2 k (by rw [HL.out]; exact hlt)
            obtain ⟨y, hy⟩ : ∃ y, (s[k].toNat : Int) = y := ⟨_, rfl⟩
            have HY : Hid (l.getD k 0 = y) := by show _ = _; rw [← HBL.out, byts_at hlt]; exact hy
            rw [HY.out] at hdg
            obtain ⟨hd0, hd1⟩ := hdg
            have hw1 : IntKind.u8.wrap (y - 48) = y - 48 := by rw [IntKind.wrap_u8]; omega
            obtain ⟨x, hx⟩ : ∃ x, val l k = x := ⟨_, rfl⟩
            have HX : Hid (val l (k + 1) = 10 * x + (y - 48)) := by show _ = _; rw [val, HY.out, hx]
            have HMO : Hid (val l (k + 1) ≤ val l l.length) := val_mono HCAN.out.2.2 (by rw [HL.out]; omega) (Nat.le_refl _)
            rw [hx] at hv0 hv ⊢
            clear hx
            have HOV : Hid (most < 10 * x + (y - 48) → numR l most = (0, 5)) := fun h => numR_over HCAN.out (by have := HMO.out; have := HX.out; omega)
            by_cases hm0 : most < 0
            · have HF := Lib.hid (HOV.out (by omega))
              have d1 : decide (most < 0) = true := by simp [hm0]
              go_wp2
              go_ret2
              first | rw [HF.out] | rw [HBL.out, HF.out]
              exact ⟨rfl, rfl⟩
            have d1 : decide (most < 0) = false := by simp; omega
            by_cases hm1 : most < y - 48
            · have HF := Lib.hid (HOV.out (by omega))
              have d2 : decide (y - 48 > most) = true := by simp; omega
              go_wp2
              go_ret2
              first | rw [HF.out] | rw [HBL.out, HF.out]
              exact ⟨rfl, rfl⟩
            have d2 : decide (y - 48 > most) = false := by simp; omega
            have hnn : 0 ≤ most - (y - 48) := by omega
            by_cases hbig : (most - (y - 48)) / 10 < x
            · have HF := Lib.hid (HOV.out (by omega))
              go_wp2
              go_ret2
              first | rw [HF.out] | rw [HBL.out, HF.out]
              exact ⟨rfl, rfl⟩
            · have HV : Hid (k + 1 = 0 ∨ val l (k + 1) ≤ most) := .inr (by have := HX.out; omega)
              have hbig' : x ≤ (most - (y - 48)) / 10 := by omega
              have hle : 10 * x + (y - 48) ≤ 9223372036854775807 := by omega
              go_wp2
              go_round
              case rel => exact ⟨k + 1, by omega, by go_num, by rw [HX.out], HV⟩
              case measure => simp [intOf]; omega
          · obtain rfl : k = s.size := by omega
            have HF : Hid (numR l most = (val l s.size, 0)) := by
              show _ = _
              rw [numR_ok HCAN.out (by rw [HL.out]; rcases hv.out with h | h; exact absurd h h0; exact h), HL.out]
            go_wp2
            go_ret2
            first | rw [HF.out] | rw [HBL.out, HF.out]
            exact ⟨rfl, rfl⟩
end Go.Proofs.YtonckpcbehobhaaDoor
