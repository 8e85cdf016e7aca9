/- Number: the walk. -/
import Derived.Test.YteohdanlcaoaiaaDoorNumber
namespace Go.Proofs.YteohdanlcaoaiaaDoor
open Go.RowKit

theorem numR_bad {l : List Int} {m : Int} (h : ¬ Canon l) : numR l m = (0, 2) := by unfold numR; rw [if_pos h]
theorem numR_over {l : List Int} {m : Int} (h : Canon l) (h1 : m < val l l.length) : numR l m = (0, 5) := by unfold numR; rw [if_neg (fun g => g h), if_pos h1]
theorem numR_ok {l : List Int} {m : Int} (h : Canon l) (h1 : val l l.length ≤ m) : numR l m = (val l l.length, 0) := by unfold numR; rw [if_neg (fun g => g h), if_neg (by omega)]
theorem canon_of {l : List Int} (h : canonB l = true) : Canon l := by
  by_cases hc : Canon l
  · exact hc
  · rw [canonB_false hc] at h; cases h
theorem not_canon_of {l : List Int} (h : canonB l = false) : ¬ Canon l := fun hc => by rw [canonB_true hc] at h; cases h
set_option maxHeartbeats 1000000 in
theorem number_walk (s : ByteArray) (most : Int) (w : World) (hs : s.size ≤ 140737488355328) (hm : -9223372036854775808 ≤ most ∧ most ≤ 9223372036854775807) :
    Calls Tryd.prog 65 #[.string s, .int .i64 most] w fun e w' => e = .returned (.tuple #[.int .i64 (numR (byts s) most).1, .int .i64 (numR (byts s) most).2]) ∧ w = w' := by
  have HC := Lib.hid (canonical_any s w hs)
  have HL := Lib.hid (byts_len s)
  have hm2 := hm.2
  cases hb : canonB (byts s) with
  | false =>
    rw [hb] at HC
    have HF := Lib.hid (numR_bad (m := most) (not_canon_of hb))
    clear hb
    go_enter Tryd.func65, Tryd.ntmps65
    go_wp2_with fail
    refine HC.out.mono ?_
    rintro e w1 ⟨rfl, rfl⟩
    go_wp2
    go_ret2
    rw [HF.out]
    exact ⟨rfl, rfl⟩
  | true =>
    rw [hb] at HC
    have HK := Lib.hid (canon_of hb)
    clear hb
    obtain ⟨l, hl⟩ : ∃ l, byts s = l := ⟨_, rfl⟩
    have HBL : Hid (byts s = l) := hl
    rw [hl] at HL HK ⊢
    clear hl
    go_enter Tryd.func65, Tryd.ntmps65
    go_wp2_with fail
    refine HC.out.mono ?_
    rintro e w1 ⟨rfl, rfl⟩
    go_wp2
    go_loop [6, 14] (fun n i => ∃ k : Nat, k ≤ s.size ∧ i = .int .i64 k ∧ n = .int .i64 (val l k) ∧ Hid (val l k ≤ 9223372036854775807)) (fun _ i => s.size - (intOf i).toNat)
    case atStart => exact ⟨0, Nat.zero_le _, rfl, rfl, by show val l 0 ≤ _; simp [val]⟩
    case round =>
      obtain ⟨k, hk, rfl, rfl, hv⟩ := hrel
      have hv0 : 0 ≤ val l k := val_nonneg HK.out.2.2 k (by rw [HL.out]; exact hk)
      by_cases hlt : k < s.size
      · have hks : (k : Int) < (s.size : Int) := by omega
        have hdg : dig (l.getD k 0) := HK.out.2.2 k (by rw [HL.out]; exact hlt)
        obtain ⟨y, hy⟩ : ∃ y, (s[k].toNat : Int) = y := ⟨_, rfl⟩
        have HY : Hid (l.getD k 0 = y) := by show _ = _; rw [← HBL.out, byts_at hlt]; exact hy
        rw [HY.out] at hdg
        obtain ⟨hd0, hd1⟩ := hdg
        have hw1 : IntKind.u8.wrap (y - 48) = y - 48 := by rw [IntKind.wrap_u8]; omega
        obtain ⟨x, hx⟩ : ∃ x, val l k = x := ⟨_, rfl⟩
        have HX : Hid (val l (k + 1) = 10 * x + (y - 48)) := by show _ = _; rw [val, HY.out, hx]
        have HMO : Hid (val l (k + 1) ≤ val l l.length) := val_mono HK.out.2.2 (by rw [HL.out]; omega) (Nat.le_refl _)
        rw [hx] at hv0 hv ⊢
        clear hx
        by_cases hbig : (9223372036854775807 - (y - 48)) / 10 < x
        · have HF : Hid (numR l most = (0, 5)) := by
            show _ = _
            refine numR_over HK.out ?_
            have := HMO.out
            have := HX.out
            omega
          clear HC hw1 HL HBL HY
          go_wp2
          go_ret2
          rw [HF.out]
          exact ⟨rfl, rfl⟩
        · have HV : Hid (val l (k + 1) ≤ 9223372036854775807) := by
            show _ ≤ _
            have := HX.out
            omega
          have hbig' : x ≤ (9223372036854775807 - (y - 48)) / 10 := by omega
          go_wp2
          go_round
          case rel => exact ⟨k + 1, by omega, by go_num, by rw [HX.out], HV⟩
          case measure => simp [intOf]; omega
      · obtain rfl : k = s.size := by omega
        have HL2 : Hid (l.length = s.size) := HL.out
        by_cases hmo : most < val l s.size
        · have HF : Hid (numR l most = (0, 5)) := by
            show _ = _
            exact numR_over HK.out (by rw [HL2.out]; exact hmo)
          have d : decide (val l s.size > most) = true := by simp [hmo]
          go_wp2
          go_ret2
          rw [HF.out]
          exact ⟨rfl, rfl⟩
        · have HF : Hid (numR l most = (val l s.size, 0)) := by
            show _ = _
            rw [numR_ok HK.out (by rw [HL2.out]; omega), HL2.out]
          have d : decide (val l s.size > most) = false := by simp; omega
          go_wp2
          go_ret2
          rw [HF.out]
          exact ⟨rfl, rfl⟩
end Go.Proofs.YteohdanlcaoaiaaDoor
