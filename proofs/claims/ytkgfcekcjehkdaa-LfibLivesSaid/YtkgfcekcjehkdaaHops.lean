/- checkHops. -/
import Derived.Test.YtkgfcekcjehkdaaTab
import Derived.Deep.DeepCutAuto
namespace Go.Proofs.Ytkgfcekcjehkdaa
open Go.RowKit

theorem hopErr_of {hs : List HV} {k : Nat} {x : HV} (hx : hs[k]? = some x) : hopErr hs k = if x.router = 0 ∨ (x.label ≠ -1 ∧ labOK x.label = false) then 5 else if 0 < k ∧ x.router ≤ rtAt hs (k - 1) then 16 else 0 := by
  unfold hopErr rtAt lbAt
  rw [hx]
  rfl
theorem rt_of {hs : List HV} {k : Nat} {x : HV} (hx : hs[k]? = some x) : rtAt hs k = x.router := by unfold rtAt; rw [hx]; rfl

set_option maxHeartbeats 2000000 in
theorem checkHops_any (A : Option Addr) (n c B : Nat) (hs : List HV) (w : World) (hx : Hops w B A n c hs) (hB : B ≤ w.heap.size) (hn : n ≤ 140737488355328) :
    Calls Try.prog 24 #[.slice A n c] w fun e w' => e = .returned (.int .i64 (hopsErr hs)) ∧ Below w.heap.size w w' := by
  have hl := hx.len
  by_cases h64 : 64 < n
  · have HE : Hid (hopsErr hs = 4) := by show _ = _; rw [hopsErr, if_pos (by omega)]
    clear hx hl
    go_enter Try.func24, Try.ntmps24
    go_wp2
    go_ret
    exact ⟨ret_int HE.out.symm, Below.refl _ _⟩
  have HE : Hid (hopsErr hs = firstE (hopErr hs) n) := by show _ = _; rw [hopsErr, if_neg (by omega), hl]
  have HX := Lib.hid hx
  clear hx hl
  go_enter Try.func24, Try.ntmps24
  go_wp2
  go_loopw [10] (fun i wr => ∃ k : Nat, k ≤ n ∧ i = .int .i64 k ∧ Hid (firstE (hopErr hs) k = 0) ∧ Hid (Below w.heap.size w wr)) (fun i _ => n - (intOf i).toNat)
  case atStart => exact ⟨0, Nat.zero_le _, rfl, rfl, Below.refl _ _⟩
  case round =>
    obtain ⟨k, hk, rfl, h0, hb⟩ := hrel
    by_cases hlt : k < n
    · have HX2 : Hid (Hops wr B A n c hs) := HX.out.below (hb.out.mono hB)
      obtain ⟨b, o, x, rfl, hbB, hxk, c0, c1⟩ := HX2.out.get hlt
      have HO := Lib.hid (hopErr_of hxk)
      have HAT : Hid (∀ v : Int, hopErr hs k = v → v ≠ 0 → hopsErr hs = v) := fun v hv hne => by rw [HE.out, firstE_at h0.out (by rw [hv]; exact hne) hlt, hv]
      have HST : Hid (hopErr hs k = 0 → firstE (hopErr hs) (k + 1) = 0) := fun hv => firstE_step h0.out hv
      have hbw : b < wr.heap.size := by have := hb.out.size; omega
      have HB2 : Hid (Below w.heap.size w (wr.alloc (.cells #[.int .u32 x.router, .int .i64 x.label] 45))) := hb.out.alloc hb.out.size _
      by_cases hr : x.router = 0
      · have HF : Hid (hopsErr hs = 5) := HAT.out 5 (by rw [HO.out, if_pos (.inl hr)]) (by omega)
        have dr : (x.router == 0) = true := by simp [hr]
        clear hr hxk
        go_wp2_with fail
        go_ret
        exact ⟨ret_int HF.out.symm, HB2.out⟩
      have dr : (x.router == 0) = false := by simp [hr]
      have hlab : (x.label = -1) ∨ (x.label ≠ -1 ∧ labOK x.label = false) ∨ (x.label ≠ -1 ∧ labOK x.label = true) := by
        by_cases h1 : x.label = -1
        · exact .inl h1
        · cases h2 : labOK x.label
          · exact .inr (.inl ⟨h1, rfl⟩)
          · exact .inr (.inr ⟨h1, rfl⟩)
      rcases hlab with h1 | ⟨h1, h2⟩ | ⟨h1, h2⟩
      case' inl =>
        have dl : (x.label != -1) = false := by simp [h1]
        have HO' : Hid (hopErr hs k = if 0 < k ∧ x.router ≤ rtAt hs (k - 1) then 16 else 0) := by show _ = _; rw [HO.out, if_neg (by simp [hr, h1])]
        clear hr h1 HO
        go_upto_region 8 with fail
      case' inr.inl =>
        have HF : Hid (hopsErr hs = 5) := HAT.out 5 (by rw [HO.out, if_pos (.inr ⟨h1, h2⟩)]) (by omega)
        have dl : (x.label != -1) = true := by simp [h1]
        have H2 := Lib.hid h2
        clear hr hxk h1 h2
        go_wp2_with fail
        refine (label_any x.label _).mono ?_
        rintro e w2 ⟨rfl, rfl⟩
        rw [H2.out]
        go_wp2_with fail
        go_ret
        exact ⟨ret_int HF.out.symm, HB2.out⟩
      case' inr.inr =>
        have dl : (x.label != -1) = true := by simp [h1]
        have HO' : Hid (hopErr hs k = if 0 < k ∧ x.router ≤ rtAt hs (k - 1) then 16 else 0) := by show _ = _; rw [HO.out, if_neg (by simp [hr, h2])]
        have H2 := Lib.hid h2
        clear hr h1 HO h2
        go_wp2_with fail
        refine (label_any x.label _).mono ?_
        rintro e w2 ⟨rfl, rfl⟩
        rw [H2.out]
        go_upto_region 8 with fail
      all_goals
        rcases Nat.eq_zero_or_pos k with hk0 | hk0
        · subst hk0
          have HZ : Hid (firstE (hopErr hs) (0 + 1) = 0) := HST.out (by rw [HO'.out, if_neg (by omega)])
          clear hxk
          go_quiet (fail)
          go_wp2
          go_roundw
          case rel => exact ⟨0 + 1, by omega, by go_num, HZ, below_drewN HB2.out _⟩
          case measure => simp [intOf]; omega
        · obtain ⟨b2, o2, y, hA2, _, hyk, e0, _⟩ := HX2.out.get (j := k - 1) (by omega)
          simp only [Option.some.injEq, Addr.mk.injEq] at hA2
          obtain ⟨rfl, rfl, _⟩ := hA2
          have hry := rt_of hyk
          have hws : IntKind.i64.wrap ((k : Int) - 1) = ((k - 1 : Nat) : Int) := by rw [IntWalk.i64_in _ (by omega)]; omega
          have hdk : decide (0 < k) = true := by simp; omega
          have hdk' : decide ((0 : Int) < (k : Int)) = true := by simp; omega
          rw [hry] at HO'
          by_cases hle : x.router ≤ y.router
          · have HF : Hid (hopsErr hs = 16) := HAT.out 16 (by rw [HO'.out, if_pos ⟨hk0, hle⟩]) (by omega)
            have dle : decide (x.router ≤ y.router) = true := by simp [hle]
            clear hxk hyk hry hle
            go_quiet (fail)
            go_wp2
            go_ret
            exact ⟨ret_int HF.out.symm, below_drewN HB2.out _⟩
          · have HZ : Hid (firstE (hopErr hs) (k + 1) = 0) := HST.out (by rw [HO'.out, if_neg (by omega)])
            have dle : decide (x.router ≤ y.router) = false := by simp; omega
            clear hxk hyk hry hle
            go_quiet (fail)
            go_wp2
            go_roundw
            case rel => exact ⟨k + 1, by omega, by go_num, HZ, below_drewN HB2.out _⟩
            case measure => simp [intOf]; omega
    · obtain rfl : k = n := by omega
      have HF : Hid (hopsErr hs = 0) := by show _ = _; rw [HE.out, h0.out]
      go_wp2
      go_ret
      exact ⟨ret_int HF.out.symm, hb.out⟩
end Go.Proofs.Ytkgfcekcjehkdaa
