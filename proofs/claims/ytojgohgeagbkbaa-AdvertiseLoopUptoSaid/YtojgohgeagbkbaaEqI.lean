/- slices.Equal of numbers. -/
import Derived.Test.YtojgohgeagbkbaaU32
import Derived.Test.YtojgohgeagbkbaaSegs
namespace Go.Proofs.Ytojgohgeagbkbaa
open Go.RowKit

set_option maxHeartbeats 1000000 in
theorem equalInts_any (A B : Option Addr) (n c m d N M : Nat) (xs ys : List Int) (w : World) (hx : Ints w N .i64 A n c xs) (hy : Ints w M .i64 B m d ys) :
    Calls Try.prog 45 #[.slice A n c, .slice B m d] w fun e w' => e = .returned (.bool (decide (xs = ys))) ∧ Below w.heap.size w w' := by
  have HX := Lib.hid hx
  have HY := Lib.hid hy
  have HL := Lib.hid hx.len
  have HM := Lib.hid hy.len
  have hn : n ≤ 9223372036854775807 := by have h1 := hx.1; have h2 := hx.2.1; simp only [maxLen] at h2; omega
  have hm : m ≤ 9223372036854775807 := by have h1 := hy.1; have h2 := hy.2.1; simp only [maxLen] at h2; omega
  clear hx hy
  by_cases hnm : n = m
  case neg =>
    have HF : Hid (decide (xs = ys) = false) := decide_eq_false fun h => hnm (by rw [← HL.out, ← HM.out, h])
    have d0 : ((n : Int) != (m : Int)) = true := by simp; omega
    clear hnm
    go_enter Try.func45, Try.ntmps45
    go_wp2
    go_ret
    exact ⟨by rw [HF.out]; rfl, Below.refl _ _⟩
  subst hnm
  have d0 : ((n : Int) != (n : Int)) = false := by simp
  go_enter Try.func45, Try.ntmps45
  go_wp2
  go_loopw [13] (fun i wr => ∃ k : Nat, k ≤ n ∧ i = .int .i64 k ∧ Hid (∀ j, j < k → xs.getD j 0 = ys.getD j 0) ∧ Hid (∃ x, wr = w.drewN x)) (fun i _ => n - (intOf i).toNat)
  case atStart => exact ⟨0, Nat.zero_le _, rfl, fun j hj => absurd hj (by omega), 0, rfl⟩
  case round =>
    obtain ⟨k, hk, rfl, heq, hdr⟩ := hrel
    obtain ⟨x0, rfl⟩ := hdr.out
    have HBW : Hid (Below w.heap.size w (w.drewN x0)) := below_drewN (Below.refl _ _) _
    by_cases hlt : k < n
    case neg =>
      obtain rfl : k = n := by omega
      have HF : Hid (decide (xs = ys) = true) := decide_eq_true (List.ext_getElem? fun t => by
        rcases Nat.lt_or_ge t k with h | h
        · have h1 := heq.out t h
          rw [List.getD_eq_getElem?_getD, List.getD_eq_getElem?_getD, List.getElem?_eq_getElem (by rw [HL.out]; exact h), List.getElem?_eq_getElem (by rw [HM.out]; exact h)] at h1
          rw [List.getElem?_eq_getElem (by rw [HL.out]; exact h), List.getElem?_eq_getElem (by rw [HM.out]; exact h)]
          exact congrArg some h1
        · rw [List.getElem?_eq_none (by rw [HL.out]; exact h), List.getElem?_eq_none (by rw [HM.out]; exact h)])
      go_wp2
      go_ret
      exact ⟨by rw [HF.out]; rfl, HBW.out⟩
    obtain ⟨b2, o2, x, rfl, hb2, gx, hxx⟩ := HX.out.cell hlt
    obtain ⟨b2', o2', x', rfl, hb2', gx', hxx'⟩ := HY.out.cell hlt
    by_cases hxe : x = x'
    · have d3 : (x != x') = false := by simp [hxe]
      have HN : Hid (∀ t, t < k + 1 → xs.getD t 0 = ys.getD t 0) := fun t ht => by
        rcases Nat.lt_or_ge t k with h | h
        · exact heq.out t h
        · obtain rfl : t = k := by omega
          rw [hxx.out, hxx'.out, hxe]
      clear hxx hxx' hxe
      go_wp2
      go_quiet (fail)
      go_wp2
      go_roundw
      case rel => exact ⟨k + 1, by omega, by go_num, HN, _, rfl⟩
      case measure => simp [intOf]; omega
    · have d3 : (x != x') = true := by simp [hxe]
      have HF : Hid (decide (xs = ys) = false) := decide_eq_false fun h => hxe (by rw [← hxx.out, ← hxx'.out, h])
      clear hxx hxx' hxe
      go_wp2
      go_quiet (fail)
      go_wp2
      go_ret
      exact ⟨by rw [HF.out]; rfl, below_drewN HBW.out _⟩
end Go.Proofs.Ytojgohgeagbkbaa
