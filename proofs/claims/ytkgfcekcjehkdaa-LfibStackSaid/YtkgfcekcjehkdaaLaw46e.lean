/- LfibStack: the plain law. -/
import Derived.Test.YtkgfcekcjehkdaaLaw46b
namespace Go.Proofs.Ytkgfcekcjehkdaa
open Go.RowKit

theorem stack_plain (es : List EV) (src dst fl ttl x : Int) (b : List Int) :
    (fwd es ⟨src, dst, fl, ttl, b ++ [x]⟩).2 = (fwd es ⟨src, dst, fl, ttl, [x]⟩).2 ∧ (fwd es ⟨src, dst, fl, ttl, b ++ [x]⟩).1.ttl = (fwd es ⟨src, dst, fl, ttl, [x]⟩).1.ttl ∧
      ((fwd es ⟨src, dst, fl, ttl, [x]⟩).2.2 = 0 → (fwd es ⟨src, dst, fl, ttl, b ++ [x]⟩).1.ls = b ++ (fwd es ⟨src, dst, fl, ttl, [x]⟩).1.ls) := by
  unfold fwd
  by_cases h : tabErr es ≠ 0
  · rw [if_pos h, if_pos h]
    exact ⟨rfl, rfl, fun h' => absurd h' h⟩
  rw [if_neg h, if_neg h, if_neg (by simp), if_neg (by simp)]
  have e1 : (b ++ [x]).getD ((b ++ [x]).length - 1) 0 = x := by
    rw [List.getD_eq_getElem?_getD, List.length_append, List.length_singleton, Nat.add_sub_cancel, List.getElem?_append_right (Nat.le_refl _)]
    simp
  unfold stepR
  simp only [e1, List.length_singleton, Nat.sub_self]
  rw [show ([x] : List Int).getD 0 0 = x from rfl]
  cases look es x with
  | none => exact ⟨rfl, rfl, fun h => by cases h⟩
  | some hs =>
    by_cases h0 : hs.length = 0
    · simp [h0]
    · by_cases h1 : ttl ≤ 1
      · simp [h0, h1]
      · simp only [h0, h1, if_false]
        refine ⟨trivial, rfl, fun _ => ?_⟩
        unfold hopOut
        by_cases h2 : ((hs[fl.toNat % hs.length]?).getD ⟨0, 0⟩).label = -1
        · simp [h2]
        · simp [h2]
end Go.Proofs.Ytkgfcekcjehkdaa
