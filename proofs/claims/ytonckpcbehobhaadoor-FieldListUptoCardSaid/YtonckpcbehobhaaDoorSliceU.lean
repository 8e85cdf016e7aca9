/- Cuts whose bounds are unsigned. -/
import Derived.Test.YtonckpcbehobhaaDoorBase
namespace Go.Proofs.YtonckpcbehobhaaDoor
open Go.RowKit
variable {w : World} {B : Nat} {k : IntKind} {A : Option Addr} {n c : Nat} {xs : List Int}
theorem Ints.sliceU {P : Program} {T E : TypeId} (hT : P.underlying T = some (.slice E)) (hE : (P.info? E).map (fun i => i.size) = some 1)
    (h : Ints w B k A n c xs) {lo hi : Nat} (h1 : lo ≤ hi) (h2 : hi ≤ n) :
    ∃ A' c', (∀ w' : World, (Instr.slice T (.slice A n c) (some (.int .i64 lo)) (some (.int .u64 hi)) none).run P w' = .ok (.slice A' (hi - lo) c') w') ∧ Ints w B k A' (hi - lo) c' ((xs.drop lo).take (hi - lo)) := by
  obtain ⟨A', c', hs, hy⟩ := Ints.slice hT hE h h1 h2
  refine ⟨A', c', fun w' => ?_, hy⟩
  rw [← hs w']
  have e1 : (0 : Int) ≤ (hi : Int) := by omega
  have e2 : ((hi : Nat) : Int) ≤ (c : Int) := by have := h.1; omega
  have e3 : (lo : Int) ≤ (hi : Int) := by omega
  have e4 : (0 : Int) ≤ (lo : Int) := by omega
  simp [Instr.slice, run_underlying hT, Instr.sliceBounds, run_sliceBound, e1, e2, e3, e4]
theorem Ints.sliceFromU {P : Program} {T E : TypeId} (hT : P.underlying T = some (.slice E)) (hE : (P.info? E).map (fun i => i.size) = some 1)
    (h : Ints w B k A n c xs) {lo : Nat} (h1 : lo ≤ n) :
    ∃ A' c', (∀ w' : World, (Instr.slice T (.slice A n c) (some (.int .u64 lo)) none none).run P w' = .ok (.slice A' (n - lo) c') w') ∧ Ints w B k A' (n - lo) c' (xs.drop lo) := by
  obtain ⟨A', c', hs, hy⟩ := Ints.sliceFrom hT hE h h1
  refine ⟨A', c', fun w' => ?_, hy⟩
  rw [← hs w']
  have e1 : (0 : Int) ≤ (lo : Int) := by omega
  have e2 : (lo : Int) ≤ (n : Int) := by omega
  simp [Instr.slice, run_underlying hT, Instr.sliceBounds, run_sliceBound, e1, e2]
end Go.Proofs.YtonckpcbehobhaaDoor
