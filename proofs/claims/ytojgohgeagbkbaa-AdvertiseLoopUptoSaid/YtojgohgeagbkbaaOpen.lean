/- How an argument that came in is opened: a slice of one-cell integers as 'Ints', with the reach's bound on its capacity. -/
import Derived.Test.YtojgohgeagbkbaaBase
import Derived.ProofKit
import Derived.OpenShut
import Derived.ShutString
import Derived.ChangeOld
import Derived.SizedLaws
namespace Go.Proofs.Ytojgohgeagbkbaa
open Go.ChangeShapes Go.WideShapes Go.ChangeAt Go.RowKit

theorem own : ownKnob Try.prog.godebug = none := by kernel_rfl
theorem laidOut : laidOutB Try.prog = true := by kernel_rfl

theorem open_ints_arg {H : Type} {enc : TypeId × Value → H} {P : Program} {W : World} {r : Reach} {b0 : Nat} {t e : TypeId} {k : IntKind} {v : Value} {d : DataW H} {p : List MemPlace}
    (ht : P.underlying t = some (.slice e)) (he : P.underlying e = some (.int k)) (hc : P.cellsOf e = 1) (hv : Value.okWide P W r b0 t v)
    (h : DataW.Trod enc P W 0 (fun _ => true) true t v d p) :
    ∃ A n c xs, v = .slice A n c ∧ Ints W W.heap.size k A n c xs ∧ (∀ x ∈ xs, (Lit.int k x).wf = true) ∧
      (∀ (ts : List TypeId) (ds : List (DataW H)) (j : Nat), (DataW.weightsEach P ts ds).all (· ≤ reachBytes) = true → ts[j]? = some t → ds[j]? = some d → c * P.bytesOf e ≤ reachBytes) := by
  obtain ⟨a0, len0, cap0, rfl⟩ := okWide_slice ht hv
  obtain ⟨fuel, hf⟩ := h
  rcases open_ints ht he hc hf with ⟨hcs, _⟩ | ⟨x, l, c, zs, hcs, _, hl, hm, hz, hx, hcell, hwz⟩
  · simp [Value.cells] at hcs
    obtain ⟨rfl, rfl, rfl⟩ := hcs
    exact ⟨none, 0, 0, [], rfl, Ints.nil _ _ _, by simp, fun _ _ _ _ _ _ => by simp⟩
  · simp [Value.cells] at hcs
    obtain ⟨rfl, rfl, rfl⟩ := hcs
    have hz' : zs.length = cap0 := by simpa using hz
    refine ⟨some x, len0, cap0, zs.take len0, rfl, ⟨hl, hm, by simp; omega, fun hn => ?_⟩, fun y hy => hwz y (List.mem_of_mem_take hy), fun ts ds j hsz h1 h2 => ?_⟩
    · obtain ⟨b, off, spot⟩ := x
      have hc0 := hcell 0 (by omega)
      have hs : spot = none := by simpa [Addr.add] using World.cell?_spot hc0
      subst hs
      refine ⟨b, off, rfl, World.block_lt_of_cell? W ⟨b, off, none⟩ (by simpa [Addr.add] using hc0), fun j hj => ?_⟩
      have hj' : j < zs.length := by omega
      have hcj := hcell j hj'
      have e1 : (⟨b, off, none⟩ : Addr).add j = ⟨b, off + j, none⟩ := by by_cases h0 : j = 0 <;> simp [Addr.add, h0]
      rw [e1] at hcj
      have hjl : j < len0 := by omega
      rw [hcj, List.getElem?_map, List.getElem?_take, if_pos hjl, List.getElem?_eq_getElem hj', List.getD_eq_getElem?_getD, List.getElem?_eq_getElem hj']
      rfl
    · have hd : d = .slice (lits k (zs.take len0)) (lits k (zs.drop len0)) := by
        have := congrArg Prod.fst hx
        exact this
      subst hd
      have := sized_slice hsz h1 h2 ht
      simp only [lits, List.length_map, List.length_take, List.length_drop] at this
      have e1 : min len0 zs.length + (zs.length - len0) = cap0 := by omega
      rw [e1] at this
      exact this

theorem bytes_of_wf {xs : List Int} (h : ∀ x ∈ xs, (Lit.int .u8 x).wf = true) : ∀ j, 0 ≤ xs.getD j 0 ∧ xs.getD j 0 ≤ 255 := by
  intro j
  rw [List.getD_eq_getElem?_getD]
  cases hj : xs[j]? with
  | none => simp
  | some x => exact bounds_u8 (h x (List.mem_of_getElem? hj))
end Go.Proofs.Ytojgohgeagbkbaa
