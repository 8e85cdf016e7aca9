/- How an argument of type [3]int is opened. -/
import Derived.Test.YteohdanlcaoaiaaDoorOpen
namespace Go.Proofs.YteohdanlcaoaiaaDoor
open Go.ChangeShapes Go.WideShapes Go.ChangeAt Go.RowKit

theorem okWide_array {P : Program} {w : World} {r : Reach} {base : Nat} {t e : TypeId} {n : Nat} {v : Value} (ht : P.underlying t = some (.array n e)) (h : Value.okWide P w r base t v) : ∃ cs, v = .agg cs ∧ cs.size = P.cellsOf t := by
  simp only [Value.okWide, ht] at h
  obtain ⟨cs, h1, h2, _⟩ := h
  exact ⟨cs, h1, h2⟩
set_option maxRecDepth 100000 in
theorem open_three {H : Type} {enc : TypeId × Value → H} {W : World} {r : Reach} {b0 : Nat} {v : Value} {d : DataW H} {p : List MemPlace} (hv : Value.okWide Tryd.prog W r b0 38 v)
    (h : DataW.Trod enc Tryd.prog W 0 (fun _ => true) true 38 v d p) : ∃ x y z, v = .agg #[.int .i64 x, .int .i64 y, .int .i64 z] := by
  obtain ⟨cs, rfl, hsz⟩ := okWide_array Tryd.underlying38 hv
  obtain ⟨fuel, hf⟩ := h
  obtain ⟨xs, m, _, _, _, hlen, hel⟩ := DataW.trod_array Tryd.underlying38 hf
  have k1 : Tryd.prog.cellsOf 3 = 1 := by kernel_rfl
  have h3 : cs.size = 3 := hsz.trans (by kernel_rfl)
  obtain ⟨l⟩ := cs
  match l, h3 with
  | [c0, c1, c2], _ =>
    rw [k1] at hel
    have g0 := hel 0 (by omega)
    have g1 := hel 1 (by omega)
    have g2 := hel 2 (by omega)
    rw [List.getElem?_eq_getElem (by omega)] at g0 g1 g2
    have one : ∀ {c : Value} {y : DataW H × List MemPlace}, DataW.trod enc Tryd.prog W 0 (fun _ => true) true m 3 [c] = some y → ∃ x, c = .int .i64 x := by
      intro c y hy
      obtain ⟨x, h1, _⟩ := DataW.trod_int Tryd.underlying3 hy
      exact ⟨x, by simpa using h1⟩
    obtain ⟨x, rfl⟩ := one g0
    obtain ⟨y, rfl⟩ := one g1
    obtain ⟨z, rfl⟩ := one g2
    exact ⟨x, y, z, rfl⟩
end Go.Proofs.YteohdanlcaoaiaaDoor
