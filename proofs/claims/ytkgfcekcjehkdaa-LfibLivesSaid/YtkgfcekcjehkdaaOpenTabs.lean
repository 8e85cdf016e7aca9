/- A list of tables as an argument. -/
import Derived.Test.YtkgfcekcjehkdaaOpen46
import Derived.Test.YtkgfcekcjehkdaaFollow
namespace Go.Proofs.Ytkgfcekcjehkdaa
open Go.ChangeShapes Go.WideShapes Go.ChangeAt Go.RowKit

def TabsIn (W : World) (v : Value) : Prop := ∃ A n c ts, v = .slice A n c ∧ Tabs W W.heap.size A n c ts ∧ ∀ t ∈ ts, t.n ≤ 140737488355328 ∧ ∀ e ∈ t.es, e.n ≤ 140737488355328
theorem open_tv {H : Type} {enc : TypeId × Value → H} {W : World} {cs : List Value} (h : Arg enc Try.prog W 22 cs) : ∃ t : TV, cs = t.vals ∧ (Tab W W.heap.size t.A t.n t.c t.es ∧ t.n ≤ 140737488355328 ∧ ∀ e ∈ t.es, e.n ≤ 140737488355328) := by
  obtain ⟨v, e, A, n, c, es, rfl, h1, h2, h3⟩ := open_tab h
  exact ⟨⟨A, n, c, es⟩, e, h1, h2, h3⟩
theorem open_tabs {H : Type} {enc : TypeId × Value → H} {W : World} {r : Reach} {b0 : Nat} {v : Value} (hv : Value.okWide Try.prog W r b0 47 v) (h : Arg enc Try.prog W 47 v.cells.toList) : TabsIn W v := by
  obtain ⟨a, l, c, rfl⟩ := okWide_slice Try.underlying47 hv
  have kp : Try.prog.cellsOf 22 = 1 := by kernel_rfl
  obtain ⟨A, n, c', ts, e, hr, _, hq⟩ := Arg.recs (f := TV.vals) Try.underlying47 kp (by omega) TV.vals_len (fun vs hvs => open_tv hvs) h
  have : Value.slice a l c = .slice A n c' := by simpa [Value.cells] using e
  rw [this]
  exact ⟨A, n, c', ts, rfl, ⟨hr, fun x hx => (hq x hx).1⟩, fun x hx => (hq x hx).2⟩
end Go.Proofs.Ytkgfcekcjehkdaa
