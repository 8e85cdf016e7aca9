/- How an argument of type api.Group is opened. -/
import Derived.Test.YtlcgjgmhllmekaaArg
import Derived.Test.YtlcgjgmhllmekaaDat
namespace Go.Proofs.Ytlcgjgmhllmekaa
open Go.ChangeShapes Go.WideShapes Go.ChangeAt Go.RowKit

theorem open_path {H : Type} {enc : TypeId × Value → H} {W : World} {cs : List Value} (h : Arg enc Try.prog W 38 cs) :
    ∃ p : PV, cs = p.vals ∧ (Ints W W.heap.size .i64 p.A p.ln p.lc p.ls ∧ p.ln ≤ 17592186044416) := by
  have hl := (h.struct Try.underlying38).1
  have hf := h.fields Try.underlying38 [(3, 0, 1), (36, 1, 1), (25, 2, 1), (3, 3, 1), (33, 4, 1), (3, 5, 1)] (by kernel_rfl)
  have h6 : cs.length = 6 := hl.trans (by kernel_rfl)
  match cs, h6 with
  | [c0, c1, c2, c3, c4, c5], _ =>
    have k3 : Try.prog.cellsOf 3 = 1 := by kernel_rfl
    have kb : Try.prog.bytesOf 3 = 8 := by kernel_rfl
    have g0 := hf 0 _ _ _ rfl
    have g1 := hf 1 _ _ _ rfl
    have g2 := hf 2 _ _ _ rfl
    have g3 := hf 3 _ _ _ rfl
    have g4 := hf 4 _ _ _ rfl
    have g5 := hf 5 _ _ _ rfl
    simp only [List.drop_succ_cons, List.drop_zero, List.take_succ_cons, List.take_zero] at g0 g1 g2 g3 g4 g5
    obtain ⟨a0, e0, _⟩ := Arg.int Try.underlying3 g0
    obtain ⟨a1, e1, _⟩ := Arg.int Try.underlying36 g1
    obtain ⟨a2, e2, _⟩ := Arg.int Try.underlying25 g2
    obtain ⟨a3, e3, _⟩ := Arg.int Try.underlying3 g3
    obtain ⟨A, n, c, xs, e4, hi, hb, _⟩ := Arg.ints Try.underlying33 Try.underlying3 k3 g4
    obtain ⟨a5, e5, _⟩ := Arg.int Try.underlying3 g5
    simp only [List.cons.injEq, and_true] at e0 e1 e2 e3 e4 e5
    subst e0 e1 e2 e3 e4 e5
    rw [kb] at hb
    exact ⟨⟨a0, a1, a2, a3, A, n, c, xs, a5⟩, rfl, hi, by have := hi.1; show n ≤ _; omega⟩

/-- a group as an argument -/
def GroupIn (W : World) (v : Value) : Prop := ∃ act A n c ds, v = .agg #[.int .i64 act, .slice A n c] ∧ GroupAt W W.heap.size A n c ds ∧ ShortD ds ∧ n ≤ 140737488355328 ∧ -9223372036854775808 ≤ act ∧ act ≤ 9223372036854775807
theorem open_group {H : Type} {enc : TypeId × Value → H} {W : World} {r : Reach} {b0 : Nat} {v : Value} (hv : Value.okWide Try.prog W r b0 24 v) (h : Arg enc Try.prog W 24 v.cells.toList) : GroupIn W v := by
  obtain ⟨cs, rfl, hsz⟩ := okWide_struct Try.underlying24 hv
  have h2 : cs.size = 2 := hsz.trans (by kernel_rfl)
  obtain ⟨l⟩ := cs
  match l, h2 with
  | [c0, c1], _ =>
    have h' : Arg enc Try.prog W 24 [c0, c1] := h
    have hf := h'.fields Try.underlying24 [(3, 0, 1), (22, 1, 1)] (by kernel_rfl)
    have kp : Try.prog.cellsOf 38 = 6 := by kernel_rfl
    have kb : Try.prog.bytesOf 38 = 56 := by kernel_rfl
    have g0 := hf 0 _ _ _ rfl
    have g1 := hf 1 _ _ _ rfl
    simp only [List.drop_succ_cons, List.drop_zero, List.take_succ_cons, List.take_zero] at g0 g1
    obtain ⟨act, e0, w0⟩ := Arg.int Try.underlying3 g0
    obtain ⟨A, n, c, ps, e1, hr, hb, hq⟩ := Arg.recs (f := PV.vals) Try.underlying22 kp (by omega) PV.vals_len (fun vs hvs => open_path hvs) g1
    simp only [List.cons.injEq, and_true] at e0 e1
    subst e0 e1
    rw [kb] at hb
    have hp : Paths W W.heap.size A n c ps := ⟨hr, fun p hp => (hq p hp).1⟩
    have hw := bounds_i64 w0
    refine ⟨act, A, n, c, ps.map PV.dat, rfl, ⟨ps, hp, rfl⟩, fun d hd => ?_, by have := hr.1.1; omega, hw.1, hw.2⟩
    obtain ⟨p, hpm, rfl⟩ := List.mem_map.1 hd
    show p.ls.length ≤ _
    rw [← hp.even p hpm]
    exact (hq p hpm).2
end Go.Proofs.Ytlcgjgmhllmekaa
