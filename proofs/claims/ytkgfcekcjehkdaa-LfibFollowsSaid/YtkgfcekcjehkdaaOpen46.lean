/- How the arguments of chapter 46's laws are opened. -/
import Derived.Test.YtkgfcekcjehkdaaArg
import Derived.Test.YtkgfcekcjehkdaaAwake46b
namespace Go.Proofs.Ytkgfcekcjehkdaa
open Go.ChangeShapes Go.WideShapes Go.ChangeAt Go.RowKit

theorem open_hop {H : Type} {enc : TypeId × Value → H} {W : World} {cs : List Value} (h : Arg enc Try.prog W 45 cs) : ∃ x : HV, cs = x.vals ∧ True := by
  have hl := (h.struct Try.underlying45).1
  have hf := h.fields Try.underlying45 [(23, 0, 1), (3, 1, 1)] (by kernel_rfl)
  have h2 : cs.length = 2 := hl.trans (by kernel_rfl)
  match cs, h2 with
  | [c0, c1], _ =>
    have g0 := hf 0 _ _ _ rfl
    have g1 := hf 1 _ _ _ rfl
    simp only [List.drop_succ_cons, List.drop_zero, List.take_succ_cons, List.take_zero] at g0 g1
    obtain ⟨a0, e0, _⟩ := Arg.int Try.underlying23 g0
    obtain ⟨a1, e1, _⟩ := Arg.int Try.underlying3 g1
    simp only [List.cons.injEq, and_true] at e0 e1
    subst e0 e1
    exact ⟨⟨a0, a1⟩, rfl, trivial⟩
theorem open_hops {H : Type} {enc : TypeId × Value → H} {W : World} {cs : List Value} (h : Arg enc Try.prog W 41 cs) : ∃ A n c hs, cs = [.slice A n c] ∧ Hops W W.heap.size A n c hs ∧ n ≤ 140737488355328 := by
  have kp : Try.prog.cellsOf 45 = 2 := by kernel_rfl
  have kb : Try.prog.bytesOf 45 = 16 := by kernel_rfl
  obtain ⟨A, n, c, hs, e, hr, hb, _⟩ := Arg.recs (f := HV.vals) Try.underlying41 kp (by omega) HV.vals_len (fun vs hvs => open_hop hvs) h
  rw [kb] at hb
  exact ⟨A, n, c, hs, e, hr, by have := hr.1.1; omega⟩
theorem open_entry {H : Type} {enc : TypeId × Value → H} {W : World} {cs : List Value} (h : Arg enc Try.prog W 43 cs) : ∃ e : EV, cs = e.vals ∧ (Hops W W.heap.size e.A e.n e.c e.hs ∧ e.n ≤ 140737488355328) := by
  have hl := (h.struct Try.underlying43).1
  have hf := h.fields Try.underlying43 [(3, 0, 1), (41, 1, 1)] (by kernel_rfl)
  have h2 : cs.length = 2 := hl.trans (by kernel_rfl)
  match cs, h2 with
  | [c0, c1], _ =>
    have g0 := hf 0 _ _ _ rfl
    have g1 := hf 1 _ _ _ rfl
    simp only [List.drop_succ_cons, List.drop_zero, List.take_succ_cons, List.take_zero] at g0 g1
    obtain ⟨a0, e0, _⟩ := Arg.int Try.underlying3 g0
    obtain ⟨A, n, c, hs, e1, hh, hn⟩ := open_hops g1
    simp only [List.cons.injEq, and_true] at e0 e1
    subst e0 e1
    exact ⟨⟨a0, A, n, c, hs⟩, rfl, hh, hn⟩
/-- a table as an argument -/
def TabIn (W : World) (v : Value) : Prop := ∃ A n c es, v = .slice A n c ∧ Tab W W.heap.size A n c es ∧ n ≤ 140737488355328 ∧ ∀ e ∈ es, e.n ≤ 140737488355328
theorem open_tab {H : Type} {enc : TypeId × Value → H} {W : World} {cs : List Value} (h : Arg enc Try.prog W 22 cs) : ∃ v, cs = [v] ∧ TabIn W v := by
  have kp : Try.prog.cellsOf 43 = 2 := by kernel_rfl
  have kb : Try.prog.bytesOf 43 = 32 := by kernel_rfl
  obtain ⟨A, n, c, es, e, hr, hb, hq⟩ := Arg.recs (f := EV.vals) Try.underlying22 kp (by omega) EV.vals_len (fun vs hvs => open_entry hvs) h
  rw [kb] at hb
  exact ⟨_, e, A, n, c, es, rfl, ⟨hr, fun x hx => (hq x hx).1⟩, by have := hr.1.1; omega, fun x hx => (hq x hx).2⟩
theorem open_table {H : Type} {enc : TypeId × Value → H} {W : World} {r : Reach} {b0 : Nat} {v : Value} (hv : Value.okWide Try.prog W r b0 22 v) (h : Arg enc Try.prog W 22 v.cells.toList) : TabIn W v := by
  obtain ⟨a, l, c, rfl⟩ := okWide_slice Try.underlying22 hv
  obtain ⟨v', e, h'⟩ := open_tab h
  have : Value.slice a l c = v' := by simpa [Value.cells] using e
  rw [this]
  exact h'
/-- a packet as an argument -/
def PkIn (W : World) (v : Value) : Prop := ∃ (p : PD) (A : Option Addr) (n c : Nat), v = .agg #[.int .u32 p.src, .int .u32 p.dst, .int .u32 p.flow, .int .i64 p.ttl, .slice A n c] ∧ Ints W W.heap.size .i64 A n c p.ls ∧ n ≤ 17592186044416 ∧ (∀ x ∈ p.ls, -9223372036854775808 ≤ x ∧ x ≤ 9223372036854775807) ∧ (0 ≤ p.flow ∧ p.flow < 4294967296) ∧ (-9223372036854775808 ≤ p.ttl ∧ p.ttl ≤ 9223372036854775807)
theorem open_packet {H : Type} {enc : TypeId × Value → H} {W : World} {r : Reach} {b0 : Nat} {v : Value} (hv : Value.okWide Try.prog W r b0 27 v) (h : Arg enc Try.prog W 27 v.cells.toList) : PkIn W v := by
  obtain ⟨cs, rfl, hsz⟩ := okWide_struct Try.underlying27 hv
  have h5 : cs.size = 5 := hsz.trans (by kernel_rfl)
  obtain ⟨l⟩ := cs
  match l, h5 with
  | [c0, c1, c2, c3, c4], _ =>
    have h' : Arg enc Try.prog W 27 [c0, c1, c2, c3, c4] := h
    have hf := h'.fields Try.underlying27 [(24, 0, 1), (24, 1, 1), (23, 2, 1), (3, 3, 1), (25, 4, 1)] (by kernel_rfl)
    have k3 : Try.prog.cellsOf 3 = 1 := by kernel_rfl
    have kb : Try.prog.bytesOf 3 = 8 := by kernel_rfl
    have g0 := hf 0 _ _ _ rfl
    have g1 := hf 1 _ _ _ rfl
    have g2 := hf 2 _ _ _ rfl
    have g3 := hf 3 _ _ _ rfl
    have g4 := hf 4 _ _ _ rfl
    simp only [List.drop_succ_cons, List.drop_zero, List.take_succ_cons, List.take_zero] at g0 g1 g2 g3 g4
    obtain ⟨a0, e0, _⟩ := Arg.int Try.underlying24 g0
    obtain ⟨a1, e1, _⟩ := Arg.int Try.underlying24 g1
    obtain ⟨a2, e2, w2⟩ := Arg.int Try.underlying23 g2
    obtain ⟨a3, e3, w3⟩ := Arg.int Try.underlying3 g3
    obtain ⟨A, n, c, xs, e4, hi, hb, hx⟩ := Arg.ints Try.underlying25 Try.underlying3 k3 g4
    simp only [List.cons.injEq, and_true] at e0 e1 e2 e3 e4
    subst e0 e1 e2 e3 e4
    rw [kb] at hb
    have b2 := bounds_u32 w2
    exact ⟨⟨a0, a1, a2, a3, xs⟩, A, n, c, rfl, hi, by have := hi.1; omega, fun x hm => bounds_i64 (hx x hm), ⟨by show 0 ≤ a2; omega, by show a2 < _; omega⟩, bounds_i64 w3⟩
end Go.Proofs.Ytkgfcekcjehkdaa
