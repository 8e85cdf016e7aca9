/- LfibFlows: the walk. -/
import Derived.Test.YtkgfcekcjehkdaaLaw46b
namespace Go.Proofs.Ytkgfcekcjehkdaa
open Go.ChangeShapes Go.WideShapes Go.ChangeAt Go.RowKit

def HopsIn (W : World) (v : Value) : Prop := ∃ A n c hs, v = .slice A n c ∧ Hops W W.heap.size A n c hs ∧ n ≤ 140737488355328
theorem open_hopsArg {H : Type} {enc : TypeId × Value → H} {W : World} {r : Reach} {b0 : Nat} {v : Value} (hv : Value.okWide Try.prog W r b0 41 v) (h : Arg enc Try.prog W 41 v.cells.toList) : HopsIn W v := by
  obtain ⟨a, l, c, rfl⟩ := okWide_slice Try.underlying41 hv
  obtain ⟨A, n, c', hs, e, hh, hn⟩ := open_hops h
  have e' : Value.slice a l c = .slice A n c' := by simpa [Value.cells] using e
  exact ⟨A, n, c', hs, e', hh, hn⟩
theorem tab_one (V : World) (N B : Nat) (x : Int) (A : Option Addr) (n c : Nat) (hs : List HV) (hN : N = V.heap.size) (hh : Hops V B A n c hs) (hB : B ≤ V.heap.size) :
    Tab (V.alloc (.cells #[.int .i64 x, .slice A n c] 43)) (V.alloc (.cells #[.int .i64 x, .slice A n c] 43)).heap.size (some ⟨N, 0, none⟩) 1 1 [⟨x, A, n, c, hs⟩] := by
  subst hN
  have h2 := World.ownsRow_lit (base := 0) (e := 43) (size := 2) V #[.int .i64 x, .slice A n c] 1 (Nat.zero_le _) (by simp [maxLen]) rfl
  refine ⟨⟨Cells.of_own h2, rfl⟩, fun e he => ?_⟩
  simp only [List.mem_cons, List.not_mem_nil, or_false] at he
  subst he
  exact (hh.below ((belowA V _).mono hB)).more (by simp; omega)
theorem flows_plain (A : Option Addr) (n c : Nat) (hs : List HV) (fl : Int) (he : tabErr [⟨16, A, n, c, hs⟩] = 0) (h0 : ¬ hs.length = 0) :
    (fwd [⟨16, A, n, c, hs⟩] ⟨0, 0, fl, 2, [16]⟩).2 = (rtAt hs (fl.toNat % hs.length), 0) := by
  unfold fwd
  rw [if_neg (by simp [he]), if_neg (by simp)]
  unfold stepR
  simp [look, h0, rtAt]
end Go.Proofs.Ytkgfcekcjehkdaa
