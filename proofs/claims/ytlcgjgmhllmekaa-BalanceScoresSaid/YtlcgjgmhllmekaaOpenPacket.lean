/- How an argument of type api.Packet is opened. -/
import Derived.Test.YtlcgjgmhllmekaaScoresWalk
import Derived.Test.YtlcgjgmhllmekaaOpen
namespace Go.Proofs.Ytlcgjgmhllmekaa
open Go.ChangeShapes Go.WideShapes Go.ChangeAt Go.RowKit

def PacketIn (v : Value) : Prop := ∃ src dst fl ttl L, v = .agg #[.int .u32 src, .int .u32 dst, .int .u32 fl, .int .i64 ttl, L] ∧ (0 ≤ src ∧ src < 4294967296) ∧ (0 ≤ dst ∧ dst < 4294967296) ∧ (0 ≤ fl ∧ fl < 4294967296)

theorem open_packet {H : Type} {enc : TypeId × Value → H} {W : World} {r : Reach} {b0 : Nat} {v : Value} {d : DataW H} {p : List MemPlace}
    (hv : Value.okWide Try.prog W r b0 44 v) (h : DataW.Trod enc Try.prog W 0 (fun _ => true) true 44 v d p) :
    PacketIn v ∧ ∀ (ts : List TypeId) (ds : List (DataW H)) (j : Nat), (DataW.weightsEach Try.prog ts ds).all (· ≤ reachBytes) = true → ts[j]? = some 44 → ds[j]? = some d → True := by
  refine ⟨?_, fun _ _ _ _ _ _ => trivial⟩
  obtain ⟨cs, rfl, hsz⟩ := okWide_struct Try.underlying44 hv
  have h5 : cs.size = 5 := hsz.trans (by kernel_rfl)
  obtain ⟨l⟩ := cs
  match l, h5 with
  | [c0, c1, c2, c3, c4], _ =>
    obtain ⟨fuel, hf⟩ := h
    obtain ⟨xs, n, _, _, _, hlen, hg⟩ := DataW.trod_struct Try.underlying44 hf
    have k36 : Try.prog.cellsOf 36 = 1 := by kernel_rfl
    have k25 : Try.prog.cellsOf 25 = 1 := by kernel_rfl
    have k3 : Try.prog.cellsOf 3 = 1 := by kernel_rfl
    match xs, hlen with
    | [y0, y1, y2, y3, y4], _ =>
      obtain ⟨a0, e0, _, w0⟩ := DataW.trod_int Try.underlying36 (hg 0 _ rfl)
      obtain ⟨a1, e1, _, w1⟩ := DataW.trod_int Try.underlying36 (hg 1 _ rfl)
      obtain ⟨a2, e2, _, w2⟩ := DataW.trod_int Try.underlying25 (hg 2 _ rfl)
      obtain ⟨a3, e3, _, w3⟩ := DataW.trod_int Try.underlying3 (hg 3 _ rfl)
      simp [Value.cells, k36, k25, k3] at e0 e1 e2 e3
      subst e0 e1 e2 e3
      have b0 := bounds_u32 w0
      have b1 := bounds_u32 w1
      have b2 := bounds_u32 w2
      exact ⟨a0, a1, a2, a3, c4, rfl, by omega, by omega, by omega⟩

theorem wide_of_wf {xs : List Int} (h : ∀ x ∈ xs, (Lit.int .i64 x).wf = true) : Wide xs := by
  intro j
  rw [List.getD_eq_getElem?_getD]
  cases hj : xs[j]? with
  | none => simp
  | some x => exact bounds_i64 (h x (List.mem_of_getElem? hj))

theorem balanceScores_walk (v0 : Value) (h0 : PacketIn v0) (flow i v : Int) (A : Option Addr) (n c : Nat) (ws : List Int) (w : World) (_ : True) (hf : (Lit.int .u32 flow).wf = true) (_hi : (Lit.int .i64 i).wf = true) (hv : (Lit.int .i64 v).wf = true)
    (hx : Ints w w.heap.size .i64 A n c ws) (hw : ∀ x ∈ ws, (Lit.int .i64 x).wf = true) (_hr : c * 8 ≤ 140737488351232) :
    Calls Try.prog 8 #[v0, .int .u32 flow, .int .i64 i, .int .i64 v, .slice A n c] w fun e w' => e = .returned (.bool true) ∧ Below w.heap.size w w' := by
  obtain ⟨src, dst, fl, ttl, L, rfl, b0, b1, b2⟩ := h0
  have b3 := bounds_u32 hf
  exact scores_walk0 src dst fl ttl L flow i v A n c ws w b0 b1 b2 (by omega) (bounds_i64 hv) hx (wide_of_wf hw)
end Go.Proofs.Ytlcgjgmhllmekaa
