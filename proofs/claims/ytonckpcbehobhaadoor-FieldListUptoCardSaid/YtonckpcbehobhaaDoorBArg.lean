/- Arguments opened with the bound on their bulk: bytes, a field, a list of fields. -/
import Derived.Test.YtonckpcbehobhaaDoorOpen
import Derived.Test.YtonckpcbehobhaaDoorBound03
import Derived.Test.YtonckpcbehobhaaDoorTlvOut
import Derived.ProofKit
namespace Go.Proofs.YtonckpcbehobhaaDoor
open Go.ChangeShapes Go.WideShapes Go.ChangeAt Go.RowKit

section
variable {H : Type} {enc : TypeId × Value → H} {W : World}
theorem lits_bulk {k : IntKind} : ∀ xs : List Int, xs.length ≤ Rows.uptoBulkAll (H := H) (lits k xs)
  | [] => by simp
  | x :: r => by
    have := lits_bulk (k := k) r
    have e : (lits k (x :: r) : List (DataW H)) = .lit (.int k x) :: lits k r := rfl
    rw [e]
    simp only [Rows.uptoBulkAll, Rows.uptoBulk, List.length_cons]
    omega
theorem bytes_trod {fuel : Nat} {cs : List Value} {x : DataW H × List MemPlace} (h : DataW.trod enc Tryd.prog W 0 (fun _ => true) true fuel 22 cs = some x) :
    ∃ A n c xs, cs = [.slice A n c] ∧ Ints W W.heap.size .u8 A n c xs ∧ (∀ y ∈ xs, (Lit.int .u8 y).wf = true) ∧ xs.length ≤ Rows.uptoBulk x.1 := by
  have hc : Tryd.prog.cellsOf 5 = 1 := by kernel_rfl
  rcases open_ints Tryd.underlying22 Tryd.underlying5 hc h with ⟨rfl, _⟩ | ⟨a, l, c, zs, rfl, _, hl, hm, hz, hx, hcell, hwz⟩
  · exact ⟨none, 0, 0, [], rfl, Ints.nil _ _ _, by simp, by simp⟩
  · have hz' : zs.length = c := by simpa using hz
    refine ⟨some a, l, c, zs.take l, rfl, ⟨hl, hm, by simp; omega, fun hn => ?_⟩, fun y hy => hwz y (List.mem_of_mem_take hy), ?_⟩
    · obtain ⟨b, off, spot⟩ := a
      have hc0 := hcell 0 (by omega)
      have hs : spot = none := by simpa [Addr.add] using World.cell?_spot hc0
      subst hs
      refine ⟨b, off, rfl, World.block_lt_of_cell? W ⟨b, off, none⟩ (by simpa [Addr.add] using hc0), fun j hj => ?_⟩
      have hj' : j < zs.length := by omega
      have hcj := hcell j hj'
      have e1 : (⟨b, off, none⟩ : Addr).add j = ⟨b, off + j, none⟩ := by by_cases h0 : j = 0 <;> simp [Addr.add, h0]
      rw [e1] at hcj
      have hjl : j < l := by omega
      rw [hcj, List.getElem?_map, List.getElem?_take, if_pos hjl, List.getElem?_eq_getElem hj', List.getD_eq_getElem?_getD, List.getElem?_eq_getElem hj']
      rfl
    · have hd : x.1 = .slice (lits .u8 (zs.take l)) (lits .u8 (zs.drop l)) := congrArg Prod.fst hx
      rw [hd]
      have := lits_bulk (H := H) (k := .u8) (zs.take l)
      simp only [Rows.uptoBulk]
      omega
/-- bytes as an argument -/
def BytesIn (W : World) (v : Value) (M : Nat) : Prop := ∃ A n c xs, v = .slice A n c ∧ Ints W W.heap.size .u8 A n c xs ∧ Bytes xs ∧ n ≤ M
theorem open_bytes_dat {r : Reach} {b0 : Nat} {v : Value} {d : DataW H} {p : List MemPlace} (hv : Value.okWide Tryd.prog W r b0 22 v)
    (h : DataW.Trod enc Tryd.prog W 0 (fun _ => true) true 22 v d p) : BytesIn W v (Rows.uptoBulk d) := by
  obtain ⟨a0, len0, cap0, rfl⟩ := okWide_slice Tryd.underlying22 hv
  obtain ⟨fuel, hf⟩ := h
  obtain ⟨A, n, c, xs, e, h1, h2, h3⟩ := bytes_trod hf
  have e' : Value.slice a0 len0 cap0 = .slice A n c := by simpa [Value.cells] using e
  rw [e']
  have hl : xs.length = n := h1.len
  exact ⟨A, n, c, xs, rfl, h1, bytes_of_wf h2, by dsimp only at h3; omega⟩
theorem tlv_trod {fuel : Nat} {cs : List Value} {x : DataW H × List MemPlace} (h : DataW.trod enc Tryd.prog W 0 (fun _ => true) true fuel 43 cs = some x) :
    ∃ kind A n c xs, cs = [.int .i64 kind, .slice A n c] ∧ Ints W W.heap.size .u8 A n c xs ∧ (∀ y ∈ xs, (Lit.int .u8 y).wf = true) ∧ (Lit.int .i64 kind).wf = true ∧ xs.length ≤ Rows.uptoBulk x.1 := by
  obtain ⟨y0, y1, m, rfl, hl, h0, h1⟩ := trod_struct2 Tryd.underlying43 h
  have hlen : cs.length = 2 := hl.trans (by kernel_rfl)
  match cs, hlen with
  | [c0, c1], _ =>
    have k0 : Tryd.prog.cellsOf 3 = 1 := by kernel_rfl
    have k1 : Tryd.prog.cellsOf 22 = 1 := by kernel_rfl
    have h0' : DataW.trod enc Tryd.prog W 0 (fun _ => true) true m 3 [c0] = some y0 := by
      have := h0
      simp only [k0] at this
      simpa using this
    have h1' : DataW.trod enc Tryd.prog W 0 (fun _ => true) true m 22 [c1] = some y1 := by
      have := h1
      simp only [k1] at this
      simpa using this
    obtain ⟨kind, e0, _, w0⟩ := DataW.trod_int Tryd.underlying3 h0'
    obtain ⟨A, n, c, xs, e1, g1, g2, g3⟩ := bytes_trod h1'
    simp only [List.cons.injEq, and_true] at e0 e1
    subst e0 e1
    refine ⟨kind, A, n, c, xs, rfl, g1, g2, w0, ?_⟩
    simp only [Rows.uptoBulk, Rows.uptoBulkAll]
    omega
/-- a field as an argument -/
def TlvIn (W : World) (v : Value) (M : Nat) : Prop := ∃ kind A n c xs, v = .agg #[.int .i64 kind, .slice A n c] ∧ Ints W W.heap.size .u8 A n c xs ∧ Bytes xs ∧ (-9223372036854775808 ≤ kind ∧ kind ≤ 9223372036854775807) ∧ n ≤ M
theorem open_tlv_dat {r : Reach} {b0 : Nat} {v : Value} {d : DataW H} {p : List MemPlace} (hv : Value.okWide Tryd.prog W r b0 43 v)
    (h : DataW.Trod enc Tryd.prog W 0 (fun _ => true) true 43 v d p) : TlvIn W v (Rows.uptoBulk d) := by
  obtain ⟨cs, rfl, hsz⟩ := okWide_struct Tryd.underlying43 hv
  obtain ⟨fuel, hf⟩ := h
  obtain ⟨kind, A, n, c, xs, e, h1, h2, h3, h4⟩ := tlv_trod hf
  obtain ⟨l⟩ := cs
  have e' : l = [.int .i64 kind, .slice A n c] := e
  subst e'
  have hl : xs.length = n := h1.len
  exact ⟨kind, A, n, c, xs, rfl, h1, bytes_of_wf h2, bounds_i64 h3, by dsimp only at h4; omega⟩
end
/-- the bound, for two arguments -/
theorem two_bound {H : Type} {W : World} {v0 v1 : Value} {d0 d1 : DataW H} {r : List (DataW H)} (h0 : BytesIn W v0 (Rows.uptoBulk d0)) (h1 : TlvIn W v1 (Rows.uptoBulk d1)) (hk : Rows.uptoSmall H (d0 :: d1 :: r) = true) : BytesIn W v0 1048576 ∧ TlvIn W v1 1048576 := by
  have hb := bulk_le hk
  simp only [Rows.uptoBulkAll] at hb
  obtain ⟨A, n, c, xs, e, g1, g2, g3⟩ := h0
  obtain ⟨kind, A', n', c', xs', e', f1, f2, f3, f4⟩ := h1
  exact ⟨⟨A, n, c, xs, e, g1, g2, by omega⟩, ⟨kind, A', n', c', xs', e', f1, f2, f3, by omega⟩⟩
end Go.Proofs.YtonckpcbehobhaaDoor
