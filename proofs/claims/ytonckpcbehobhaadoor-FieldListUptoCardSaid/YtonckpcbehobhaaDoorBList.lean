/- A list of fields as an argument, with the bound on its bulk. -/
import Derived.Test.YtonckpcbehobhaaDoorBArg
import Derived.Test.YtonckpcbehobhaaDoorSameT
namespace Go.Proofs.YtonckpcbehobhaaDoor
open Go.ChangeShapes Go.WideShapes Go.ChangeAt Go.RowKit

theorem bulk_pos {H : Type} (d : DataW H) : 1 ≤ Rows.uptoBulk d := by
  cases d with
  | lit l => cases l <;> simp [Rows.uptoBulk]
  | nil => simp [Rows.uptoBulk]
  | ptr d => simp [Rows.uptoBulk]
  | slice elems spare => simp [Rows.uptoBulk]
  | agg parts => simp [Rows.uptoBulk]
  | iface t d => simp [Rows.uptoBulk]
  | map entries => simp [Rows.uptoBulk]
  | held h => simp [Rows.uptoBulk]
theorem bulk_len {H : Type} : ∀ l : List (DataW H), l.length ≤ Rows.uptoBulkAll l
  | [] => by simp
  | d :: r => by
    have := bulk_len r
    have := bulk_pos d
    simp only [Rows.uptoBulkAll, List.length_cons]
    omega
theorem bulk_part {H : Type} {d : DataW H} : ∀ {l : List (DataW H)}, d ∈ l → Rows.uptoBulk d ≤ Rows.uptoBulkAll l
  | [], h => by cases h
  | x :: r, h => by
    simp only [Rows.uptoBulkAll]
    rcases List.mem_cons.1 h with rfl | h
    · omega
    · have := bulk_part h
      omega
/-- The cells cs read as a value of type t, whose bulk is at most M. -/
def BA {H : Type} (enc : TypeId × Value → H) (P : Program) (W : World) (M : Nat) (t : TypeId) (cs : List Value) : Prop :=
  ∃ n y, DataW.trod enc P W 0 (fun _ => true) true n t cs = some y ∧ Rows.uptoBulk y.1 ≤ M
theorem addr_add (a : Addr) (i j : Nat) : (a.add i).add j = a.add (i + j) := by
  unfold Addr.add
  by_cases hi : i = 0 <;> by_cases hj : j = 0 <;> simp [hi, hj, Nat.add_assoc]
section
variable {H : Type} {enc : TypeId × Value → H} {P : Program} {W : World} {t e : TypeId} {cs : List Value} {M : Nat}
theorem BA.slice {size : Nat} (ht : P.underlying t = some (.slice e)) (hsize : P.cellsOf e = size) (hpos : 0 < size) (h : BA enc P W M t cs) :
    ∃ A n c vs, cs = [.slice A n c] ∧ Cells W W.heap.size size A n c vs ∧ n ≤ M ∧ ∀ i, i < n → BA enc P W M e ((vs.drop (i * size)).take size) := by
  obtain ⟨m, y, h, hs⟩ := h
  rcases DataW.trod_slice ht h with ⟨rfl, rfl⟩ | ⟨a, len, cap, elems, rest, k, _, rfl, rfl, _, hl, hm, hlen, hel, hsp, _⟩
  · exact ⟨none, 0, 0, [], rfl, Cells.nil _ _ _, by omega, fun i hi => absurd hi (by omega)⟩
  · rw [hsize] at hel
    have hall : Rows.uptoBulkAll (elems.map (·.1)) ≤ M := by
      simp only [Rows.uptoBulk] at hs
      omega
    have hb : len ≤ M := by
      have := bulk_len (elems.map (·.1))
      rw [List.length_map] at this
      omega
    have each : ∀ i, i < len → ∃ vs : List Value, vs.length = size ∧ (∀ j, j < size → W.cell? ((a.add (i * size)).add j) = vs[j]?) ∧ BA enc P W M e vs := by
      intro i hi
      have h1 := hel i hi
      have h2 : elems[i]? = some elems[i] := List.getElem?_eq_getElem (by omega)
      rw [h2] at h1
      obtain ⟨vs, h3, h4⟩ := Option.bind_eq_some_iff.1 h1
      obtain ⟨_, h5, h6⟩ := World.cells?_some h3
      exact ⟨vs, h5, h6, k, elems[i], h4, Nat.le_trans (bulk_part (List.mem_map_of_mem (f := Prod.fst) (List.getElem_mem (show i < elems.length by omega)))) hall⟩
    have chunk : ∀ n, n ≤ len → ∃ vs : List Value, vs.length = n * size ∧ (∀ j, j < n * size → W.cell? (a.add j) = vs[j]?) ∧ ∀ i, i < n → BA enc P W M e ((vs.drop (i * size)).take size) := by
      intro n
      induction n with
      | zero => intro _; exact ⟨[], by simp, fun j hj => absurd hj (by omega), fun i hi => absurd hi (by omega)⟩
      | succ n ih =>
        intro hn
        obtain ⟨vs, h1, h2, h3⟩ := ih (by omega)
        obtain ⟨us, g1, g2, g3⟩ := each n (by omega)
        have hsz : (n + 1) * size = n * size + size := Nat.succ_mul _ _
        refine ⟨vs ++ us, by rw [List.length_append, h1, g1, hsz], fun j hj => ?_, fun i hi => ?_⟩
        · by_cases hj' : j < n * size
          · rw [h2 j hj', List.getElem?_append_left (by omega)]
          · rw [List.getElem?_append_right (by omega), h1, ← g2 (j - n * size) (by omega), addr_add]
            congr 2
            omega
        · by_cases hi' : i < n
          · have hm : (i + 1) * size ≤ n * size := Nat.mul_le_mul_right _ hi'
            rw [Nat.succ_mul] at hm
            rw [List.drop_append_of_le_length (by omega), List.take_append_of_le_length (by simp; omega)]
            exact h3 i hi'
          · obtain rfl : i = n := by omega
            rw [← h1, List.drop_left, ← g1, List.take_length]
            exact g3
    obtain ⟨vs, h1, h2, h3⟩ := chunk len (Nat.le_refl _)
    refine ⟨some a, len, cap, vs, rfl, ⟨hl, hm, h1, fun hn => ?_⟩, hb, h3⟩
    have hls : 1 * size ≤ len * size := Nat.mul_le_mul_right _ hn
    have hc0 := h2 0 (by omega)
    rw [List.getElem?_eq_getElem (by omega)] at hc0
    obtain ⟨b, off, spot⟩ := a
    have hsp : spot = none := by simpa [Addr.add] using World.cell?_spot hc0
    subst hsp
    refine ⟨b, off, rfl, World.block_lt_of_cell? W ⟨b, off, none⟩ (by simpa [Addr.add] using hc0), fun j hj => ?_⟩
    rw [← h2 j hj]
    by_cases h0 : j = 0 <;> simp [Addr.add, h0]
end
/-- chunks, each of one record's cells -/
theorem chunks {α : Type} {f : α → List Value} {size : Nat} {Q : α → Prop} (hf : ∀ r, (f r).length = size) : ∀ (n : Nat) (vs : List Value), vs.length = n * size → (∀ i, i < n → ∃ r, (vs.drop (i * size)).take size = f r ∧ Q r) →
    ∃ rs : List α, rs.length = n ∧ vs = rs.flatMap f ∧ ∀ r ∈ rs, Q r
  | 0, vs, hl, _ => ⟨[], rfl, by simpa using hl, by simp⟩
  | n + 1, vs, hl, h => by
    rw [Nat.succ_mul] at hl
    obtain ⟨r, hr, hq⟩ := h 0 (by omega)
    obtain ⟨rs, h1, h2, h3⟩ := chunks hf n (vs.drop size) (by rw [List.length_drop, hl]; omega) (fun i hi => by
      obtain ⟨r', hr', hq'⟩ := h (i + 1) (by omega)
      refine ⟨r', ?_, hq'⟩
      rw [List.drop_drop, ← hr', Nat.succ_mul, Nat.add_comm])
    refine ⟨r :: rs, by simp [h1], ?_, fun r' hr' => ?_⟩
    · rw [List.flatMap_cons, ← h2, ← hr]
      simp
    · rcases List.mem_cons.1 hr' with rfl | hr'
      · exact hq
      · exact h3 _ hr'
/-- a list of fields as an argument -/
def ListIn (W : World) (v : Value) (M : Nat) : Prop := ∃ A n c ts, v = .slice A n c ∧ TLs W W.heap.size A n c ts ∧ n ≤ M ∧ ∀ t ∈ ts, Bytes t.2 ∧ t.2.length ≤ M
theorem open_list_dat {H : Type} {enc : TypeId × Value → H} {W : World} {r : Reach} {b0 : Nat} {v : Value} {d : DataW H} {p : List MemPlace} (hv : Value.okWide Tryd.prog W r b0 46 v)
    (h : DataW.Trod enc Tryd.prog W 0 (fun _ => true) true 46 v d p) : ListIn W v (Rows.uptoBulk d) := by
  obtain ⟨a0, len0, cap0, rfl⟩ := okWide_slice Tryd.underlying46 hv
  obtain ⟨fuel, hf⟩ := h
  have k2 : Tryd.prog.cellsOf 43 = 2 := by kernel_rfl
  have hba : BA enc Tryd.prog W (Rows.uptoBulk d) 46 (Value.slice a0 len0 cap0).cells.toList := ⟨fuel, (d, p), hf, Nat.le_refl _⟩
  obtain ⟨A, n, c, vs, e, h1, h2, h3⟩ := hba.slice Tryd.underlying46 k2 (by omega)
  have e' : Value.slice a0 len0 cap0 = .slice A n c := by simpa [Value.cells] using e
  rw [e']
  obtain ⟨fs, g1, rfl, g3⟩ := chunks (f := FV.vals) (size := 2) (Q := fun f => Ints W W.heap.size .u8 f.A f.n f.c f.xs ∧ Bytes f.xs ∧ f.xs.length ≤ Rows.uptoBulk d) FV.vals_len n vs h1.2.2.1 (fun i hi => by
    obtain ⟨m, y, hy, hm⟩ := h3 i hi
    obtain ⟨kind, A', n', c', xs, e2, i1, i2, _, i4⟩ := tlv_trod hy
    exact ⟨⟨kind, A', n', c', xs⟩, e2, i1, bytes_of_wf i2, Nat.le_trans i4 hm⟩)
  refine ⟨A, n, c, fs.map FV.key, rfl, ⟨fs, ⟨h1, g1⟩, rfl, fun f hf => (g3 f hf).1⟩, h2, fun t ht => ?_⟩
  obtain ⟨f, hf, rfl⟩ := List.mem_map.1 ht
  exact (g3 f hf).2
theorem list_bound {H : Type} {W : World} {v : Value} {d : DataW H} {r : List (DataW H)} (h : ListIn W v (Rows.uptoBulk d)) (hk : Rows.uptoSmall H (d :: r) = true) : ListIn W v 1048576 := by
  have hb := bulk_le hk
  simp only [Rows.uptoBulkAll] at hb
  obtain ⟨A, n, c, ts, e, h1, h2, h3⟩ := h
  exact ⟨A, n, c, ts, e, h1, by omega, fun t ht => ⟨(h3 t ht).1, by have := (h3 t ht).2; omega⟩⟩
end Go.Proofs.YtonckpcbehobhaaDoor
