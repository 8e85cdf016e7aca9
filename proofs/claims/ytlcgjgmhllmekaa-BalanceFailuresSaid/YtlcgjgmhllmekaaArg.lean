/- How an argument of any type that came in is opened: 'Arg' says that cells read as a value of a type, in bounded memory; its laws take structs, slices, numbers, strings apart. -/
import Derived.Test.YtlcgjgmhllmekaaOpen
namespace Go.Proofs.Ytlcgjgmhllmekaa
open Go.ChangeShapes Go.WideShapes Go.ChangeAt Go.RowKit

theorem addr_add (a : Addr) (i j : Nat) : (a.add i).add j = a.add (i + j) := by
  unfold Addr.add
  by_cases hi : i = 0 <;> by_cases hj : j = 0 <;> simp [hi, hj, Nat.add_assoc]
/-- The cells cs read as a value of type t, and what they lead to takes bounded memory. -/
def Arg {H : Type} (enc : TypeId × Value → H) (P : Program) (W : World) (t : TypeId) (cs : List Value) : Prop :=
  ∃ n y, DataW.trod enc P W 0 (fun _ => true) true n t cs = some y ∧ ∀ x ∈ y.1.weights P t, x ≤ reachBytes

section
variable {H : Type} {enc : TypeId × Value → H} {P : Program} {W : World} {t e : TypeId} {cs : List Value}
theorem Arg.int {k : IntKind} (ht : P.underlying t = some (.int k)) (h : Arg enc P W t cs) : ∃ a, cs = [.int k a] ∧ (Lit.int k a).wf = true := by
  obtain ⟨n, y, h, _⟩ := h
  obtain ⟨a, e, _, w⟩ := DataW.trod_int ht h
  exact ⟨a, e, w⟩
theorem Arg.bool (ht : P.underlying t = some .bool) (h : Arg enc P W t cs) : ∃ b, cs = [.bool b] := by
  obtain ⟨n, y, h, _⟩ := h
  obtain ⟨b, e, _⟩ := DataW.trod_bool ht h
  exact ⟨b, e⟩
theorem Arg.string (ht : P.underlying t = some .string) (h : Arg enc P W t cs) : ∃ s : ByteArray, cs = [.string s] ∧ s.size ≤ 140737488351232 := by
  obtain ⟨n, y, h, hs⟩ := h
  obtain ⟨s, e, rfl, _⟩ := DataW.trod_string ht h
  refine ⟨s, e, ?_⟩
  have := hs s.data.toList.length (by simp [DataW.weights])
  have e : s.data.toList.length = s.size := by rw [Array.length_toList]; rfl
  rw [e] at this
  exact this
theorem weightsEach_get {ts : List TypeId} {ds : List (DataW H)} {j : Nat} {t : TypeId} {d : DataW H} (ht : ts[j]? = some t) (hd : ds[j]? = some d) : ∀ n ∈ d.weights P t, n ∈ DataW.weightsEach P ts ds := DataW.weights_mem_each ht hd
theorem weightsAll_get : ∀ {ds : List (DataW H)} {d : DataW H}, d ∈ ds → ∀ n ∈ d.weights P e, n ∈ DataW.weightsAll P e ds
  | d0 :: ds, d, hd, n, hn => by
    simp only [DataW.weightsAll, List.mem_append]
    rcases List.mem_cons.1 hd with rfl | hd
    · exact .inl hn
    · exact .inr (weightsAll_get hd n hn)
/-- a field of a struct -/
theorem Arg.struct {fs : Array Field} (ht : P.underlying t = some (.struct fs)) (h : Arg enc P W t cs) :
    cs.length = P.cellsOf t ∧ ∀ (i : Nat) (f : Field), fs[i]? = some f → Arg enc P W f.type ((cs.drop f.offset).take (P.cellsOf f.type)) := by
  obtain ⟨n, y, h, hs⟩ := h
  obtain ⟨xs, m, _, rfl, hl, hlen, hf⟩ := DataW.trod_struct ht h
  refine ⟨hl, fun i f hi => ?_⟩
  have hil : i < xs.length := by rw [hlen]; exact (Array.getElem?_eq_some_iff.1 hi).1
  refine ⟨m, xs[i], (hf i f hi).trans (List.getElem?_eq_getElem hil), fun x hx => hs x ?_⟩
  simp only [DataW.weights, ht]
  refine weightsEach_get (j := i) (by rw [List.getElem?_map]; simp [hi]) ?_ x hx
  rw [List.getElem?_map, List.getElem?_eq_getElem hil]
  rfl
/-- .. by a list of the fields' types, offsets and sizes -/
theorem Arg.fields {fs : Array Field} (ht : P.underlying t = some (.struct fs)) (lay : List (TypeId × Nat × Nat)) (hl : fs.toList.map (fun f => (f.type, f.offset, P.cellsOf f.type)) = lay) (h : Arg enc P W t cs) :
    ∀ (i : Nat) (q : TypeId) (o s : Nat), lay[i]? = some (q, o, s) → Arg enc P W q ((cs.drop o).take s) := by
  intro i q o s hi
  rw [← hl, List.getElem?_map] at hi
  cases hf : fs.toList[i]? with
  | none => rw [hf] at hi; cases hi
  | some f =>
    rw [hf] at hi
    simp only [Option.map_some, Option.some.injEq, Prod.mk.injEq] at hi
    obtain ⟨rfl, rfl, rfl⟩ := hi
    exact (h.struct ht).2 i f (by simpa using hf)
/-- a slice: its cells, and each element -/
theorem Arg.slice {size : Nat} (ht : P.underlying t = some (.slice e)) (hsize : P.cellsOf e = size) (hpos : 0 < size) (h : Arg enc P W t cs) :
    ∃ A n c vs, cs = [.slice A n c] ∧ Cells W W.heap.size size A n c vs ∧ c * P.bytesOf e ≤ 140737488351232 ∧ ∀ i, i < n → Arg enc P W e ((vs.drop (i * size)).take size) := by
  obtain ⟨m, y, h, hs⟩ := h
  rcases DataW.trod_slice ht h with ⟨rfl, rfl⟩ | ⟨a, len, cap, elems, rest, k, _, rfl, rfl, _, hl, hm, hlen, hel, hsp, _⟩
  · exact ⟨none, 0, 0, [], rfl, Cells.nil _ _ _, by omega, fun i hi => absurd hi (by omega)⟩
  · rw [hsize] at hel
    have hb : cap * P.bytesOf e ≤ 140737488351232 := by
      have h1 := hs ((elems.length + rest.length) * P.bytesOf e) (by simp [DataW.weights, ht])
      rw [hlen, (hsp rfl).1, show len + (cap - len) = cap by omega] at h1
      exact h1
    have each : ∀ i, i < len → ∃ vs : List Value, vs.length = size ∧ (∀ j, j < size → W.cell? ((a.add (i * size)).add j) = vs[j]?) ∧ Arg enc P W e vs := by
      intro i hi
      have h1 := hel i hi
      have h2 : elems[i]? = some elems[i] := List.getElem?_eq_getElem (by omega)
      rw [h2] at h1
      obtain ⟨vs, h3, h4⟩ := Option.bind_eq_some_iff.1 h1
      obtain ⟨_, h5, h6⟩ := World.cells?_some h3
      refine ⟨vs, h5, h6, k, elems[i], h4, fun x hx => hs x ?_⟩
      simp only [DataW.weights, ht, List.mem_cons, List.mem_append]
      refine .inr (.inl (weightsAll_get (d := elems[i].1) ?_ x hx))
      exact List.mem_map_of_mem (List.getElem_mem _)
    have chunk : ∀ n, n ≤ len → ∃ vs : List Value, vs.length = n * size ∧ (∀ j, j < n * size → W.cell? (a.add j) = vs[j]?) ∧ ∀ i, i < n → Arg enc P W e ((vs.drop (i * size)).take size) := by
      intro n
      induction n with
      | zero => intro _; exact ⟨[], by simp, fun j hj => absurd hj (by omega), fun i hi => absurd hi (by omega)⟩
      | succ n ih =>
        intro hn
        obtain ⟨vs, h1, h2, h3⟩ := ih (by omega)
        obtain ⟨us, g1, g2, g3⟩ := each n (by omega)
        have hsz : (n + 1) * size = n * size + size := Nat.succ_mul _ _
        refine ⟨vs ++ us, by rw [List.length_append, h1, g1, hsz], fun j hj => ?_, fun i hi => ?_⟩
        · by_cases hj' : j < n * size
          · rw [h2 j hj', List.getElem?_append_left (by omega)]
          · rw [List.getElem?_append_right (by omega), h1, ← g2 (j - n * size) (by omega), addr_add]
            congr 2
            omega
        · by_cases hi' : i < n
          · have hm : (i + 1) * size ≤ n * size := Nat.mul_le_mul_right _ hi'
            rw [Nat.succ_mul] at hm
            rw [List.drop_append_of_le_length (by omega), List.take_append_of_le_length (by simp; omega)]
            exact h3 i hi'
          · obtain rfl : i = n := by omega
            rw [← h1, List.drop_left, ← g1, List.take_length]
            exact g3
    obtain ⟨vs, h1, h2, h3⟩ := chunk len (Nat.le_refl _)
    refine ⟨some a, len, cap, vs, rfl, ⟨hl, hm, h1, fun hn => ?_⟩, hb, h3⟩
    have hls : 1 * size ≤ len * size := Nat.mul_le_mul_right _ hn
    have hc0 := h2 0 (by omega)
    rw [List.getElem?_eq_getElem (by omega)] at hc0
    obtain ⟨b, off, spot⟩ := a
    have hsp : spot = none := by simpa [Addr.add] using World.cell?_spot hc0
    subst hsp
    refine ⟨b, off, rfl, World.block_lt_of_cell? W ⟨b, off, none⟩ (by simpa [Addr.add] using hc0), fun j hj => ?_⟩
    rw [← h2 j hj]
    by_cases h0 : j = 0 <;> simp [Addr.add, h0]
/-- from the row's own facts -/
theorem Arg.of {v : Value} {d : DataW H} {p : List MemPlace} (h : DataW.Trod enc P W 0 (fun _ => true) true t v d p) {ts : List TypeId} {ds : List (DataW H)} {j : Nat}
    (hs : (DataW.weightsEach P ts ds).all (· ≤ reachBytes) = true) (ht : ts[j]? = some t) (hd : ds[j]? = some d) : Arg enc P W t v.cells.toList := by
  obtain ⟨n, h⟩ := h
  exact ⟨n, (d, p), h, fun x hx => by simpa using List.all_eq_true.1 hs x (weightsEach_get ht hd x hx)⟩
/-- chunks, each of one record's cells -/
theorem chunks {α : Type} {f : α → List Value} {size : Nat} {Q : α → Prop} (hf : ∀ r, (f r).length = size) : ∀ (n : Nat) (vs : List Value), vs.length = n * size → (∀ i, i < n → ∃ r, (vs.drop (i * size)).take size = f r ∧ Q r) →
    ∃ rs : List α, rs.length = n ∧ vs = rs.flatMap f ∧ ∀ r ∈ rs, Q r
  | 0, vs, hl, _ => ⟨[], rfl, by simpa using hl, by simp⟩
  | n + 1, vs, hl, h => by
    rw [Nat.succ_mul] at hl
    obtain ⟨r, hr, hq⟩ := h 0 (by omega)
    obtain ⟨rs, h1, h2, h3⟩ := chunks hf n (vs.drop size) (by rw [List.length_drop, hl]; omega) (fun i hi => by
      obtain ⟨r', hr', hq'⟩ := h (i + 1) (by omega)
      refine ⟨r', ?_, hq'⟩
      rw [List.drop_drop, ← hr', Nat.succ_mul, Nat.add_comm])
    refine ⟨r :: rs, by simp [h1], ?_, fun r' hr' => ?_⟩
    · rw [List.flatMap_cons, ← h2, ← hr]
      simp
    · rcases List.mem_cons.1 hr' with rfl | hr'
      · exact hq
      · exact h3 _ hr'
/-- a slice of one-cell integers -/
theorem Arg.ints {k : IntKind} (ht : P.underlying t = some (.slice e)) (he : P.underlying e = some (.int k)) (hc : P.cellsOf e = 1) (h : Arg enc P W t cs) :
    ∃ A n c xs, cs = [.slice A n c] ∧ Ints W W.heap.size k A n c xs ∧ c * P.bytesOf e ≤ 140737488351232 ∧ ∀ x ∈ xs, (Lit.int k x).wf = true := by
  obtain ⟨A, n, c, vs, rfl, h1, h2, h3⟩ := h.slice ht hc (by omega)
  obtain ⟨xs, g1, g2, g3⟩ := chunks (f := fun x : Int => [Value.int k x]) (size := 1) (Q := fun x => (Lit.int k x).wf = true) (fun _ => rfl) n vs (by simpa using h1.2.2.1) (fun i hi => (h3 i hi).int he)
  refine ⟨A, n, c, xs, rfl, ?_, h2, g3⟩
  have : xs.flatMap (fun x : Int => [Value.int k x]) = xs.map (Value.int k) := by
    clear g1 g2 g3
    induction xs with
    | nil => rfl
    | cons x xs ih => rw [List.flatMap_cons, ih]; rfl
  rw [g2, this] at h1
  exact h1
/-- a slice of structs whose cells are read by f -/
theorem Arg.recs {α : Type} {f : α → List Value} {size : Nat} {Q : α → Prop} (ht : P.underlying t = some (.slice e)) (hsize : P.cellsOf e = size) (hpos : 0 < size) (hf : ∀ r, (f r).length = size)
    (hr : ∀ vs, Arg enc P W e vs → ∃ r, vs = f r ∧ Q r) (h : Arg enc P W t cs) :
    ∃ A n c rs, cs = [.slice A n c] ∧ Recs W W.heap.size size A n c f rs ∧ c * P.bytesOf e ≤ 140737488351232 ∧ ∀ r ∈ rs, Q r := by
  obtain ⟨A, n, c, vs, rfl, h1, h2, h3⟩ := h.slice ht hsize hpos
  obtain ⟨rs, g1, rfl, g3⟩ := chunks hf n vs h1.2.2.1 (fun i hi => hr _ (h3 i hi))
  exact ⟨A, n, c, rs, rfl, ⟨h1, g1⟩, h2, g3⟩
end
end Go.Proofs.Ytlcgjgmhllmekaa
