/- How an argument that came in is opened: a slice of one-cell integers as 'Ints', with the reach's bound on its capacity. How an argument of any type that came in is opened: 'Arg' says that cells read as a value of a type, in bounded memory; its laws take structs, slices, numbers, strings apart. How the arguments of chapter 52's laws are opened: forwarding tables, packets, lists of bools. -/
import Derived.Test.YtplppbgkkfjknaaGreatDoorG1
import Derived.ProofKit
import Derived.OpenShut
import Derived.ShutString
import Derived.ChangeOld
import Derived.SizedLaws
import Derived.Test.YtplppbgkkfjknaaGreatDoorG24
namespace Go.Proofs.YtplppbgkkfjknaaGreatDoor
open Go.ChangeShapes Go.WideShapes Go.ChangeAt Go.RowKit

theorem own : ownKnob Tryz.prog.godebug = none := by kernel_rfl
theorem laidOut : laidOutB Tryz.prog = true := by kernel_rfl

theorem open_ints_arg {H : Type} {enc : TypeId × Value → H} {P : Program} {W : World} {r : Reach} {b0 : Nat} {t e : TypeId} {k : IntKind} {v : Value} {d : DataW H} {p : List MemPlace}
    (ht : P.underlying t = some (.slice e)) (he : P.underlying e = some (.int k)) (hc : P.cellsOf e = 1) (hv : Value.okWide P W r b0 t v)
    (h : DataW.Trod enc P W 0 (fun _ => true) true t v d p) :
    ∃ A n c xs, v = .slice A n c ∧ Ints W W.heap.size k A n c xs ∧ (∀ x ∈ xs, (Lit.int k x).wf = true) ∧
      (∀ (ts : List TypeId) (ds : List (DataW H)) (j : Nat), (DataW.weightsEach P ts ds).all (· ≤ reachBytes) = true → ts[j]? = some t → ds[j]? = some d → c * P.bytesOf e ≤ reachBytes) := by
  obtain ⟨a0, len0, cap0, rfl⟩ := okWide_slice ht hv
  obtain ⟨fuel, hf⟩ := h
  rcases open_ints ht he hc hf with ⟨hcs, _⟩ | ⟨x, l, c, zs, hcs, _, hl, hm, hz, hx, hcell, hwz⟩
  · simp [Value.cells] at hcs
    obtain ⟨rfl, rfl, rfl⟩ := hcs
    exact ⟨none, 0, 0, [], rfl, Ints.nil _ _ _, by simp, fun _ _ _ _ _ _ => by simp⟩
  · simp [Value.cells] at hcs
    obtain ⟨rfl, rfl, rfl⟩ := hcs
    have hz' : zs.length = cap0 := by simpa using hz
    refine ⟨some x, len0, cap0, zs.take len0, rfl, ⟨hl, hm, by simp; omega, fun hn => ?_⟩, fun y hy => hwz y (List.mem_of_mem_take hy), fun ts ds j hsz h1 h2 => ?_⟩
    · obtain ⟨b, off, spot⟩ := x
      have hc0 := hcell 0 (by omega)
      have hs : spot = none := by simpa [Addr.add] using World.cell?_spot hc0
      subst hs
      refine ⟨b, off, rfl, World.block_lt_of_cell? W ⟨b, off, none⟩ (by simpa [Addr.add] using hc0), fun j hj => ?_⟩
      have hj' : j < zs.length := by omega
      have hcj := hcell j hj'
      have e1 : (⟨b, off, none⟩ : Addr).add j = ⟨b, off + j, none⟩ := by by_cases h0 : j = 0 <;> simp [Addr.add, h0]
      rw [e1] at hcj
      have hjl : j < len0 := by omega
      rw [hcj, List.getElem?_map, List.getElem?_take, if_pos hjl, List.getElem?_eq_getElem hj', List.getD_eq_getElem?_getD, List.getElem?_eq_getElem hj']
      rfl
    · have hd : d = .slice (lits k (zs.take len0)) (lits k (zs.drop len0)) := by
        have := congrArg Prod.fst hx
        exact this
      subst hd
      have := sized_slice hsz h1 h2 ht
      simp only [lits, List.length_map, List.length_take, List.length_drop] at this
      have e1 : min len0 zs.length + (zs.length - len0) = cap0 := by omega
      rw [e1] at this
      exact this

theorem bytes_of_wf {xs : List Int} (h : ∀ x ∈ xs, (Lit.int .u8 x).wf = true) : ∀ j, 0 ≤ xs.getD j 0 ∧ xs.getD j 0 ≤ 255 := by
  intro j
  rw [List.getD_eq_getElem?_getD]
  cases hj : xs[j]? with
  | none => simp
  | some x => exact bounds_u8 (h x (List.mem_of_getElem? hj))
end Go.Proofs.YtplppbgkkfjknaaGreatDoor
namespace Go.Proofs.YtplppbgkkfjknaaGreatDoor
open Go.ChangeShapes Go.WideShapes Go.ChangeAt Go.RowKit

theorem addr_add (a : Addr) (i j : Nat) : (a.add i).add j = a.add (i + j) := by
  unfold Addr.add
  by_cases hi : i = 0 <;> by_cases hj : j = 0 <;> simp [hi, hj, Nat.add_assoc]
/-- The cells cs read as a value of type t, and what they lead to takes bounded memory. -/
def Arg {H : Type} (enc : TypeId × Value → H) (P : Program) (W : World) (t : TypeId) (cs : List Value) : Prop :=
  ∃ n y, DataW.trod enc P W 0 (fun _ => true) true n t cs = some y ∧ ∀ x ∈ y.1.weights P t, x ≤ reachBytes

section
variable {H : Type} {enc : TypeId × Value → H} {P : Program} {W : World} {t e : TypeId} {cs : List Value}
theorem Arg.int {k : IntKind} (ht : P.underlying t = some (.int k)) (h : Arg enc P W t cs) : ∃ a, cs = [.int k a] ∧ (Lit.int k a).wf = true := by
  obtain ⟨n, y, h, _⟩ := h
  obtain ⟨a, e, _, w⟩ := DataW.trod_int ht h
  exact ⟨a, e, w⟩
theorem Arg.bool (ht : P.underlying t = some .bool) (h : Arg enc P W t cs) : ∃ b, cs = [.bool b] := by
  obtain ⟨n, y, h, _⟩ := h
  obtain ⟨b, e, _⟩ := DataW.trod_bool ht h
  exact ⟨b, e⟩
theorem Arg.string (ht : P.underlying t = some .string) (h : Arg enc P W t cs) : ∃ s : ByteArray, cs = [.string s] ∧ s.size ≤ 140737488351232 := by
  obtain ⟨n, y, h, hs⟩ := h
  obtain ⟨s, e, rfl, _⟩ := DataW.trod_string ht h
  refine ⟨s, e, ?_⟩
  have := hs s.data.toList.length (by simp [DataW.weights])
  have e : s.data.toList.length = s.size := by rw [Array.length_toList]; rfl
  rw [e] at this
  exact this
theorem weightsEach_get {ts : List TypeId} {ds : List (DataW H)} {j : Nat} {t : TypeId} {d : DataW H} (ht : ts[j]? = some t) (hd : ds[j]? = some d) : ∀ n ∈ d.weights P t, n ∈ DataW.weightsEach P ts ds := DataW.weights_mem_each ht hd
theorem weightsAll_get : ∀ {ds : List (DataW H)} {d : DataW H}, d ∈ ds → ∀ n ∈ d.weights P e, n ∈ DataW.weightsAll P e ds
  | d0 :: ds, d, hd, n, hn => by
    simp only [DataW.weightsAll, List.mem_append]
    rcases List.mem_cons.1 hd with rfl | hd
    · exact .inl hn
    · exact .inr (weightsAll_get hd n hn)
/-- a field of a struct -/
theorem Arg.struct {fs : Array Field} (ht : P.underlying t = some (.struct fs)) (h : Arg enc P W t cs) :
    cs.length = P.cellsOf t ∧ ∀ (i : Nat) (f : Field), fs[i]? = some f → Arg enc P W f.type ((cs.drop f.offset).take (P.cellsOf f.type)) := by
  obtain ⟨n, y, h, hs⟩ := h
  obtain ⟨xs, m, _, rfl, hl, hlen, hf⟩ := DataW.trod_struct ht h
  refine ⟨hl, fun i f hi => ?_⟩
  have hil : i < xs.length := by rw [hlen]; exact (Array.getElem?_eq_some_iff.1 hi).1
  refine ⟨m, xs[i], (hf i f hi).trans (List.getElem?_eq_getElem hil), fun x hx => hs x ?_⟩
  simp only [DataW.weights, ht]
  refine weightsEach_get (j := i) (by rw [List.getElem?_map]; simp [hi]) ?_ x hx
  rw [List.getElem?_map, List.getElem?_eq_getElem hil]
  rfl
/-- .. by a list of the fields' types, offsets and sizes -/
theorem Arg.fields {fs : Array Field} (ht : P.underlying t = some (.struct fs)) (lay : List (TypeId × Nat × Nat)) (hl : fs.toList.map (fun f => (f.type, f.offset, P.cellsOf f.type)) = lay) (h : Arg enc P W t cs) :
    ∀ (i : Nat) (q : TypeId) (o s : Nat), lay[i]? = some (q, o, s) → Arg enc P W q ((cs.drop o).take s) := by
  intro i q o s hi
  rw [← hl, List.getElem?_map] at hi
  cases hf : fs.toList[i]? with
  | none => rw [hf] at hi; cases hi
  | some f =>
    rw [hf] at hi
    simp only [Option.map_some, Option.some.injEq, Prod.mk.injEq] at hi
    obtain ⟨rfl, rfl, rfl⟩ := hi
    exact (h.struct ht).2 i f (by simpa using hf)
/-- a slice: its cells, and each element -/
theorem Arg.slice {size : Nat} (ht : P.underlying t = some (.slice e)) (hsize : P.cellsOf e = size) (hpos : 0 < size) (h : Arg enc P W t cs) :
    ∃ A n c vs, cs = [.slice A n c] ∧ Cells W W.heap.size size A n c vs ∧ c * P.bytesOf e ≤ 140737488351232 ∧ ∀ i, i < n → Arg enc P W e ((vs.drop (i * size)).take size) := by
  obtain ⟨m, y, h, hs⟩ := h
  rcases DataW.trod_slice ht h with ⟨rfl, rfl⟩ | ⟨a, len, cap, elems, rest, k, _, rfl, rfl, _, hl, hm, hlen, hel, hsp, _⟩
  · exact ⟨none, 0, 0, [], rfl, Cells.nil _ _ _, by omega, fun i hi => absurd hi (by omega)⟩
  · rw [hsize] at hel
    have hb : cap * P.bytesOf e ≤ 140737488351232 := by
      have h1 := hs ((elems.length + rest.length) * P.bytesOf e) (by simp [DataW.weights, ht])
      rw [hlen, (hsp rfl).1, show len + (cap - len) = cap by omega] at h1
      exact h1
    have each : ∀ i, i < len → ∃ vs : List Value, vs.length = size ∧ (∀ j, j < size → W.cell? ((a.add (i * size)).add j) = vs[j]?) ∧ Arg enc P W e vs := by
      intro i hi
      have h1 := hel i hi
      have h2 : elems[i]? = some elems[i] := List.getElem?_eq_getElem (by omega)
      rw [h2] at h1
      obtain ⟨vs, h3, h4⟩ := Option.bind_eq_some_iff.1 h1
      obtain ⟨_, h5, h6⟩ := World.cells?_some h3
      refine ⟨vs, h5, h6, k, elems[i], h4, fun x hx => hs x ?_⟩
      simp only [DataW.weights, ht, List.mem_cons, List.mem_append]
      refine .inr (.inl (weightsAll_get (d := elems[i].1) ?_ x hx))
      exact List.mem_map_of_mem (List.getElem_mem _)
    have chunk : ∀ n, n ≤ len → ∃ vs : List Value, vs.length = n * size ∧ (∀ j, j < n * size → W.cell? (a.add j) = vs[j]?) ∧ ∀ i, i < n → Arg enc P W e ((vs.drop (i * size)).take size) := by
      intro n
      induction n with
      | zero => intro _; exact ⟨[], by simp, fun j hj => absurd hj (by omega), fun i hi => absurd hi (by omega)⟩
      | succ n ih =>
        intro hn
        obtain ⟨vs, h1, h2, h3⟩ := ih (by omega)
        obtain ⟨us, g1, g2, g3⟩ := each n (by omega)
        have hsz : (n + 1) * size = n * size + size := Nat.succ_mul _ _
        refine ⟨vs ++ us, by rw [List.length_append, h1, g1, hsz], fun j hj => ?_, fun i hi => ?_⟩
        · by_cases hj' : j < n * size
          · rw [h2 j hj', List.getElem?_append_left (by omega)]
          · rw [List.getElem?_append_right (by omega), h1, ← g2 (j - n * size) (by omega), addr_add]
            congr 2
            omega
        · by_cases hi' : i < n
          · have hm : (i + 1) * size ≤ n * size := Nat.mul_le_mul_right _ hi'
            rw [Nat.succ_mul] at hm
            rw [List.drop_append_of_le_length (by omega), List.take_append_of_le_length (by simp; omega)]
            exact h3 i hi'
          · obtain rfl : i = n := by omega
            rw [← h1, List.drop_left, ← g1, List.take_length]
            exact g3
    obtain ⟨vs, h1, h2, h3⟩ := chunk len (Nat.le_refl _)
    refine ⟨some a, len, cap, vs, rfl, ⟨hl, hm, h1, fun hn => ?_⟩, hb, h3⟩
    have hls : 1 * size ≤ len * size := Nat.mul_le_mul_right _ hn
    have hc0 := h2 0 (by omega)
    rw [List.getElem?_eq_getElem (by omega)] at hc0
    obtain ⟨b, off, spot⟩ := a
    have hsp : spot = none := by simpa [Addr.add] using World.cell?_spot hc0
    subst hsp
    refine ⟨b, off, rfl, World.block_lt_of_cell? W ⟨b, off, none⟩ (by simpa [Addr.add] using hc0), fun j hj => ?_⟩
    rw [← h2 j hj]
    by_cases h0 : j = 0 <;> simp [Addr.add, h0]
/-- from the row's own facts -/
theorem Arg.of {v : Value} {d : DataW H} {p : List MemPlace} (h : DataW.Trod enc P W 0 (fun _ => true) true t v d p) {ts : List TypeId} {ds : List (DataW H)} {j : Nat}
    (hs : (DataW.weightsEach P ts ds).all (· ≤ reachBytes) = true) (ht : ts[j]? = some t) (hd : ds[j]? = some d) : Arg enc P W t v.cells.toList := by
  obtain ⟨n, h⟩ := h
  exact ⟨n, (d, p), h, fun x hx => by simpa using List.all_eq_true.1 hs x (weightsEach_get ht hd x hx)⟩
/-- chunks, each of one record's cells -/
theorem chunks {α : Type} {f : α → List Value} {size : Nat} {Q : α → Prop} (hf : ∀ r, (f r).length = size) : ∀ (n : Nat) (vs : List Value), vs.length = n * size → (∀ i, i < n → ∃ r, (vs.drop (i * size)).take size = f r ∧ Q r) →
    ∃ rs : List α, rs.length = n ∧ vs = rs.flatMap f ∧ ∀ r ∈ rs, Q r
  | 0, vs, hl, _ => ⟨[], rfl, by simpa using hl, by simp⟩
  | n + 1, vs, hl, h => by
    rw [Nat.succ_mul] at hl
    obtain ⟨r, hr, hq⟩ := h 0 (by omega)
    obtain ⟨rs, h1, h2, h3⟩ := chunks hf n (vs.drop size) (by rw [List.length_drop, hl]; omega) (fun i hi => by
      obtain ⟨r', hr', hq'⟩ := h (i + 1) (by omega)
      refine ⟨r', ?_, hq'⟩
      rw [List.drop_drop, ← hr', Nat.succ_mul, Nat.add_comm])
    refine ⟨r :: rs, by simp [h1], ?_, fun r' hr' => ?_⟩
    · rw [List.flatMap_cons, ← h2, ← hr]
      simp
    · rcases List.mem_cons.1 hr' with rfl | hr'
      · exact hq
      · exact h3 _ hr'
/-- a slice of one-cell integers -/
theorem Arg.ints {k : IntKind} (ht : P.underlying t = some (.slice e)) (he : P.underlying e = some (.int k)) (hc : P.cellsOf e = 1) (h : Arg enc P W t cs) :
    ∃ A n c xs, cs = [.slice A n c] ∧ Ints W W.heap.size k A n c xs ∧ c * P.bytesOf e ≤ 140737488351232 ∧ ∀ x ∈ xs, (Lit.int k x).wf = true := by
  obtain ⟨A, n, c, vs, rfl, h1, h2, h3⟩ := h.slice ht hc (by omega)
  obtain ⟨xs, g1, g2, g3⟩ := chunks (f := fun x : Int => [Value.int k x]) (size := 1) (Q := fun x => (Lit.int k x).wf = true) (fun _ => rfl) n vs (by simpa using h1.2.2.1) (fun i hi => (h3 i hi).int he)
  refine ⟨A, n, c, xs, rfl, ?_, h2, g3⟩
  have : xs.flatMap (fun x : Int => [Value.int k x]) = xs.map (Value.int k) := by
    clear g1 g2 g3
    induction xs with
    | nil => rfl
    | cons x xs ih => rw [List.flatMap_cons, ih]; rfl
  rw [g2, this] at h1
  exact h1
/-- a slice of structs whose cells are read by f -/
theorem Arg.recs {α : Type} {f : α → List Value} {size : Nat} {Q : α → Prop} (ht : P.underlying t = some (.slice e)) (hsize : P.cellsOf e = size) (hpos : 0 < size) (hf : ∀ r, (f r).length = size)
    (hr : ∀ vs, Arg enc P W e vs → ∃ r, vs = f r ∧ Q r) (h : Arg enc P W t cs) :
    ∃ A n c rs, cs = [.slice A n c] ∧ Recs W W.heap.size size A n c f rs ∧ c * P.bytesOf e ≤ 140737488351232 ∧ ∀ r ∈ rs, Q r := by
  obtain ⟨A, n, c, vs, rfl, h1, h2, h3⟩ := h.slice ht hsize hpos
  obtain ⟨rs, g1, rfl, g3⟩ := chunks hf n vs h1.2.2.1 (fun i hi => hr _ (h3 i hi))
  exact ⟨A, n, c, rs, rfl, ⟨h1, g1⟩, h2, g3⟩
end
end Go.Proofs.YtplppbgkkfjknaaGreatDoor
namespace Go.Proofs.YtplppbgkkfjknaaGreatDoor
open Go.ChangeShapes Go.WideShapes Go.ChangeAt Go.RowKit

set_option linter.unusedVariables false
theorem wf_i64 {a : Int} (h : (Lit.int .i64 a).wf = true) : W64 a := by
  simp [Lit.wf, IntKind.min, IntKind.max, IntKind.signed, IntKind.bits] at h
  exact ⟨by omega, by omega⟩
theorem wf_u32 {a : Int} (h : (Lit.int .u32 a).wf = true) : W32 a := by
  simp [Lit.wf, IntKind.min, IntKind.max, IntKind.signed, IntKind.bits] at h
  exact ⟨by omega, by omega⟩
section
variable {H : Type} {enc : TypeId × Value → H} {W : World} {cs : List Value}
theorem open_path (h : Arg enc Tryz.prog W 57 cs) : ∃ p : PV, cs = p.vals ∧ (Ints W W.heap.size .i64 p.A p.ln p.lc p.ls ∧ p.ln ≤ 17592186044416) ∧ W64 p.iface ∧ W32 p.addr ∧ W32 p.router ∧ W64 p.weight := by
  have hl := (h.struct Tryz.underlying57).1
  have hf := h.fields Tryz.underlying57 [(3, 0, 1), (42, 1, 1), (41, 2, 1), (3, 3, 1), (52, 4, 1), (3, 5, 1)] (by kernel_rfl)
  have h6 : cs.length = 6 := hl.trans (by kernel_rfl)
  match cs, h6 with
  | [c0, c1, c2, c3, c4, c5], _ =>
    have k3 : Tryz.prog.cellsOf 3 = 1 := by kernel_rfl
    have kb : Tryz.prog.bytesOf 3 = 8 := by kernel_rfl
    have g0 := hf 0 _ _ _ rfl
    have g1 := hf 1 _ _ _ rfl
    have g2 := hf 2 _ _ _ rfl
    have g3 := hf 3 _ _ _ rfl
    have g4 := hf 4 _ _ _ rfl
    have g5 := hf 5 _ _ _ rfl
    simp only [List.drop_succ_cons, List.drop_zero, List.take_succ_cons, List.take_zero] at g0 g1 g2 g3 g4 g5
    obtain ⟨a0, e0, w0⟩ := Arg.int Tryz.underlying3 g0
    obtain ⟨a1, e1, w1⟩ := Arg.int Tryz.underlying42 g1
    obtain ⟨a2, e2, w2⟩ := Arg.int Tryz.underlying41 g2
    obtain ⟨a3, e3, w3⟩ := Arg.int Tryz.underlying3 g3
    obtain ⟨A, n, c, xs, e4, hi, hb, _⟩ := Arg.ints Tryz.underlying52 Tryz.underlying3 k3 g4
    obtain ⟨a5, e5, _⟩ := Arg.int Tryz.underlying3 g5
    simp only [List.cons.injEq, and_true] at e0 e1 e2 e3 e4 e5
    subst e0 e1 e2 e3 e4 e5
    rw [kb] at hb
    exact ⟨⟨a0, a1, a2, a3, A, n, c, xs, a5⟩, rfl, ⟨hi, by have := hi.1; show n ≤ _; omega⟩, wf_i64 w0, wf_u32 w1, wf_u32 w2, wf_i64 w3⟩
theorem open_ge (h : Arg enc Tryz.prog W 47 cs) : ∃ g : GE, cs = g.vals ∧ Paths W W.heap.size g.A g.n g.c g.ps ∧ g.n ≤ 140737488355328 := by
  have hl := (h.struct Tryz.underlying47).1
  have h2 : cs.length = 2 := hl.trans (by kernel_rfl)
  have hf := h.fields Tryz.underlying47 [(3, 0, 1), (45, 1, 1)] (by kernel_rfl)
  match cs, h2 with
  | [c0, c1], _ =>
    have kp : Tryz.prog.cellsOf 57 = 6 := by kernel_rfl
    have kb : Tryz.prog.bytesOf 57 = 56 := by kernel_rfl
    have g0 := hf 0 _ _ _ rfl
    have g1 := hf 1 _ _ _ rfl
    simp only [List.drop_succ_cons, List.drop_zero, List.take_succ_cons, List.take_zero] at g0 g1
    obtain ⟨act, e0, w0⟩ := Arg.int Tryz.underlying3 g0
    obtain ⟨A, n, c, ps, e1, hr, hb, hq⟩ := Arg.recs (f := PV.vals) (Q := fun p => Ints W W.heap.size .i64 p.A p.ln p.lc p.ls) Tryz.underlying45 kp (by omega) PV.vals_len (fun vs hvs => by
      obtain ⟨p, h1, h2, _⟩ := open_path hvs
      exact ⟨p, h1, h2.1⟩) g1
    simp only [List.cons.injEq, and_true] at e0 e1
    subst e0 e1
    rw [kb] at hb
    exact ⟨⟨act, A, n, c, ps⟩, rfl, ⟨hr, hq⟩, by have := hr.1.1; show n ≤ _; omega⟩
theorem open_pre (h : Arg enc Tryz.prog W 65 cs) : ∃ (a : Nat) (l : Int), cs = [.int .u32 a, .int .i64 l] ∧ a < 4294967296 := by
  have hl := (h.struct Tryz.underlying65).1
  have h2 : cs.length = 2 := hl.trans (by kernel_rfl)
  have hf := h.fields Tryz.underlying65 [(42, 0, 1), (3, 1, 1)] (by kernel_rfl)
  match cs, h2 with
  | [c0, c1], _ =>
    have g0 := hf 0 _ _ _ rfl
    have g1 := hf 1 _ _ _ rfl
    simp only [List.drop_succ_cons, List.drop_zero, List.take_succ_cons, List.take_zero] at g0 g1
    obtain ⟨a, e0, w0⟩ := Arg.int Tryz.underlying42 g0
    obtain ⟨l, e1, _⟩ := Arg.int Tryz.underlying3 g1
    simp only [List.cons.injEq, and_true] at e0 e1
    subst e0 e1
    have hw := wf_u32 w0
    unfold W32 at hw
    obtain ⟨k, rfl⟩ : ∃ k : Nat, a = k := ⟨a.toNat, by omega⟩
    exact ⟨k, l, rfl, by omega⟩
theorem open_ent (h : Arg enc Tryz.prog W 79 cs) : ∃ e : Ent, cs = e.vals ∧ e.a < 4294967296 := by
  have hl := (h.struct Tryz.underlying79).1
  have h3 : cs.length = 3 := hl.trans (by kernel_rfl)
  have hf := h.fields Tryz.underlying79 [(65, 0, 2), (3, 2, 1)] (by kernel_rfl)
  match cs, h3 with
  | [c0, c1, c2], _ =>
    have g0 := hf 0 _ _ _ rfl
    have g1 := hf 1 _ _ _ rfl
    simp only [List.drop_succ_cons, List.drop_zero, List.take_succ_cons, List.take_zero] at g0 g1
    obtain ⟨a, l, e0, ha⟩ := open_pre g0
    obtain ⟨v, e1, _⟩ := Arg.int Tryz.underlying3 g1
    simp only [List.cons.injEq, and_true] at e0 e1
    obtain ⟨e0, e2⟩ := e0
    subst e0 e1 e2
    exact ⟨⟨a, l, v⟩, rfl, ha⟩
theorem open_nh (h : Arg enc Tryz.prog W 81 cs) : ∃ x : NH, cs = x.vals ∧ True := by
  have hl := (h.struct Tryz.underlying81).1
  have h3 : cs.length = 3 := hl.trans (by kernel_rfl)
  have hf := h.fields Tryz.underlying81 [(3, 0, 1), (42, 1, 1), (41, 2, 1)] (by kernel_rfl)
  match cs, h3 with
  | [c0, c1, c2], _ =>
    have g0 := hf 0 _ _ _ rfl
    have g1 := hf 1 _ _ _ rfl
    have g2 := hf 2 _ _ _ rfl
    simp only [List.drop_succ_cons, List.drop_zero, List.take_succ_cons, List.take_zero] at g0 g1 g2
    obtain ⟨a0, e0, _⟩ := Arg.int Tryz.underlying3 g0
    obtain ⟨a1, e1, _⟩ := Arg.int Tryz.underlying42 g1
    obtain ⟨a2, e2, _⟩ := Arg.int Tryz.underlying41 g2
    simp only [List.cons.injEq, and_true] at e0 e1 e2
    subst e0 e1 e2
    exact ⟨⟨a0, a1, a2⟩, rfl, trivial⟩
theorem open_lhop (h : Arg enc Tryz.prog W 105 cs) : ∃ x : HV, cs = x.vals ∧ W64 x.label := by
  have hl := (h.struct Tryz.underlying105).1
  have hf := h.fields Tryz.underlying105 [(41, 0, 1), (3, 1, 1)] (by kernel_rfl)
  have h2 : cs.length = 2 := hl.trans (by kernel_rfl)
  match cs, h2 with
  | [c0, c1], _ =>
    have g0 := hf 0 _ _ _ rfl
    have g1 := hf 1 _ _ _ rfl
    simp only [List.drop_succ_cons, List.drop_zero, List.take_succ_cons, List.take_zero] at g0 g1
    obtain ⟨a0, e0, _⟩ := Arg.int Tryz.underlying41 g0
    obtain ⟨a1, e1, w1⟩ := Arg.int Tryz.underlying3 g1
    simp only [List.cons.injEq, and_true] at e0 e1
    subst e0 e1
    exact ⟨⟨a0, a1⟩, rfl, wf_i64 w1⟩
theorem open_lhops (h : Arg enc Tryz.prog W 69 cs) : ∃ A n c hs, cs = [.slice A n c] ∧ Hops W W.heap.size A n c hs ∧ n ≤ 140737488355328 ∧ ∀ x ∈ hs, W64 x.label := by
  have kp : Tryz.prog.cellsOf 105 = 2 := by kernel_rfl
  have kb : Tryz.prog.bytesOf 105 = 16 := by kernel_rfl
  obtain ⟨A, n, c, hs, e, hr, hb, hq⟩ := Arg.recs (f := HV.vals) Tryz.underlying69 kp (by omega) HV.vals_len (fun vs hvs => open_lhop hvs) h
  rw [kb] at hb
  exact ⟨A, n, c, hs, e, hr, by have := hr.1.1; omega, hq⟩
theorem open_lent (h : Arg enc Tryz.prog W 84 cs) : ∃ e : EV, cs = e.vals ∧ (Hops W W.heap.size e.A e.n e.c e.hs ∧ e.n ≤ 140737488355328) := by
  have hl := (h.struct Tryz.underlying84).1
  have hf := h.fields Tryz.underlying84 [(3, 0, 1), (69, 1, 1)] (by kernel_rfl)
  have h2 : cs.length = 2 := hl.trans (by kernel_rfl)
  match cs, h2 with
  | [c0, c1], _ =>
    have g0 := hf 0 _ _ _ rfl
    have g1 := hf 1 _ _ _ rfl
    simp only [List.drop_succ_cons, List.drop_zero, List.take_succ_cons, List.take_zero] at g0 g1
    obtain ⟨a0, e0, _⟩ := Arg.int Tryz.underlying3 g0
    obtain ⟨A, n, c, hs, e1, hh, hn, _⟩ := open_lhops g1
    simp only [List.cons.injEq, and_true] at e0 e1
    subst e0 e1
    exact ⟨⟨a0, A, n, c, hs⟩, rfl, hh, hn⟩
theorem open_tab (h : Arg enc Tryz.prog W 25 cs) : ∃ A n c es, cs = [.slice A n c] ∧ Tab W W.heap.size A n c es ∧ n ≤ 140737488355328 ∧ ∀ e ∈ es, e.n ≤ 140737488355328 := by
  have kp : Tryz.prog.cellsOf 84 = 2 := by kernel_rfl
  have kb : Tryz.prog.bytesOf 84 = 32 := by kernel_rfl
  obtain ⟨A, n, c, es, e, hr, hb, hq⟩ := Arg.recs (f := EV.vals) Tryz.underlying25 kp (by omega) EV.vals_len (fun vs hvs => open_lent hvs) h
  rw [kb] at hb
  exact ⟨A, n, c, es, e, ⟨hr, fun x hx => (hq x hx).1⟩, by have := hr.1.1; omega, fun x hx => (hq x hx).2⟩
theorem open_addrs (h : Arg enc Tryz.prog W 23 cs) : ∃ A n c xs, cs = [.slice A n c] ∧ Ints W W.heap.size .u32 A n c xs ∧ n ≤ 140737488355328 := by
  have kp : Tryz.prog.cellsOf 42 = 1 := by kernel_rfl
  have kb : Tryz.prog.bytesOf 42 = 4 := by kernel_rfl
  obtain ⟨A, n, c, xs, e, hi, hb, _⟩ := Arg.ints Tryz.underlying23 Tryz.underlying42 kp h
  rw [kb] at hb
  exact ⟨A, n, c, xs, e, hi, by have := hi.1; omega⟩
theorem open_hopsN (h : Arg enc Tryz.prog W 27 cs) : ∃ A n c hs, cs = [.slice A n c] ∧ Nears W W.heap.size A n c hs ∧ n ≤ 140737488355328 := by
  have kp : Tryz.prog.cellsOf 81 = 3 := by kernel_rfl
  have kb : Tryz.prog.bytesOf 81 = 16 := by kernel_rfl
  obtain ⟨A, n, c, hs, e, hr, hb, _⟩ := Arg.recs (f := NH.vals) Tryz.underlying27 kp (by omega) NH.vals_len (fun vs hvs => open_nh hvs) h
  rw [kb] at hb
  exact ⟨A, n, c, hs, e, hr, by have := hr.1.1; omega⟩
theorem open_ents (h : Arg enc Tryz.prog W 32 cs) : ∃ A n c es, cs = [.slice A n c] ∧ Ents W W.heap.size A n c es ∧ n ≤ 140737488355328 := by
  have kp : Tryz.prog.cellsOf 79 = 3 := by kernel_rfl
  have kb : Tryz.prog.bytesOf 79 = 24 := by kernel_rfl
  obtain ⟨A, n, c, es, e, hr, hb, hq⟩ := Arg.recs (f := Ent.vals) Tryz.underlying32 kp (by omega) Ent.vals_len (fun vs hvs => open_ent hvs) h
  rw [kb] at hb
  exact ⟨A, n, c, es, e, ⟨hr, hq⟩, by have := hr.1.1; omega⟩
theorem open_ges (h : Arg enc Tryz.prog W 33 cs) : ∃ A n c gs, cs = [.slice A n c] ∧ Grps W W.heap.size A n c gs ∧ n ≤ 140737488355328 ∧ ∀ g ∈ gs, g.n ≤ 140737488355328 := by
  have kp : Tryz.prog.cellsOf 47 = 2 := by kernel_rfl
  have kb : Tryz.prog.bytesOf 47 = 32 := by kernel_rfl
  obtain ⟨A, n, c, gs, e, hr, hb, hq⟩ := Arg.recs (f := GE.vals) Tryz.underlying33 kp (by omega) GE.vals_len (fun vs hvs => open_ge hvs) h
  rw [kb] at hb
  exact ⟨A, n, c, gs, e, ⟨hr, fun g hg => (hq g hg).1⟩, by have := hr.1.1; omega, fun g hg => (hq g hg).2⟩
end
set_option maxRecDepth 100000 in
/-- a forwarding table as an argument -/
def FibIn (W : World) (v : Value) : Prop := ∃ (tA gA lA bA nA : Option Addr) (tn tc gn gc ln lc bn bc nn nc : Nat) (es : List Ent) (gs : List GE) (ls : List Int) (bs : List EV) (ns : List NH),
  v = .agg #[.slice tA tn tc, .slice gA gn gc, .slice lA ln lc, .slice bA bn bc, .slice nA nn nc] ∧ FibAt W W.heap.size tA gA lA bA nA tn tc gn gc ln lc bn bc nn nc es gs ls bs ns
set_option maxRecDepth 100000 in
theorem open_fib {H : Type} {enc : TypeId × Value → H} {W : World} {r : Reach} {b0 : Nat} {v : Value} (hv : Value.okWide Tryz.prog W r b0 35 v) (h : Arg enc Tryz.prog W 35 v.cells.toList) : FibIn W v := by
  obtain ⟨cs, rfl, hsz⟩ := okWide_struct Tryz.underlying35 hv
  have h5 : cs.size = 5 := hsz.trans (by kernel_rfl)
  obtain ⟨l⟩ := cs
  match l, h5 with
  | [c0, c1, c2, c3, c4], _ =>
    have h' : Arg enc Tryz.prog W 35 [c0, c1, c2, c3, c4] := h
    have hf := h'.fields Tryz.underlying35 [(32, 0, 1), (33, 1, 1), (23, 2, 1), (25, 3, 1), (27, 4, 1)] (by kernel_rfl)
    have g0 := hf 0 _ _ _ rfl
    have g1 := hf 1 _ _ _ rfl
    have g2 := hf 2 _ _ _ rfl
    have g3 := hf 3 _ _ _ rfl
    have g4 := hf 4 _ _ _ rfl
    simp only [List.drop_succ_cons, List.drop_zero, List.take_succ_cons, List.take_zero] at g0 g1 g2 g3 g4
    obtain ⟨tA, tn, tc, es, e0, ht, htn⟩ := open_ents g0
    obtain ⟨gA, gn, gc, gs, e1, hg, hgn, hgp⟩ := open_ges g1
    obtain ⟨lA, ln, lc, ls, e2, hl, hln⟩ := open_addrs g2
    obtain ⟨bA, bn, bc, bs, e3, hb, hbn, hbp⟩ := open_tab g3
    obtain ⟨nA, nn, nc, ns, e4, hn, hnn⟩ := open_hopsN g4
    simp only [List.cons.injEq, and_true] at e0 e1 e2 e3 e4
    subst e0 e1 e2 e3 e4
    exact ⟨tA, gA, lA, bA, nA, tn, tc, gn, gc, ln, lc, bn, bc, nn, nc, es, gs, ls, bs, ns, rfl, ht, hg, hl, hb, hn, htn, hgn, hln, hbn, hnn, hgp, hbp⟩
end Go.Proofs.YtplppbgkkfjknaaGreatDoor
