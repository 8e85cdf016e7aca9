/- Arguments with a bound on their bulk: 'ArgB'; speakers, attributes, routes, subjects as arguments. -/
import Derived.Test.YtojgohgeagbkbaaLst
import Derived.Test.YtojgohgeagbkbaaAdv
import Derived.Test.YtojgohgeagbkbaaRows
import Derived.Test.YtojgohgeagbkbaaOpen
import Derived.ProofKit
namespace Go.Proofs.Ytojgohgeagbkbaa
open Go.ChangeShapes Go.WideShapes Go.ChangeAt Go.RowKit

set_option linter.unusedVariables false
set_option linter.unusedSimpArgs false
theorem bulk_pos {H : Type} (d : DataW H) : 1 ≤ Rows.uptoBulk d := by
  cases d with
  | lit l => cases l <;> simp [Rows.uptoBulk]
  | nil => simp [Rows.uptoBulk]
  | ptr d => simp [Rows.uptoBulk]
  | slice elems spare => simp [Rows.uptoBulk]
  | agg parts => simp [Rows.uptoBulk]
  | iface t d => simp [Rows.uptoBulk]
  | map entries => simp [Rows.uptoBulk]
  | held h => simp [Rows.uptoBulk]
theorem bulk_all {H : Type} : ∀ l : List (DataW H), Rows.uptoBulkAll l = (l.map Rows.uptoBulk).sum
  | [] => rfl
  | d :: r => by
    have := bulk_all r
    simp only [Rows.uptoBulkAll, List.map_cons, List.sum_cons]
    omega
theorem bulk_le {H : Type} {l : List (DataW H)} (h : Rows.uptoSmall H l = true) : (l.map Rows.uptoBulk).sum ≤ 1048576 := by
  rw [← bulk_all]
  exact of_decide_eq_true h
theorem addr_add (a : Addr) (i j : Nat) : (a.add i).add j = a.add (i + j) := by
  unfold Addr.add
  by_cases hi : i = 0 <;> by_cases hj : j = 0 <;> simp [hi, hj, Nat.add_assoc]
/-- The cells cs read as a value of type t of at most the bulk M. -/
def ArgB {H : Type} (enc : TypeId × Value → H) (P : Program) (W : World) (t : TypeId) (cs : List Value) (M : Nat) : Prop :=
  ∃ n y, DataW.trod enc P W 0 (fun _ => true) true n t cs = some y ∧ Rows.uptoBulk y.1 ≤ M
section
variable {H : Type} {enc : TypeId × Value → H} {P : Program} {W : World} {t e : TypeId} {cs : List Value} {M : Nat}
theorem ArgB.pos (h : ArgB enc P W t cs M) : 1 ≤ M := by
  obtain ⟨n, y, h, hm⟩ := h
  have := bulk_pos y.1
  omega
theorem ArgB.of {v : Value} {d : DataW H} {p : List MemPlace} (h : DataW.Trod enc P W 0 (fun _ => true) true t v d p) : ArgB enc P W t v.cells.toList (Rows.uptoBulk d) := by
  obtain ⟨n, h⟩ := h
  exact ⟨n, (d, p), h, Nat.le_refl _⟩
theorem ArgB.int {k : IntKind} (ht : P.underlying t = some (.int k)) (h : ArgB enc P W t cs M) : ∃ a, cs = [.int k a] ∧ (Lit.int k a).wf = true := by
  obtain ⟨n, y, h, _⟩ := h
  obtain ⟨a, e, _, w⟩ := DataW.trod_int ht h
  exact ⟨a, e, w⟩
theorem ArgB.bool (ht : P.underlying t = some .bool) (h : ArgB enc P W t cs M) : ∃ b, cs = [.bool b] := by
  obtain ⟨n, y, h, _⟩ := h
  obtain ⟨b, e, _⟩ := DataW.trod_bool ht h
  exact ⟨b, e⟩
theorem ArgB.string (ht : P.underlying t = some .string) (h : ArgB enc P W t cs M) : ∃ s : ByteArray, cs = [.string s] := by
  obtain ⟨n, y, h, hs⟩ := h
  obtain ⟨s, e, rfl, _⟩ := DataW.trod_string ht h
  exact ⟨s, e⟩
theorem ArgB.fields {fs : Array Field} (ht : P.underlying t = some (.struct fs)) (lay : List (TypeId × Nat × Nat)) (hl : fs.toList.map (fun f => (f.type, f.offset, P.cellsOf f.type)) = lay) (h : ArgB enc P W t cs M) :
    cs.length = P.cellsOf t ∧ ∃ ms : List Nat, ms.length = lay.length ∧ ms.sum + 1 ≤ M ∧ ∀ (i : Nat) (q : TypeId) (o s : Nat), lay[i]? = some (q, o, s) → ∃ m, ms[i]? = some m ∧ ArgB enc P W q ((cs.drop o).take s) m := by
  obtain ⟨n, y, h, hs⟩ := h
  obtain ⟨xs, m, _, rfl, hlc, hlen, hf⟩ := DataW.trod_struct ht h
  refine ⟨hlc, xs.map (fun x => Rows.uptoBulk x.1), by rw [List.length_map, hlen, ← hl]; simp, ?_, fun i q o s hi => ?_⟩
  · have := bulk_all (xs.map (·.1))
    rw [List.map_map] at this
    simp only [Rows.uptoBulk] at hs
    have e : (fun x : DataW H × List MemPlace => Rows.uptoBulk x.1) = Rows.uptoBulk ∘ (fun x : DataW H × List MemPlace => x.1) := rfl
    rw [e]
    omega
  · rw [← hl, List.getElem?_map] at hi
    cases hf' : fs.toList[i]? with
    | none => rw [hf'] at hi; cases hi
    | some f =>
      rw [hf'] at hi
      simp only [Option.map_some, Option.some.injEq, Prod.mk.injEq] at hi
      obtain ⟨rfl, rfl, rfl⟩ := hi
      have hfs : fs[i]? = some f := by simpa using hf'
      have hil : i < xs.length := by rw [hlen]; exact (Array.getElem?_eq_some_iff.1 hfs).1
      refine ⟨Rows.uptoBulk xs[i].1, by rw [List.getElem?_map, List.getElem?_eq_getElem hil]; rfl, m, xs[i], (hf i f hfs).trans (List.getElem?_eq_getElem hil), Nat.le_refl _⟩
theorem ArgB.shape (ht : P.underlying t = some (.slice e)) (h : ArgB enc P W t cs M) : ∃ A n c, cs = [.slice A n c] := by
  obtain ⟨m, y, h, hs⟩ := h
  rcases DataW.trod_slice ht h with ⟨rfl, rfl⟩ | ⟨a, len, cap, elems, rest, k, _, rfl, _⟩
  · exact ⟨none, 0, 0, rfl⟩
  · exact ⟨some a, len, cap, rfl⟩
/-- chunks, each of one record's cells, with a weight -/
theorem chunksB {α : Type} {f : α → List Value} {size : Nat} {Q : α → Prop} {wt : α → Nat} (hf : ∀ r, (f r).length = size) : ∀ (n : Nat) (vs : List Value) (ms : List Nat), vs.length = n * size → ms.length = n →
    (∀ i, i < n → ∃ r, (vs.drop (i * size)).take size = f r ∧ Q r ∧ ∀ m, ms[i]? = some m → wt r ≤ m) → ∃ rs : List α, rs.length = n ∧ vs = rs.flatMap f ∧ (∀ r ∈ rs, Q r) ∧ (rs.map wt).sum ≤ ms.sum
  | 0, vs, ms, hl, _, _ => ⟨[], rfl, by simpa using hl, by simp, by simp⟩
  | n + 1, vs, ms, hl, he, h => by
    rw [Nat.succ_mul] at hl
    cases ms with
    | nil => simp at he
    | cons m ms =>
      obtain ⟨r, hr, hq, hw⟩ := h 0 (by omega)
      obtain ⟨rs, h1, h2, h3, h4⟩ := chunksB hf n (vs.drop size) ms (by rw [List.length_drop, hl]; omega) (by simpa using he) (fun i hi => by
        obtain ⟨r', hr', hq', hw'⟩ := h (i + 1) (by omega)
        refine ⟨r', ?_, hq', fun m' hm' => hw' m' (by simpa using hm')⟩
        rw [List.drop_drop, ← hr', Nat.succ_mul, Nat.add_comm])
      refine ⟨r :: rs, by simp [h1], ?_, fun r' hr' => ?_, ?_⟩
      · rw [List.flatMap_cons, ← h2, ← hr]
        simp
      · rcases List.mem_cons.1 hr' with rfl | hr'
        · exact hq
        · exact h3 _ hr'
      · have h5 := hw m rfl
        simp only [List.map_cons, List.sum_cons] at h4 ⊢
        omega
theorem ArgB.recs {α : Type} {f : α → List Value} {size : Nat} {Q : α → Prop} {wt : α → Nat} (ht : P.underlying t = some (.slice e)) (hsize : P.cellsOf e = size) (hpos : 0 < size) (hf : ∀ r, (f r).length = size)
    (hr : ∀ vs m, ArgB enc P W e vs m → ∃ r, vs = f r ∧ Q r ∧ wt r ≤ m) (h : ArgB enc P W t cs M) :
    ∃ A n c rs, cs = [.slice A n c] ∧ Recs W W.heap.size size A n c f rs ∧ (rs.map wt).sum + 1 ≤ M ∧ ∀ r ∈ rs, Q r := by
  have hp := h.pos
  obtain ⟨m, y, h, hs⟩ := h
  rcases DataW.trod_slice ht h with ⟨rfl, rfl⟩ | ⟨a, len, cap, elems, rest, k, _, rfl, rfl, _, hl, hm, hlen, hel, hsp, _⟩
  · exact ⟨none, 0, 0, [], rfl, ⟨Cells.nil _ _ _, rfl⟩, by simpa using hp, by simp⟩
  · rw [hsize] at hel
    have each : ∀ i, i < len → ∃ vs : List Value, vs.length = size ∧ (∀ j, j < size → W.cell? ((a.add (i * size)).add j) = vs[j]?) ∧ ∃ r, vs = f r ∧ Q r ∧ ∀ m, (elems.map fun x => Rows.uptoBulk x.1)[i]? = some m → wt r ≤ m := by
      intro i hi
      have h1 := hel i hi
      have h2 : elems[i]? = some elems[i] := List.getElem?_eq_getElem (by omega)
      rw [h2] at h1
      obtain ⟨vs, h3, h4⟩ := Option.bind_eq_some_iff.1 h1
      obtain ⟨_, h5, h6⟩ := World.cells?_some h3
      obtain ⟨r, q1, q2, q3⟩ := hr vs (Rows.uptoBulk elems[i].1) ⟨k, elems[i], h4, Nat.le_refl _⟩
      refine ⟨vs, h5, h6, r, q1, q2, fun m hm => ?_⟩
      rw [List.getElem?_map, h2] at hm
      obtain rfl := Option.some.inj hm
      exact q3
    have chunk : ∀ n, n ≤ len → ∃ vs : List Value, vs.length = n * size ∧ (∀ j, j < n * size → W.cell? (a.add j) = vs[j]?) ∧ ∀ i, i < n → ∃ r, (vs.drop (i * size)).take size = f r ∧ Q r ∧ ∀ m, (elems.map fun x => Rows.uptoBulk x.1)[i]? = some m → wt r ≤ m := by
      intro n
      induction n with
      | zero => intro _; exact ⟨[], by simp, fun j hj => absurd hj (by omega), fun i hi => absurd hi (by omega)⟩
      | succ n ih =>
        intro hn
        obtain ⟨vs, h1, h2, h3⟩ := ih (by omega)
        obtain ⟨us, g1, g2, g3⟩ := each n (by omega)
        have hsz : (n + 1) * size = n * size + size := Nat.succ_mul _ _
        refine ⟨vs ++ us, by rw [List.length_append, h1, g1, hsz], fun j hj => ?_, fun i hi => ?_⟩
        · by_cases hj' : j < n * size
          · rw [h2 j hj', List.getElem?_append_left (by omega)]
          · rw [List.getElem?_append_right (by omega), h1, ← g2 (j - n * size) (by omega), addr_add]
            congr 2
            omega
        · by_cases hi' : i < n
          · have hm : (i + 1) * size ≤ n * size := Nat.mul_le_mul_right _ hi'
            rw [Nat.succ_mul] at hm
            rw [List.drop_append_of_le_length (by omega), List.take_append_of_le_length (by simp; omega)]
            exact h3 i hi'
          · obtain rfl : i = n := by omega
            rw [← h1, List.drop_left, ← g1, List.take_length]
            exact g3
    obtain ⟨vs, h1, h2, h3⟩ := chunk len (Nat.le_refl _)
    obtain ⟨rs, q1, rfl, q3, q4⟩ := chunksB (ms := elems.map fun x => Rows.uptoBulk x.1) hf len vs h1 (by rw [List.length_map]; exact hlen) h3
    refine ⟨some a, len, cap, rs, rfl, ⟨⟨hl, hm, h1, fun hn => ?_⟩, q1⟩, ?_, q3⟩
    · have hls : 1 * size ≤ len * size := Nat.mul_le_mul_right _ hn
      have hc0 := h2 0 (by omega)
      rw [List.getElem?_eq_getElem (by omega)] at hc0
      obtain ⟨b, off, spot⟩ := a
      have hsp : spot = none := by simpa [Addr.add] using World.cell?_spot hc0
      subst hsp
      refine ⟨b, off, rfl, World.block_lt_of_cell? W ⟨b, off, none⟩ (by simpa [Addr.add] using hc0), fun j hj => ?_⟩
      rw [← h2 j hj]
      by_cases h0 : j = 0 <;> simp [Addr.add, h0]
    · have e1 := bulk_all (elems.map (·.1))
      rw [List.map_map] at e1
      have e : (fun x : DataW H × List MemPlace => Rows.uptoBulk x.1) = Rows.uptoBulk ∘ (fun x : DataW H × List MemPlace => x.1) := rfl
      rw [e] at q4
      simp only [Rows.uptoBulk] at hs
      omega
theorem sum_one {α : Type} : ∀ l : List α, (l.map fun _ => 1).sum = l.length
  | [] => rfl
  | a :: r => by
    have := sum_one r
    simp only [List.map_cons, List.sum_cons, List.length_cons]
    omega
theorem ArgB.ints {k : IntKind} (ht : P.underlying t = some (.slice e)) (he : P.underlying e = some (.int k)) (hc : P.cellsOf e = 1) (h : ArgB enc P W t cs M) :
    ∃ A n c xs, cs = [.slice A n c] ∧ Ints W W.heap.size k A n c xs ∧ xs.length + 1 ≤ M ∧ ∀ x ∈ xs, (Lit.int k x).wf = true := by
  obtain ⟨A, n, c, xs, rfl, h1, h2, h3⟩ := h.recs (f := fun x : Int => [Value.int k x]) (size := 1) (Q := fun x => (Lit.int k x).wf = true) (wt := fun _ => 1) ht hc (by omega) (fun _ => rfl) (fun vs m hv => by
    obtain ⟨a, e, w⟩ := hv.int he
    exact ⟨a, e, w, hv.pos⟩)
  refine ⟨A, n, c, xs, rfl, ?_, by rw [sum_one] at h2; exact h2, h3⟩
  have g1 := h1.1
  have : xs.flatMap (fun x : Int => [Value.int k x]) = xs.map (Value.int k) := by
    clear h1 h2 h3 g1
    induction xs with
    | nil => rfl
    | cons x xs ih => rw [List.flatMap_cons, ih]; rfl
  rw [this] at g1
  exact g1
end
/-- a list of a kind and integers -/
theorem wt_sum (p : List SV) : ((p.map fun f => 1 + f.xs.length).sum : Nat) = (p.map SV.key).length + (flat (p.map SV.key)).length := by
  induction p with
  | nil => rfl
  | cons f r ih =>
    unfold flat at ih ⊢
    simp only [List.map_cons, List.length_cons, List.flatMap_cons, List.length_append, List.sum_cons] at ih ⊢
    show _ = (r.map SV.key).length + 1 + (f.xs.length + _)
    omega
section
variable {H : Type} {enc : TypeId × Value → H} {W : World} {cs : List Value} {M : Nat}
set_option maxRecDepth 100000 in
theorem open_segs (h : ArgB enc Try.prog W 35 cs M) : ∃ A n c p, cs = [.slice A n c] ∧ Segs W W.heap.size A n c p ∧ p.length + (flat p).length + 1 ≤ M := by
  have k2 : Try.prog.cellsOf 75 = 2 := by kernel_rfl
  have k1 : Try.prog.cellsOf 3 = 1 := by kernel_rfl
  obtain ⟨A, n, c, fs, rfl, h1, h2, h3⟩ := h.recs (f := SV.vals) (size := 2) (Q := fun f => Ints W W.heap.size .i64 f.A f.n f.c f.xs) (wt := fun f => 1 + f.xs.length) Try.underlying35 k2 (by omega) (fun _ => rfl) (fun vs m hv => by
    obtain ⟨hl, ms, hml, hms, hf⟩ := hv.fields Try.underlying75 [(3, 0, 1), (52, 1, 1)] (by kernel_rfl)
    have hl2 : vs.length = 2 := hl.trans k2
    match vs, hl2, ms, hml with
    | [c0, c1], _, [m0, m1], _ =>
      obtain ⟨x0, e0, g0⟩ := hf 0 _ _ _ rfl
      obtain ⟨x1, e1, g1⟩ := hf 1 _ _ _ rfl
      simp only [List.drop_succ_cons, List.drop_zero, List.take_succ_cons, List.take_zero, List.getElem?_cons_zero, List.getElem?_cons_succ, Option.some.injEq] at g0 g1 e0 e1
      subst e0 e1
      have hp0 := g0.pos
      obtain ⟨a, q0, _⟩ := g0.int Try.underlying3
      obtain ⟨A, n, c, xs, q1, hi, hx, _⟩ := g1.ints Try.underlying52 Try.underlying3 k1
      simp only [List.cons.injEq, and_true] at q0 q1
      subst q0 q1
      simp only [List.sum_cons, List.sum_nil] at hms
      exact ⟨⟨a, A, n, c, xs⟩, rfl, hi, by dsimp only; omega⟩)
  refine ⟨A, n, c, fs.map SV.key, rfl, ⟨fs, h1, rfl, h3⟩, ?_⟩
  rw [wt_sum] at h2
  exact h2
set_option maxRecDepth 100000 in
theorem open_tlvs (h : ArgB enc Try.prog W 38 cs M) : ∃ A n c p, cs = [.slice A n c] ∧ Tlvs W W.heap.size A n c p ∧ p.length + (flat p).length + 1 ≤ M := by
  have k2 : Try.prog.cellsOf 88 = 2 := by kernel_rfl
  have k1 : Try.prog.cellsOf 5 = 1 := by kernel_rfl
  obtain ⟨A, n, c, fs, rfl, h1, h2, h3⟩ := h.recs (f := SV.vals) (size := 2) (Q := fun f => Ints W W.heap.size .u8 f.A f.n f.c f.xs) (wt := fun f => 1 + f.xs.length) Try.underlying38 k2 (by omega) (fun _ => rfl) (fun vs m hv => by
    obtain ⟨hl, ms, hml, hms, hf⟩ := hv.fields Try.underlying88 [(3, 0, 1), (86, 1, 1)] (by kernel_rfl)
    have hl2 : vs.length = 2 := hl.trans k2
    match vs, hl2, ms, hml with
    | [c0, c1], _, [m0, m1], _ =>
      obtain ⟨x0, e0, g0⟩ := hf 0 _ _ _ rfl
      obtain ⟨x1, e1, g1⟩ := hf 1 _ _ _ rfl
      simp only [List.drop_succ_cons, List.drop_zero, List.take_succ_cons, List.take_zero, List.getElem?_cons_zero, List.getElem?_cons_succ, Option.some.injEq] at g0 g1 e0 e1
      subst e0 e1
      have hp0 := g0.pos
      obtain ⟨a, q0, _⟩ := g0.int Try.underlying3
      obtain ⟨A, n, c, xs, q1, hi, hx, _⟩ := g1.ints Try.underlying86 Try.underlying5 k1
      simp only [List.cons.injEq, and_true] at q0 q1
      subst q0 q1
      simp only [List.sum_cons, List.sum_nil] at hms
      exact ⟨⟨a, A, n, c, xs⟩, rfl, hi, by dsimp only; omega⟩)
  refine ⟨A, n, c, fs.map SV.key, rfl, ⟨fs, h1, rfl, h3⟩, ?_⟩
  rw [wt_sum] at h2
  exact h2
set_option maxRecDepth 100000 in
set_option maxHeartbeats 4000000 in
theorem open_att (h : ArgB enc Try.prog W 40 cs M) (hM : M ≤ 1048576) : ∃ (og hop med pref aas aad ori : Int) (hm hp atm ha ho : Bool) (pA cA kA uA : Option Addr) (pn pc cn cc kn kc un uc : Nat) (p us : Path) (cm cl : List Int), cs = [.int .i64 og, .slice pA pn pc, .int .u32 hop, .bool hm, .int .i64 med, .bool hp, .int .i64 pref, .bool atm, .bool ha, .int .i64 aas, .int .u32 aad, .slice cA cn cc, .bool ho, .int .u32 ori, .slice kA kn kc, .slice uA un uc] ∧ Lists W W.heap.size pA cA kA uA pn pc cn cc kn kc un uc p cm cl us ∧ p.length + (flat p).length + cm.length + cl.length + us.length + (flat us).length ≤ M := by
  obtain ⟨hl, ms, hml, hms, hf⟩ := h.fields Try.underlying40 [(3, 0, 1), (35, 1, 1), (36, 2, 1), (4, 3, 1), (3, 4, 1), (4, 5, 1), (3, 6, 1), (4, 7, 1), (4, 8, 1), (3, 9, 1), (36, 10, 1), (37, 11, 1), (4, 12, 1), (22, 13, 1), (37, 14, 1), (38, 15, 1)] (by kernel_rfl)
  have hl2 : cs.length = 16 := hl.trans (by kernel_rfl)
  match cs, hl2, ms, hml with
  | [c0, c1, c2, c3, c4, c5, c6, c7, c8, c9, c10, c11, c12, c13, c14, c15], _, [m0, m1, m2, m3, m4, m5, m6, m7, m8, m9, m10, m11, m12, m13, m14, m15], _ =>
    obtain ⟨x0, e0, g0⟩ := hf 0 _ _ _ rfl
    obtain ⟨x1, e1, g1⟩ := hf 1 _ _ _ rfl
    obtain ⟨x2, e2, g2⟩ := hf 2 _ _ _ rfl
    obtain ⟨x3, e3, g3⟩ := hf 3 _ _ _ rfl
    obtain ⟨x4, e4, g4⟩ := hf 4 _ _ _ rfl
    obtain ⟨x5, e5, g5⟩ := hf 5 _ _ _ rfl
    obtain ⟨x6, e6, g6⟩ := hf 6 _ _ _ rfl
    obtain ⟨x7, e7, g7⟩ := hf 7 _ _ _ rfl
    obtain ⟨x8, e8, g8⟩ := hf 8 _ _ _ rfl
    obtain ⟨x9, e9, g9⟩ := hf 9 _ _ _ rfl
    obtain ⟨x10, e10, g10⟩ := hf 10 _ _ _ rfl
    obtain ⟨x11, e11, g11⟩ := hf 11 _ _ _ rfl
    obtain ⟨x12, e12, g12⟩ := hf 12 _ _ _ rfl
    obtain ⟨x13, e13, g13⟩ := hf 13 _ _ _ rfl
    obtain ⟨x14, e14, g14⟩ := hf 14 _ _ _ rfl
    obtain ⟨x15, e15, g15⟩ := hf 15 _ _ _ rfl
    simp only [List.drop_succ_cons, List.drop_zero, List.take_succ_cons, List.take_zero, List.getElem?_cons_zero, List.getElem?_cons_succ, Option.some.injEq] at g0 e0 g1 e1 g2 e2 g3 e3 g4 e4 g5 e5 g6 e6 g7 e7 g8 e8 g9 e9 g10 e10 g11 e11 g12 e12 g13 e13 g14 e14 g15 e15
    subst e0 e1 e2 e3 e4 e5 e6 e7 e8 e9 e10 e11 e12 e13 e14 e15
    obtain ⟨og, q0, w0⟩ := g0.int Try.underlying3
    obtain ⟨pA, pn, pc, p, q1, h1, b1⟩ := open_segs g1
    obtain ⟨hop, q2, w2⟩ := g2.int Try.underlying36
    obtain ⟨hm, q3⟩ := g3.bool Try.underlying4
    obtain ⟨med, q4, w4⟩ := g4.int Try.underlying3
    obtain ⟨hp, q5⟩ := g5.bool Try.underlying4
    obtain ⟨pref, q6, w6⟩ := g6.int Try.underlying3
    obtain ⟨atm, q7⟩ := g7.bool Try.underlying4
    obtain ⟨ha, q8⟩ := g8.bool Try.underlying4
    obtain ⟨aas, q9, w9⟩ := g9.int Try.underlying3
    obtain ⟨aad, q10, w10⟩ := g10.int Try.underlying36
    obtain ⟨cA, cn, cc, cm, q11, h11, l11, w11⟩ := g11.ints Try.underlying37 Try.underlying22 (by kernel_rfl)
    obtain ⟨ho, q12⟩ := g12.bool Try.underlying4
    obtain ⟨ori, q13, w13⟩ := g13.int Try.underlying22
    obtain ⟨kA, kn, kc, cl, q14, h14, l14, w14⟩ := g14.ints Try.underlying37 Try.underlying22 (by kernel_rfl)
    obtain ⟨uA, un, uc, us, q15, h15, b15⟩ := open_tlvs g15
    simp only [List.cons.injEq, and_true] at q0 q1 q2 q3 q4 q5 q6 q7 q8 q9 q10 q11 q12 q13 q14 q15
    subst q0 q1 q2 q3 q4 q5 q6 q7 q8 q9 q10 q11 q12 q13 q14 q15
    simp only [List.sum_cons, List.sum_nil] at hms
    have n1 := h1.len
    have n15 := h15.len
    have n11 := h11.len
    have n14 := h14.len
    exact ⟨og, hop, med, pref, aas, aad, ori, hm, hp, atm, ha, ho, pA, cA, kA, uA, pn, pc, cn, cc, kn, kc, un, uc, p, us, cm, cl, rfl, ⟨h1, h11, h14, h15, by omega⟩, by omega⟩
set_option maxRecDepth 100000 in
set_option maxHeartbeats 4000000 in
theorem open_peer (h : ArgB enc Try.prog W 66 cs M) : ∃ r : PeerV, cs = r.vals := by
  obtain ⟨hl, ms, hml, hms, hf⟩ := h.fields Try.underlying66 [(3, 0, 1), (3, 1, 1), (36, 2, 1), (36, 3, 1), (4, 4, 1), (3, 5, 1), (3, 6, 1), (9, 7, 1), (9, 8, 1), (4, 9, 1), (4, 10, 1)] (by kernel_rfl)
  have hl2 : cs.length = 11 := hl.trans (by kernel_rfl)
  match cs, hl2, ms, hml with
  | [c0, c1, c2, c3, c4, c5, c6, c7, c8, c9, c10], _, [m0, m1, m2, m3, m4, m5, m6, m7, m8, m9, m10], _ =>
    obtain ⟨x0, e0, g0⟩ := hf 0 _ _ _ rfl
    obtain ⟨x1, e1, g1⟩ := hf 1 _ _ _ rfl
    obtain ⟨x2, e2, g2⟩ := hf 2 _ _ _ rfl
    obtain ⟨x3, e3, g3⟩ := hf 3 _ _ _ rfl
    obtain ⟨x4, e4, g4⟩ := hf 4 _ _ _ rfl
    obtain ⟨x5, e5, g5⟩ := hf 5 _ _ _ rfl
    obtain ⟨x6, e6, g6⟩ := hf 6 _ _ _ rfl
    obtain ⟨x7, e7, g7⟩ := hf 7 _ _ _ rfl
    obtain ⟨x8, e8, g8⟩ := hf 8 _ _ _ rfl
    obtain ⟨x9, e9, g9⟩ := hf 9 _ _ _ rfl
    obtain ⟨x10, e10, g10⟩ := hf 10 _ _ _ rfl
    simp only [List.drop_succ_cons, List.drop_zero, List.take_succ_cons, List.take_zero, List.getElem?_cons_zero, List.getElem?_cons_succ, Option.some.injEq] at g0 e0 g1 e1 g2 e2 g3 e3 g4 e4 g5 e5 g6 e6 g7 e7 g8 e8 g9 e9 g10 e10
    subst e0 e1 e2 e3 e4 e5 e6 e7 e8 e9 e10
    obtain ⟨a0, q0, w0⟩ := g0.int Try.underlying3
    obtain ⟨a1, q1, w1⟩ := g1.int Try.underlying3
    obtain ⟨a2, q2, w2⟩ := g2.int Try.underlying36
    obtain ⟨a3, q3, w3⟩ := g3.int Try.underlying36
    obtain ⟨a4, q4⟩ := g4.bool Try.underlying4
    obtain ⟨a5, q5, w5⟩ := g5.int Try.underlying3
    obtain ⟨a6, q6, w6⟩ := g6.int Try.underlying3
    obtain ⟨a7, q7⟩ := g7.string Try.underlying9
    obtain ⟨a8, q8⟩ := g8.string Try.underlying9
    obtain ⟨a9, q9⟩ := g9.bool Try.underlying4
    obtain ⟨a10, q10⟩ := g10.bool Try.underlying4
    simp only [List.cons.injEq, and_true] at q0 q1 q2 q3 q4 q5 q6 q7 q8 q9 q10
    subst q0 q1 q2 q3 q4 q5 q6 q7 q8 q9 q10
    simp only [List.sum_cons, List.sum_nil] at hms
    exact ⟨⟨a0, a1, a2, a3, a4, a5, a6, a7, a8, a9, a10⟩, rfl⟩
set_option maxRecDepth 100000 in
theorem open_peers (h : ArgB enc Try.prog W 23 cs M) : ∃ A n c ps, cs = [.slice A n c] ∧ Peers W W.heap.size A n c ps ∧ n + 1 ≤ M := by
  obtain ⟨A, n, c, ps, rfl, h1, h2, _⟩ := h.recs (f := PeerV.vals) (size := 11) (Q := fun _ => True) (wt := fun _ => 1) Try.underlying23 (by kernel_rfl) (by omega) (fun _ => rfl) (fun vs m hv => by
    obtain ⟨r, e⟩ := open_peer hv
    exact ⟨r, e, trivial, hv.pos⟩)
  exact ⟨A, n, c, ps, rfl, h1, by rw [sum_one, h1.2] at h2; exact h2⟩
set_option maxRecDepth 100000 in
theorem open_pset (h : ArgB enc Try.prog W 30 cs M) : ∃ (g0 g1 g2 g3 : Option Addr) (m0 c0 m1 c1 m2 c2 m3 c3 : Nat), cs = [.slice g0 m0 c0, .slice g1 m1 c1, .slice g2 m2 c2, .slice g3 m3 c3] := by
  obtain ⟨hl, ms, hml, hms, hf⟩ := h.fields Try.underlying30 [(25, 0, 1), (26, 1, 1), (27, 2, 1), (28, 3, 1)] (by kernel_rfl)
  have hl2 : cs.length = 4 := hl.trans (by kernel_rfl)
  match cs, hl2, ms, hml with
  | [c0, c1, c2, c3], _, [m0, m1, m2, m3], _ =>
    obtain ⟨x0, e0, g0⟩ := hf 0 _ _ _ rfl
    obtain ⟨x1, e1, g1⟩ := hf 1 _ _ _ rfl
    obtain ⟨x2, e2, g2⟩ := hf 2 _ _ _ rfl
    obtain ⟨x3, e3, g3⟩ := hf 3 _ _ _ rfl
    simp only [List.drop_succ_cons, List.drop_zero, List.take_succ_cons, List.take_zero, List.getElem?_cons_zero, List.getElem?_cons_succ, Option.some.injEq] at g0 e0 g1 e1 g2 e2 g3 e3
    subst e0 e1 e2 e3
    obtain ⟨A0, n0, d0, q0⟩ := g0.shape Try.underlying25
    obtain ⟨A1, n1, d1, q1⟩ := g1.shape Try.underlying26
    obtain ⟨A2, n2, d2, q2⟩ := g2.shape Try.underlying27
    obtain ⟨A3, n3, d3, q3⟩ := g3.shape Try.underlying28
    simp only [List.cons.injEq, and_true] at q0 q1 q2 q3
    subst q0 q1 q2 q3
    simp only [List.sum_cons, List.sum_nil] at hms
    exact ⟨A0, A1, A2, A3, n0, d0, n1, d1, n2, d2, n3, d3, rfl⟩
set_option maxRecDepth 100000 in
theorem open_damp (h : ArgB enc Try.prog W 32 cs M) : ∃ d0 d1 d2 d3 : Int, cs = [.int .i64 d0, .int .i64 d1, .int .i64 d2, .int .i64 d3] := by
  obtain ⟨hl, ms, hml, hms, hf⟩ := h.fields Try.underlying32 [(3, 0, 1), (3, 1, 1), (3, 2, 1), (3, 3, 1)] (by kernel_rfl)
  have hl2 : cs.length = 4 := hl.trans (by kernel_rfl)
  match cs, hl2, ms, hml with
  | [c0, c1, c2, c3], _, [m0, m1, m2, m3], _ =>
    obtain ⟨x0, e0, g0⟩ := hf 0 _ _ _ rfl
    obtain ⟨x1, e1, g1⟩ := hf 1 _ _ _ rfl
    obtain ⟨x2, e2, g2⟩ := hf 2 _ _ _ rfl
    obtain ⟨x3, e3, g3⟩ := hf 3 _ _ _ rfl
    simp only [List.drop_succ_cons, List.drop_zero, List.take_succ_cons, List.take_zero, List.getElem?_cons_zero, List.getElem?_cons_succ, Option.some.injEq] at g0 e0 g1 e1 g2 e2 g3 e3
    subst e0 e1 e2 e3
    obtain ⟨a0, q0, w0⟩ := g0.int Try.underlying3
    obtain ⟨a1, q1, w1⟩ := g1.int Try.underlying3
    obtain ⟨a2, q2, w2⟩ := g2.int Try.underlying3
    obtain ⟨a3, q3, w3⟩ := g3.int Try.underlying3
    simp only [List.cons.injEq, and_true] at q0 q1 q2 q3
    subst q0 q1 q2 q3
    simp only [List.sum_cons, List.sum_nil] at hms
    exact ⟨a0, a1, a2, a3, rfl⟩
set_option maxRecDepth 100000 in
set_option maxHeartbeats 4000000 in
theorem open_conf (h : ArgB enc Try.prog W 34 cs M) : ∃ (asn cfd rtr clt : Int) (QA na g0 g1 g2 g3 : Option Addr) (qn qc nn nc m0 c0 m1 c1 m2 c2 m3 c3 : Nat) (d0 d1 d2 d3 mul : Int) (ps : List PeerV), cs = [.int .i64 asn, .int .i64 cfd, .int .u32 rtr, .int .u32 clt, .slice QA qn qc, .slice na nn nc, .slice g0 m0 c0, .slice g1 m1 c1, .slice g2 m2 c2, .slice g3 m3 c3, .int .i64 d0, .int .i64 d1, .int .i64 d2, .int .i64 d3, .int .i64 mul] ∧ Peers W W.heap.size QA qn qc ps ∧ qn ≤ M := by
  obtain ⟨hl, ms, hml, hms, hf⟩ := h.fields Try.underlying34 [(3, 0, 1), (3, 1, 1), (22, 2, 1), (22, 3, 1), (23, 4, 1), (24, 5, 1), (30, 6, 4), (32, 10, 4), (3, 14, 1)] (by kernel_rfl)
  have hl2 : cs.length = 15 := hl.trans (by kernel_rfl)
  match cs, hl2, ms, hml with
  | [c0, c1, c2, c3, c4, c5, c6, c7, c8, c9, c10, c11, c12, c13, c14], _, [m0, m1, m2, m3, m4, m5, m6, m7, m8], _ =>
    obtain ⟨x0, e0, g0⟩ := hf 0 _ _ _ rfl
    obtain ⟨x1, e1, g1⟩ := hf 1 _ _ _ rfl
    obtain ⟨x2, e2, g2⟩ := hf 2 _ _ _ rfl
    obtain ⟨x3, e3, g3⟩ := hf 3 _ _ _ rfl
    obtain ⟨x4, e4, g4⟩ := hf 4 _ _ _ rfl
    obtain ⟨x5, e5, g5⟩ := hf 5 _ _ _ rfl
    obtain ⟨x6, e6, g6⟩ := hf 6 _ _ _ rfl
    obtain ⟨x7, e7, g7⟩ := hf 7 _ _ _ rfl
    obtain ⟨x8, e8, g8⟩ := hf 8 _ _ _ rfl
    simp only [List.drop_succ_cons, List.drop_zero, List.take_succ_cons, List.take_zero, List.getElem?_cons_zero, List.getElem?_cons_succ, Option.some.injEq] at g0 e0 g1 e1 g2 e2 g3 e3 g4 e4 g5 e5 g6 e6 g7 e7 g8 e8
    subst e0 e1 e2 e3 e4 e5 e6 e7 e8
    obtain ⟨asn, q0, w0⟩ := g0.int Try.underlying3
    obtain ⟨cfd, q1, w1⟩ := g1.int Try.underlying3
    obtain ⟨rtr, q2, w2⟩ := g2.int Try.underlying22
    obtain ⟨clt, q3, w3⟩ := g3.int Try.underlying22
    obtain ⟨QA, qn, qc, ps, q4, h4, b4⟩ := open_peers g4
    obtain ⟨na, nn, nc, q5⟩ := g5.shape Try.underlying24
    obtain ⟨G0, G1, G2, G3, n0, k0, n1, k1, n2, k2, n3, k3, q6⟩ := open_pset g6
    obtain ⟨D0, D1, D2, D3, q7⟩ := open_damp g7
    obtain ⟨mul, q8, w8⟩ := g8.int Try.underlying3
    simp only [List.cons.injEq, and_true] at q0 q1 q2 q3 q4 q5 q6 q7 q8
    obtain ⟨rfl, rfl, rfl, rfl⟩ := q6
    obtain ⟨rfl, rfl, rfl, rfl⟩ := q7
    subst q0 q1 q2 q3 q4 q5 q8
    simp only [List.sum_cons, List.sum_nil] at hms
    exact ⟨asn, cfd, rtr, clt, QA, na, G0, G1, G2, G3, qn, qc, nn, nc, n0, k0, n1, k1, n2, k2, n3, k3, D0, D1, D2, D3, mul, ps, rfl, h4, by omega⟩
/-- a speaker as an argument -/
def ConfIn (W : World) (v : Value) : Prop := ∃ (asn cfd rtr clt : Int) (QA na g0 g1 g2 g3 : Option Addr) (qn qc nn nc m0 c0 m1 c1 m2 c2 m3 c3 : Nat) (d0 d1 d2 d3 mul : Int) (ps : List PeerV), v = .agg #[.int .i64 asn, .int .i64 cfd, .int .u32 rtr, .int .u32 clt, .slice QA qn qc, .slice na nn nc, .slice g0 m0 c0, .slice g1 m1 c1, .slice g2 m2 c2, .slice g3 m3 c3, .int .i64 d0, .int .i64 d1, .int .i64 d2, .int .i64 d3, .int .i64 mul] ∧ Peers W W.heap.size QA qn qc ps
/-- attributes as an argument -/
def AttIn (W : World) (v : Value) : Prop := ∃ (og hop med pref aas aad ori : Int) (hm hp atm ha ho : Bool) (pA cA kA uA : Option Addr) (pn pc cn cc kn kc un uc : Nat) (p us : Path) (cm cl : List Int), v = .agg #[.int .i64 og, .slice pA pn pc, .int .u32 hop, .bool hm, .int .i64 med, .bool hp, .int .i64 pref, .bool atm, .bool ha, .int .i64 aas, .int .u32 aad, .slice cA cn cc, .bool ho, .int .u32 ori, .slice kA kn kc, .slice uA un uc] ∧ Lists W W.heap.size pA cA kA uA pn pc cn cc kn kc un uc p cm cl us ∧ (flat p).length ≤ 1048576 ∧ (flat us).length ≤ 1048576
theorem bulk_mem {H : Type} {d : DataW H} : ∀ {l : List (DataW H)}, d ∈ l → Rows.uptoBulk d ≤ (l.map Rows.uptoBulk).sum
  | [], h => by cases h
  | x :: r, h => by
    rw [List.map_cons, List.sum_cons]
    rcases List.mem_cons.1 h with rfl | h
    · omega
    · have := bulk_mem h
      omega
theorem bulk_each {H : Type} {l : List (DataW H)} (h : Rows.uptoSmall H l = true) {d : DataW H} (hd : d ∈ l) : Rows.uptoBulk d ≤ 1048576 := Nat.le_trans (bulk_mem hd) (bulk_le h)
set_option maxRecDepth 100000 in
set_option maxHeartbeats 4000000 in
theorem open_conf_arg {r : Reach} {b0 : Nat} {v : Value} {d : DataW H} {pl : List MemPlace} (hv : Value.okWide Try.prog W r b0 34 v) (h : DataW.Trod enc Try.prog W 0 (fun _ => true) true 34 v d pl) (hM : Rows.uptoBulk d ≤ 1048576) : ConfIn W v := by
  obtain ⟨⟨cs⟩, rfl, _⟩ := okWide_struct Try.underlying34 hv
  obtain ⟨asn, cfd, rtr, clt, QA, na, g0, g1, g2, g3, qn, qc, nn, nc, m0, c0, m1, c1, m2, c2, m3, c3, d0, d1, d2, d3, mul, ps, e, h1, _⟩ := open_conf (ArgB.of h)
  exact ⟨asn, cfd, rtr, clt, QA, na, g0, g1, g2, g3, qn, qc, nn, nc, m0, c0, m1, c1, m2, c2, m3, c3, d0, d1, d2, d3, mul, ps, congrArg (fun l => Value.agg l.toArray) e, h1⟩
set_option maxRecDepth 100000 in
set_option maxHeartbeats 4000000 in
theorem open_att_arg {r : Reach} {b0 : Nat} {v : Value} {d : DataW H} {pl : List MemPlace} (hv : Value.okWide Try.prog W r b0 40 v) (h : DataW.Trod enc Try.prog W 0 (fun _ => true) true 40 v d pl) (hM : Rows.uptoBulk d ≤ 1048576) : AttIn W v := by
  obtain ⟨⟨cs⟩, rfl, _⟩ := okWide_struct Try.underlying40 hv
  obtain ⟨og, hop, med, pref, aas, aad, ori, hm, hp, atm, ha, ho, pA, cA, kA, uA, pn, pc, cn, cc, kn, kc, un, uc, p, us, cm, cl, e, h1, h2⟩ := open_att (ArgB.of h) hM
  exact ⟨og, hop, med, pref, aas, aad, ori, hm, hp, atm, ha, ho, pA, cA, kA, uA, pn, pc, cn, cc, kn, kc, un, uc, p, us, cm, cl, congrArg (fun l => Value.agg l.toArray) e, h1, by omega, by omega⟩
end
end Go.Proofs.Ytojgohgeagbkbaa
