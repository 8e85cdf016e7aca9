/- A row of records of the call's own, written field by field; attributes in their box. -/
import Derived.Test.YtojgohgeagbkbaaLst
import Derived.Test.YtojgohgeagbkbaaTake
namespace Go.Proofs.Ytojgohgeagbkbaa
open Go.RowKit

/-- a row at block g that reads as ts; the lists lie outside of g and of the blocks lo .. hi - 1 -/
def ROut (T : TypeId) (k : IntKind) (w : World) (base lo hi g n c : Nat) (ts : Path) : Prop :=
  ∃ fs : List SV, w.ownsRow base T 2 (.slice (some ⟨g, 0, none⟩) n c) n (fs.flatMap SV.vals) ∧ fs.map SV.key = ts ∧
    ∀ t ∈ fs, Ints w w.heap.size k t.A t.n t.c t.xs ∧ (0 < t.n → ∀ ad, t.A = some ad → ad.block ≠ g ∧ (ad.block < lo ∨ hi ≤ ad.block))
section
variable {T : TypeId} {k : IntKind} {w w' : World} {base lo hi g n c : Nat} {ts : Path}
theorem ROut.start {fs : List SV} (h : w.ownsRow base T 2 (.slice (some ⟨g, 0, none⟩) n c) n (fs.flatMap SV.vals)) (hf : fs.map SV.key = ts) (hi' : ∀ t ∈ fs, Ints w lo k t.A t.n t.c t.xs) (hl : lo ≤ base) (hlw : lo ≤ w.heap.size) : ROut T k w base lo hi g n c ts := by
  refine ⟨fs, h, hf, fun t ht => ⟨(hi' t ht).more hlw, fun hn ad ha => ?_⟩⟩
  obtain ⟨b, o, e, hb, _⟩ := (hi' t ht).2.2.2 hn
  have hg := (World.ownsRow.lt h g rfl).1
  rw [e] at ha
  injection ha with ha
  subst ha
  refine ⟨?_, .inl hb⟩
  show b ≠ g
  omega
theorem ROut.gb (h : ROut T k w base lo hi g n c ts) : base ≤ g ∧ g < w.heap.size := by
  obtain ⟨fs, h, _⟩ := h
  exact World.ownsRow.lt h g rfl
theorem ROut.below (h : ROut T k w base lo hi g n c ts) (hb : Below w.heap.size w w') : ROut T k w' base lo hi g n c ts := by
  obtain ⟨fs, h1, h2, h3⟩ := h
  exact ⟨fs, row_below h1 hb, h2, fun t ht => ⟨((h3 t ht).1.below hb).more hb.size, (h3 t ht).2⟩⟩
theorem ROut.get (h : ROut T k w base lo hi g n c ts) {j : Nat} (hj : j < n) : ∃ t : SV, w.cell? ⟨g, j * 2, none⟩ = some (.int .i64 t.kind) ∧ w.cell? ⟨g, j * 2 + 1, none⟩ = some (.slice t.A t.n t.c) ∧ Hid (ts[j]? = some (t.kind, t.xs)) ∧ Hid (Ints w w.heap.size k t.A t.n t.c t.xs) := by
  obtain ⟨fs, h1, h2, h3⟩ := h
  have hl : fs.length = n := by
    have := h1.1
    rw [flat_len SV.vals_len] at this
    omega
  have hj' : j < fs.length := by omega
  have e : fs[j]? = some fs[j] := List.getElem?_eq_getElem hj'
  refine ⟨fs[j], ?_, ?_, ?_, (h3 _ (List.getElem_mem hj')).1⟩
  · rw [World.ownsRow.cellAt h1 (j * 2) (by omega), ← Nat.add_zero (j * 2), flat_get SV.vals_len e (by omega)]
    rfl
  · rw [World.ownsRow.cellAt h1 (j * 2 + 1) (by omega), flat_get SV.vals_len e (by omega)]
    rfl
  · show _ = _
    rw [← h2, List.getElem?_map, e]
    rfl
theorem ROut.frozen (h : ROut T k w base lo hi g n c ts) (i : Nat) : w.frozen? ⟨g, i, none⟩ = false := by
  obtain ⟨fs, h1, _⟩ := h
  exact World.ownsRow.frozenAt h1 i
theorem flat_set : ∀ {fs : List SV} {j : Nat} {t : SV} (A : Option Addr) (m d : Nat), fs[j]? = some t → (fs.flatMap SV.vals).set (j * 2 + 1) (.slice A m d) = (fs.set j ⟨t.kind, A, m, d, t.xs⟩).flatMap SV.vals
  | [], j, t, _, _, _, h => by simp at h
  | x :: fs, 0, t, A, m, d, h => by
    simp only [List.getElem?_cons_zero, Option.some.injEq] at h
    subst h
    simp [SV.vals]
  | x :: fs, j + 1, t, A, m, d, h => by
    simp only [List.getElem?_cons_succ] at h
    rw [List.set_cons_succ, List.flatMap_cons, List.flatMap_cons, ← flat_set A m d h]
    have e : (j + 1) * 2 + 1 = (j * 2 + 1) + 1 + 1 := by omega
    rw [e]
    rfl
/-- the field is written: the same numbers, elsewhere -/
theorem ROut.set (h : ROut T k w base lo hi g n c ts) {j : Nat} {y : Int} {xs : List Int} (hj : ts[j]? = some (y, xs)) {A : Option Addr} {m d : Nat} (hx : Ints w w.heap.size k A m d xs) (hf : 0 < m → ∀ ad, A = some ad → ad.block ≠ g ∧ hi ≤ ad.block) :
    ROut T k (w.setCell ⟨g, j * 2 + 1, none⟩ (.slice A m d)) base lo hi g n c ts := by
  obtain ⟨fs, h1, h2, h3⟩ := h
  obtain ⟨t, ht, hty⟩ : ∃ t, fs[j]? = some t ∧ SV.key t = (y, xs) := by
    rw [← h2, List.getElem?_map] at hj
    cases e : fs[j]? with
    | none => rw [e] at hj; simp at hj
    | some t => rw [e] at hj; exact ⟨t, rfl, by simpa using hj⟩
  obtain ⟨hty1, hty2⟩ : t.kind = y ∧ t.xs = xs := by
    simp only [SV.key, Prod.mk.injEq] at hty
    exact hty
  have hs : Save g w (w.setCell ⟨g, j * 2 + 1, none⟩ (.slice A m d)) := Save.set
  refine ⟨fs.set j ⟨t.kind, A, m, d, t.xs⟩, ?_, ?_, ?_⟩
  · rw [← flat_set A m d ht]
    exact (World.ownsRow.stored h1 (j * 2 + 1) _).1
  · rw [List.map_set, h2]
    apply List.ext_getElem?
    intro i
    rw [List.getElem?_set]
    split
    · rename_i hij
      subst hij
      rw [hj]
      have : j < ts.length := (List.getElem?_eq_some_iff.1 hj).1
      rw [if_pos this]
      simp [SV.key, hty1, hty2]
    · rfl
  · intro u hu
    rcases List.mem_or_eq_of_mem_set hu with hu | rfl
    · exact ⟨(ints_save (h3 u hu).1 hs (Nat.le_refl _) fun hn ad ha => ((h3 u hu).2 hn ad ha).1).more hs.size, (h3 u hu).2⟩
    · rw [hty2]
      refine ⟨(ints_save hx hs (Nat.le_refl _) fun hn ad ha => (hf hn ad ha).1).more hs.size, fun hn ad ha => ⟨(hf hn ad ha).1, .inr (hf hn ad ha).2⟩⟩
/-- another block is written -/
theorem ROut.other (h : ROut T k w base lo hi g n c ts) {b : Nat} (hs : Save b w w') (hb : lo ≤ b ∧ b < hi) (hg : hi ≤ base) : ROut T k w' base lo hi g n c ts := by
  obtain ⟨fs, h1, h2, h3⟩ := h
  have hgb := (World.ownsRow.lt h1 g rfl).1
  refine ⟨fs, row_save h1 hs ?_, h2, fun u hu => ⟨(ints_save (h3 u hu).1 hs (Nat.le_refl _) fun hn ad ha => ?_).more hs.size, (h3 u hu).2⟩⟩
  · show some g ≠ some b
    intro e
    injection e with e
    omega
  · have := ((h3 u hu).2 hn ad ha).2
    omega
theorem ROut.recs (h : ROut T k w base lo hi g n c ts) : ∃ fs, Recs w w.heap.size 2 (some ⟨g, 0, none⟩) n c SV.vals fs ∧ fs.map SV.key = ts ∧ ∀ t ∈ fs, Ints w w.heap.size k t.A t.n t.c t.xs := by
  obtain ⟨fs, h1, h2, h3⟩ := h
  have hl : fs.length = n := by
    have := h1.1
    rw [flat_len SV.vals_len] at this
    omega
  exact ⟨fs, ⟨Cells.of_own h1, hl⟩, h2, fun t ht => (h3 t ht).1⟩
end
theorem ROut.segs {w : World} {T : TypeId} {base lo hi g n c : Nat} {ts : Path} (h : ROut T .i64 w base lo hi g n c ts) : Segs w w.heap.size (some ⟨g, 0, none⟩) n c ts := h.recs
theorem ROut.tlvs {w : World} {T : TypeId} {base lo hi g n c : Nat} {ts : Path} (h : ROut T .u8 w base lo hi g n c ts) : Tlvs w w.heap.size (some ⟨g, 0, none⟩) n c ts := h.recs
end Go.Proofs.Ytojgohgeagbkbaa
