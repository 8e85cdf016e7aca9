/- Words for memory that every text of this seat uses: a slice that reads as a list of cells, a slice of one-cell integers that reads as a list of numbers, append onto a row of the call's own, carried over worlds that keep what was there. -/
import Derived.Test.YtojgohgeagbkbaaProg
import Derived.WalkKit
import Derived.WalkSpells
import Derived.WalkLawsBesides
import Derived.Lib.Hide
import Derived.Deep.QuietTactic
import Derived.BigQuiet
import Derived.IntWalk
import Derived.Maps.AppendAt
import Derived.Deep.AppendLies
namespace Go.Proofs.Ytojgohgeagbkbaa
open Go.RowKit

/-- The slice value with address A, length n and capacity c reads as the cells vs, size cells an element; they lie below block B. -/
def Cells (w : World) (B size : Nat) (A : Option Addr) (n c : Nat) (vs : List Value) : Prop :=
  n ≤ c ∧ c ≤ maxLen ∧ vs.length = n * size ∧
    (0 < n → ∃ b o, A = some ⟨b, o, none⟩ ∧ b < B ∧ ∀ j, j < n * size → w.cell? ⟨b, o + j, none⟩ = vs[j]?)
/-- .. as the numbers xs of kind k. -/
def Ints (w : World) (B : Nat) (k : IntKind) (A : Option Addr) (n c : Nat) (xs : List Int) : Prop := Cells w B 1 A n c (xs.map (Value.int k))

section
variable {w w' : World} {B B' size : Nat} {k : IntKind} {A : Option Addr} {n c : Nat} {xs : List Int} {vs : List Value}
theorem Cells.keep (h : Cells w B size A n c vs) (hk : ∀ p : Addr, p.block < B → w'.cell? p = w.cell? p) : Cells w' B size A n c vs :=
  ⟨h.1, h.2.1, h.2.2.1, fun hn => by
    obtain ⟨b, o, e, hb, hc⟩ := h.2.2.2 hn
    exact ⟨b, o, e, hb, fun j hj => (hk _ hb).trans (hc j hj)⟩⟩
theorem Cells.more (h : Cells w B size A n c vs) (hB : B ≤ B') : Cells w B' size A n c vs :=
  ⟨h.1, h.2.1, h.2.2.1, fun hn => by
    obtain ⟨b, o, e, hb, hc⟩ := h.2.2.2 hn
    exact ⟨b, o, e, by omega, hc⟩⟩
theorem Cells.below (h : Cells w B size A n c vs) (hb : Below B w w') : Cells w' B size A n c vs := h.keep fun _ hp => hb.cell hp
theorem Cells.nil (w : World) (B size : Nat) : Cells w B size none 0 0 [] := ⟨by omega, by simp [maxLen], by simp, fun h => absurd h (by omega)⟩
theorem Cells.of_own {base : Nat} {e : TypeId} {c : Nat} (h : w.ownsRow base e size (.slice A n c) n vs) : Cells w w.heap.size size A n c vs := by
  obtain ⟨h1, h2⟩ := h
  rcases h2 with ⟨h2, rfl⟩ | ⟨g, cap, cur, hv, hb, hh, hn, hc, hs, ht⟩
  · injection h2 with h2 _ h3
    subst h3
    exact ⟨by omega, by simp [maxLen], h1, fun h => absurd h (by omega)⟩
  · injection hv with hv _ hcap
    subst hcap
    subst hv
    refine ⟨hn, hc, h1, fun _ => ⟨g, 0, rfl, ?_, fun j hj => ?_⟩⟩
    · rcases Nat.lt_or_ge g w.heap.size with hl | hl
      · exact hl
      · rw [Array.getElem?_eq_none hl] at hh
        cases hh
    · rw [Nat.zero_add, cell_of_row w g j cur e (0, 0) hh, ← ht, List.getElem?_take, if_pos hj]
      simp
/-- what a cut of a slice reads as -/
theorem Cells.slice {P : Program} {T E : TypeId} (hT : P.underlying T = some (.slice E))
    (hE : (P.info? E).map (fun i => i.size) = some size) (h : Cells w B size A n c vs) {lo hi : Nat} (h1 : lo ≤ hi) (h2 : hi ≤ n) :
    ∃ A' c', (∀ w' : World, (Instr.slice T (.slice A n c) (some (.int .i64 lo)) (some (.int .i64 hi)) none).run P w' = .ok (.slice A' (hi - lo) c') w') ∧ Cells w B size A' (hi - lo) c' ((vs.drop (lo * size)).take ((hi - lo) * size)) := by
  obtain ⟨ha, hb, hc, hd⟩ := h
  obtain ⟨i, hi', hs⟩ : ∃ i, P.info? E = some i ∧ i.size = size := by
    cases h : P.info? E with
    | none => rw [h] at hE; cases hE
    | some i => rw [h] at hE; exact ⟨i, rfl, by simpa using hE⟩
  have hm : lo * size + (hi - lo) * size = hi * size := by rw [← Nat.add_mul]; congr 1; omega
  have hm2 : hi * size ≤ n * size := Nat.mul_le_mul_right _ h2
  refine ⟨if c = lo then A else A.map (·.add (lo * size)), c - lo, fun w' => ?_, by omega, by omega, by simp; omega, fun hn => ?_⟩
  · have e1 : (0 : Int) ≤ (lo : Int) := by omega
    have e2 : (lo : Int) ≤ (hi : Int) := by omega
    have e3 : (hi : Int) ≤ (c : Int) := by omega
    simp [Instr.slice, run_underlying hT, Instr.sliceBounds, run_sliceBound, e1, e2, e3, sizeOf, typeInfo, hi', hs]
  · obtain ⟨b, o, rfl, hbB, hcell⟩ := hd (by omega)
    rw [if_neg (by omega)]
    refine ⟨b, o + lo * size, ?_, hbB, fun j hj => ?_⟩
    · by_cases h0 : lo * size = 0 <;> simp [Addr.add, h0]
    · rw [Nat.add_assoc, hcell (lo * size + j) (by omega)]
      simp [List.getElem?_drop, hj]
/-- the same where the upper end is left out -/
theorem Cells.sliceFrom {P : Program} {T E : TypeId} (hT : P.underlying T = some (.slice E))
    (hE : (P.info? E).map (fun i => i.size) = some size) (h : Cells w B size A n c vs) {lo : Nat} (h1 : lo ≤ n) :
    ∃ A' c', (∀ w' : World, (Instr.slice T (.slice A n c) (some (.int .i64 lo)) none none).run P w' = .ok (.slice A' (n - lo) c') w') ∧ Cells w B size A' (n - lo) c' (vs.drop (lo * size)) := by
  obtain ⟨ha, hb, hc, hd⟩ := h
  obtain ⟨i, hi', hs⟩ : ∃ i, P.info? E = some i ∧ i.size = size := by
    cases h : P.info? E with
    | none => rw [h] at hE; cases hE
    | some i => rw [h] at hE; exact ⟨i, rfl, by simpa using hE⟩
  have hm : lo * size + (n - lo) * size = n * size := by rw [← Nat.add_mul]; congr 1; omega
  refine ⟨if c = lo then A else A.map (·.add (lo * size)), c - lo, fun w' => ?_, by omega, by omega, by simp; omega, fun hn => ?_⟩
  · have e1 : (0 : Int) ≤ (lo : Int) := by omega
    have e2 : (lo : Int) ≤ (n : Int) := by omega
    simp [Instr.slice, run_underlying hT, Instr.sliceBounds, run_sliceBound, e1, e2, sizeOf, typeInfo, hi', hs]
  · obtain ⟨b, o, rfl, hbB, hcell⟩ := hd (by omega)
    rw [if_neg (by omega)]
    refine ⟨b, o + lo * size, ?_, hbB, fun j hj => ?_⟩
    · by_cases h0 : lo * size = 0 <;> simp [Addr.add, h0]
    · rw [Nat.add_assoc, hcell (lo * size + j) (by omega)]
      simp [List.getElem?_drop]
/-- append onto a row of the call's own, from a slice that reads -/
theorem Cells.append {P : Program} {base : Nat} {t ty e : TypeId} {z : Value} {bytes : Nat} (ht : P.underlying t = some (.slice e))
    (hinfo : (P.info? e).map (fun i => (i.zero, i.size, i.bytes)) = some (some z, size, bytes)) (hzs : z.cells.size = size) (hsz : 0 < size)
    {v : Value} {l : Nat} {us : List Value} (hown : w.ownsRow base e size v l us) (h : Cells w B size A n c vs) (h1 : ∀ u ∈ vs, u.oneCell' = true)
    (h63 : l + n ≤ maxLen) (hbytes : (l + n) * bytes ≤ 140737488355328) (hbase : base ≤ w.heap.size) :
    ∃ v' w', (Builtin.append_ #[t, t] ty #[v, .slice A n c]).run P w = .ok v' w' ∧ w'.ownsRow base e size v' (l + n) (us ++ vs) ∧ w.grownBy w' v.ownBlock ∧
      (v'.ownBlock = v.ownBlock ∨ v'.ownBlock = some w.heap.size) := by
  obtain ⟨i, hi, hz, hs1, hs2⟩ := info_parts hinfo
  by_cases hn : n = 0
  · subst hn
    have hv : vs = [] := List.eq_nil_of_length_eq_zero (by simpa using h.2.2.1)
    subst hv
    refine ⟨v, w, ?_, by simpa using hown, World.grownBy.refl w _, .inl rfl⟩
    rcases hown.2 with ⟨rfl, rfl⟩ | ⟨g, cap, cur, rfl, _, _, hnc, _⟩
    · cases A <;> simp [Builtin.append_, run_underlying ht, sizeOf, typeInfo, hi, Builtin.lenOf, Builtin.firstCells, loadCells, loadCellsFrom]
    · cases A <;> simp [Builtin.append_, run_underlying ht, sizeOf, typeInfo, hi, Builtin.lenOf, Builtin.firstCells, hnc, storeCells, loadCells, loadCellsFrom]
  · obtain ⟨b, o, rfl, hb, hc⟩ := h.2.2.2 (by omega)
    have hcells : ∀ j u, vs[j]? = some u → w.cell? ((⟨b, o, none⟩ : Addr).add j) = some u := by
      intro j u hu
      have hj : j < n * size := by
        rw [← h.2.2.1]
        exact (List.getElem?_eq_some_iff.1 hu).1
      rw [← hu, ← hc j hj]
      by_cases h0 : j = 0 <;> simp [Addr.add, h0]
    obtain ⟨v', w', hr, h2, h3, _, h5⟩ := run_append_own_at (P := P) w base t ty e i z size bytes ht hi hz hs1 hs2 hzs hsz v l us hown ⟨b, o, none⟩ n c vs h.2.2.1 hcells h1 h63 hbytes hbase
    exact ⟨v', w', hr, h2, h3, h5⟩

/-- append within the capacity -/
theorem Cells.appendFits {P : Program} {base : Nat} {t ty e : TypeId} {z : Value} {bytes : Nat} (ht : P.underlying t = some (.slice e))
    (hinfo : (P.info? e).map (fun i => (i.zero, i.size, i.bytes)) = some (some z, size, bytes))
    {g l cap : Nat} {us : List Value} (hown : w.ownsRow base e size (.slice (some ⟨g, 0, none⟩) l cap) l us) (h : Cells w B size A n c vs) (h1 : ∀ u ∈ vs, u.oneCell' = true) (hfit : l + n ≤ cap) :
    ∃ w', (Builtin.append_ #[t, t] ty #[.slice (some ⟨g, 0, none⟩) l cap, .slice A n c]).run P w = .ok (.slice (some ⟨g, 0, none⟩) (l + n) cap) w' ∧
      w'.ownsRow base e size (.slice (some ⟨g, 0, none⟩) (l + n) cap) (l + n) (us ++ vs) ∧ w.grownBy w' (some g) := by
  obtain ⟨i, hi, hz, hs1, hs2⟩ := info_parts hinfo
  by_cases hn : n = 0
  · subst hn
    have hv : vs = [] := List.eq_nil_of_length_eq_zero (by simpa using h.2.2.1)
    subst hv
    have hfit' : l ≤ cap := by omega
    refine ⟨w, ?_, by simpa using hown, World.grownBy.refl w _⟩
    cases A <;> simp [Builtin.append_, run_underlying ht, sizeOf, typeInfo, hi, Builtin.lenOf, Builtin.firstCells, hfit', storeCells, loadCells, loadCellsFrom]
  · obtain ⟨b, o, rfl, hb, hc⟩ := h.2.2.2 (by omega)
    have hcells : ∀ j u, vs[j]? = some u → w.cell? ((⟨b, o, none⟩ : Addr).add j) = some u := by
      intro j u hu
      have hj : j < n * size := by
        rw [← h.2.2.1]
        exact (List.getElem?_eq_some_iff.1 hu).1
      rw [← hu, ← hc j hj]
      by_cases h0 : j = 0 <;> simp [Addr.add, h0]
    exact run_append_fits (P := P) w base t ty e i size ht hi hs1 g l cap us hown ⟨b, o, none⟩ n c vs h.2.2.1 hcells h1 hfit

theorem Ints.len (h : Ints w B k A n c xs) : xs.length = n := by simpa using h.2.2.1
theorem Ints.cell (h : Ints w B k A n c xs) {j : Nat} (hj : j < n) :
    ∃ b o x, A = some ⟨b, o, none⟩ ∧ b < B ∧ w.cell? ⟨b, o + j, none⟩ = some (.int k x) ∧ Hid (xs.getD j 0 = x) := by
  obtain ⟨b, o, e, hb, hc⟩ := h.2.2.2 (by omega)
  have hl := h.len
  refine ⟨b, o, _, e, hb, ?_, rfl⟩
  rw [hc j (by omega), List.getElem?_map, List.getElem?_eq_getElem (by omega), List.getD_eq_getElem?_getD, List.getElem?_eq_getElem (by omega)]
  rfl
theorem Ints.keep (h : Ints w B k A n c xs) (hk : ∀ p : Addr, p.block < B → w'.cell? p = w.cell? p) : Ints w' B k A n c xs := Cells.keep h hk
theorem Ints.more (h : Ints w B k A n c xs) (hB : B ≤ B') : Ints w B' k A n c xs := Cells.more h hB
theorem Ints.below (h : Ints w B k A n c xs) (hb : Below B w w') : Ints w' B k A n c xs := Cells.below h hb
theorem Ints.nil (w : World) (B : Nat) (k : IntKind) : Ints w B k none 0 0 [] := Cells.nil w B 1
theorem Ints.slice {P : Program} {T E : TypeId} (hT : P.underlying T = some (.slice E)) (hE : (P.info? E).map (fun i => i.size) = some 1)
    (h : Ints w B k A n c xs) {lo hi : Nat} (h1 : lo ≤ hi) (h2 : hi ≤ n) :
    ∃ A' c', (∀ w' : World, (Instr.slice T (.slice A n c) (some (.int .i64 lo)) (some (.int .i64 hi)) none).run P w' = .ok (.slice A' (hi - lo) c') w') ∧ Ints w B k A' (hi - lo) c' ((xs.drop lo).take (hi - lo)) := by
  obtain ⟨A', c', hs, hy⟩ := Cells.slice hT hE h h1 h2
  exact ⟨A', c', hs, by unfold Ints; rw [List.map_take, List.map_drop]; simpa using hy⟩
theorem Ints.sliceFrom {P : Program} {T E : TypeId} (hT : P.underlying T = some (.slice E)) (hE : (P.info? E).map (fun i => i.size) = some 1)
    (h : Ints w B k A n c xs) {lo : Nat} (h1 : lo ≤ n) :
    ∃ A' c', (∀ w' : World, (Instr.slice T (.slice A n c) (some (.int .i64 lo)) none none).run P w' = .ok (.slice A' (n - lo) c') w') ∧ Ints w B k A' (n - lo) c' (xs.drop lo) := by
  obtain ⟨A', c', hs, hy⟩ := Cells.sliceFrom hT hE h h1
  exact ⟨A', c', hs, by unfold Ints; rw [List.map_drop]; simpa using hy⟩

/-- A slice value of the call's own that holds the numbers xs. -/
def Own (w : World) (base : Nat) (e : TypeId) (k : IntKind) (v : Value) (n : Nat) (xs : List Int) : Prop := w.ownsRow base e 1 v n (xs.map (Value.int k))
theorem Own.nil (w : World) (base : Nat) (e : TypeId) (k : IntKind) : Own w base e k (.slice none 0 0) 0 [] := World.ownsRow_nil w base e 1
theorem Own.alloc {base : Nat} {e : TypeId} {v : Value} (h : Own w base e k v n xs) (o : Obj) : Own (w.alloc o) base e k v n xs := World.ownsRow.alloc h o
theorem Own.ints {base : Nat} {e : TypeId} (h : Own w base e k (.slice A n c) n xs) : Ints w w.heap.size k A n c xs := Cells.of_own h
theorem Own.len {base : Nat} {e : TypeId} {v : Value} (h : Own w base e k v n xs) : xs.length = n := by simpa using h.1
theorem Ints.append {P : Program} {base : Nat} {t ty e : TypeId} {z : Value} {bytes : Nat} (ht : P.underlying t = some (.slice e))
    (hinfo : (P.info? e).map (fun i => (i.zero, i.size, i.bytes)) = some (some z, 1, bytes)) (hzs : z.cells.size = 1)
    {v : Value} {l : Nat} {ys : List Int} (hown : Own w base e k v l ys) (h : Ints w B k A n c xs)
    (h63 : l + n ≤ maxLen) (hbytes : (l + n) * bytes ≤ 140737488355328) (hbase : base ≤ w.heap.size) :
    ∃ v' w', (Builtin.append_ #[t, t] ty #[v, .slice A n c]).run P w = .ok v' w' ∧ Own w' base e k v' (l + n) (ys ++ xs) ∧ w.grownBy w' v.ownBlock ∧
      (v'.ownBlock = v.ownBlock ∨ v'.ownBlock = some w.heap.size) := by
  obtain ⟨v', w', hr, h2, h3⟩ := Cells.append (ty := ty) ht hinfo hzs (by omega) hown h (ints_oneCell k xs) h63 hbytes hbase
  exact ⟨v', w', hr, by unfold Own; rw [List.map_append]; exact h2, h3⟩
/-- what an owned row's value looks like -/
theorem own_form {base : Nat} {e : TypeId} {v : Value} (h : w.ownsRow base e size v n vs) : ∃ A c, v = .slice A n c := by
  rcases h.2 with ⟨rfl, rfl⟩ | ⟨g, cap, cur, rfl, _⟩
  · exact ⟨_, _, rfl⟩
  · exact ⟨_, _, rfl⟩
end

section
variable {w : World} {base g n cap : Nat} {e : TypeId} {k : IntKind} {xs : List Int}
theorem Own.form {v : Value} (h : Own w base e k v n xs) (hn : 0 < n) : ∃ g cap, v = .slice (some ⟨g, 0, none⟩) n cap ∧ base ≤ g ∧ g < w.heap.size := by
  obtain ⟨g, cap, rfl, hb⟩ := World.ownsRow.form h hn
  have := h.lt g rfl
  exact ⟨g, cap, rfl, this.1, this.2⟩
theorem Own.cell (h : Own w base e k (.slice (some ⟨g, 0, none⟩) n cap) n xs) {j : Nat} (hj : j < n) : w.cell? ⟨g, j, none⟩ = some (.int k (xs.getD j 0)) := by
  have hl := h.len
  rw [World.ownsRow.cellAt h j (by omega), List.getElem?_map, List.getElem?_eq_getElem (by omega), List.getD_eq_getElem?_getD, List.getElem?_eq_getElem (by omega)]
  rfl
theorem Own.frozen (h : Own w base e k (.slice (some ⟨g, 0, none⟩) n cap) n xs) (j : Nat) : w.frozen? ⟨g, j, none⟩ = false := World.ownsRow.frozenAt h j
theorem Own.set (h : Own w base e k (.slice (some ⟨g, 0, none⟩) n cap) n xs) (j : Nat) (x : Int) : Own (w.setCell ⟨g, j, none⟩ (.int k x)) base e k (.slice (some ⟨g, 0, none⟩) n cap) n (xs.set j x) := by
  unfold Own
  rw [List.map_set]
  exact (World.ownsRow.stored h j _).1
end
theorem below_drewN {B : Nat} {a w : World} (h : Below B a w) (n : Nat) : Below B a (w.drewN n) := ⟨h.os, h.tape, h.output, h.size, h.block⟩
theorem own_mono {w : World} {base base' size n : Nat} {e : TypeId} {v : Value} {vs : List Value} (h : w.ownsRow base e size v n vs) (hb : base' ≤ base) : w.ownsRow base' e size v n vs := by
  refine ⟨h.1, ?_⟩
  rcases h.2 with h2 | ⟨g, cap, cur, hv, hg, r⟩
  · exact .inl h2
  · exact .inr ⟨g, cap, cur, hv, Nat.le_trans hb hg, r⟩
/-- a literal slice -/
theorem ints_lit (w : World) (e : TypeId) (k : IntKind) (n : Nat) (xs : List Int) (hn : xs.length = n) (hm : n ≤ maxLen) (B : Nat) (hB : w.heap.size < B) :
    Ints (w.alloc (.cells (xs.map (Value.int k)).toArray e)) B k (some ⟨w.heap.size, 0, none⟩) n n xs := by
  have h : (w.alloc (.cells (xs.map (Value.int k)).toArray e)).ownsRow w.heap.size e 1 (.slice (some ⟨w.heap.size, 0, none⟩) n n) n (xs.map (Value.int k)) :=
    World.ownsRow_lit (base := w.heap.size) w (xs.map (Value.int k)).toArray n (Nat.le_refl _) hm (by simpa using hn)
  exact (Cells.of_own h).more (by simp; omega)
/-- The call returns a slice of its own that holds the numbers xs, and nothing that was there has turned. -/
def GivesInts (el : TypeId) (k : IntKind) (n : Nat) (xs : List Int) (w : World) (e : Ending) (w' : World) : Prop :=
  ∃ A c, e = .returned (.slice A n c) ∧ Own w' w.heap.size el k (.slice A n c) n xs ∧ Below w.heap.size w w'

/-- at an append whose run is known -/
theorem wpList_append_run {P : Program} {w : World} {ops : Array Oper} {rest : List Oper} {o : Oper} {a : Act} {Q : Exit → Act → World → Prop} (hgd : o.guard = none) (s x : Operand) (t : TypeId)
    (ho : o.op = .call { callee := .builtin .append, args := #[s, x], argTypes := #[t, t] }) {v xv v' : Value} {w' : World} (hs : a.eval s = v) (hx : a.eval x = xv)
    (hr : (Builtin.append_ #[t, t] o.type #[v, xv]).run P w = .ok v' w') (h : wpList P ops Q rest (a.put o.dst v') w') : wpList P ops Q (o :: rest) a w := by
  refine wpList_plain hgd fun K hK => ?_
  unfold Oper.wp execOp
  simp only [ho, resolve, invoke, builtin, Sem.run_bind, Sem.run_pure, Result.andThen_ok, List.map_toArray, List.map_cons, List.map_nil, hs, hx, hr]
  exact hK _ _ h

/-- append of cells that lie in a block just made: the run goes on with a row of the call's own -/
theorem wpList_append_new {P : Program} {wr w0 : World} {B base size bytes l m N : Nat} {t e : TypeId} {z v : Value} {us : List Value} {cs : Array Value} {ops : Array Oper} {rest : List Oper} {o : Oper} {a : Act} {Q : Exit → Act → World → Prop}
    (hgd : o.guard = none) (s x : Operand) (ho : o.op = .call { callee := .builtin .append, args := #[s, x], argTypes := #[t, t] }) (hs : a.eval s = v) (hx : a.eval x = .slice (some ⟨N, 0, none⟩) m m) (hN : N = wr.heap.size)
    (ht : P.underlying t = some (.slice e)) (hinfo : (P.info? e).map (fun i => (i.zero, i.size, i.bytes)) = some (some z, size, bytes)) (hzs : z.cells.size = size) (hsz : 0 < size)
    (hown : wr.ownsRow base e size v l us) (hbel : Below B w0 wr) (hB : B ≤ base) (hbase : base ≤ wr.heap.size) (hcs : cs.size = m * size) (h1 : ∀ u ∈ cs.toList, u.oneCell' = true)
    (h63 : l + m ≤ maxLen) (hbytes : (l + m) * bytes ≤ 140737488355328)
    (h : ∀ v' w', w'.ownsRow base e size v' (l + m) (us ++ cs.toList) → Below B w0 w' → (wr.alloc (.cells cs e)).grownBy w' v.ownBlock → (v'.ownBlock = v.ownBlock ∨ v'.ownBlock = some (wr.heap.size + 1)) → wpList P ops Q rest (a.put o.dst v') w') :
    wpList P ops Q (o :: rest) a (wr.alloc (.cells cs e)) := by
  subst hN
  have hb1 : Below B w0 (wr.alloc (.cells cs e)) := hbel.alloc (by omega) _
  have hc : Cells (wr.alloc (.cells cs e)) (wr.alloc (.cells cs e)).heap.size size (some ⟨wr.heap.size, 0, none⟩) m m cs.toList :=
    Cells.of_own (World.ownsRow_lit (base := wr.heap.size) wr cs m (Nat.le_refl _) (by omega) hcs)
  obtain ⟨v', w', hr, h2, h3, h4⟩ := Cells.append (ty := o.type) ht hinfo hzs hsz (hown.alloc (.cells cs e)) hc h1 h63 hbytes (by simp; omega)
  refine wpList_append_run hgd s x t ho hs hx hr (h v' w' h2 (hb1.grown h3 (by simp; omega) fun k hk => ?_) h3 (by simpa using h4))
  have := (hown.alloc (.cells cs e)).lt k hk
  omega

/-- append of one number -/
theorem wpList_append_int {P : Program} {wr w0 : World} {B base bytes l N : Nat} {t e : TypeId} {z v : Value} {k : IntKind} {b : Int} {ys : List Int} {ops : Array Oper} {rest : List Oper} {o : Oper} {a : Act} {Q : Exit → Act → World → Prop}
    (hgd : o.guard = none) (s x : Operand) (ho : o.op = .call { callee := .builtin .append, args := #[s, x], argTypes := #[t, t] }) (hs : a.eval s = v) (hx : a.eval x = .slice (some ⟨N, 0, none⟩) 1 1) (hN : N = wr.heap.size)
    (ht : P.underlying t = some (.slice e)) (hinfo : (P.info? e).map (fun i => (i.zero, i.size, i.bytes)) = some (some z, 1, bytes)) (hzs : z.cells.size = 1)
    (hown : Own wr base e k v l ys) (hbel : Below B w0 wr) (hB : B ≤ base) (hbase : base ≤ wr.heap.size) (hbytes : (l + 1) * bytes ≤ 140737488355328) (h63 : l + 1 ≤ maxLen)
    (h : ∀ v' w', Own w' base e k v' (l + 1) (ys ++ [b]) → Below B w0 w' → (wr.alloc (.cells #[.int k b] e)).grownBy w' v.ownBlock → (v'.ownBlock = v.ownBlock ∨ v'.ownBlock = some (wr.heap.size + 1)) → wpList P ops Q rest (a.put o.dst v') w') :
    wpList P ops Q (o :: rest) a (wr.alloc (.cells #[.int k b] e)) :=
  wpList_append_new hgd s x ho hs hx hN ht hinfo hzs (by omega) hown hbel hB hbase rfl (ints_oneCell k [b]) h63 hbytes fun v' w' h1 h2 h3 h4 => h v' w' (by unfold Own; rw [List.map_append]; exact h1) h2 h3 h4

/-- A slice of structs: the elements rs, each of the cells that f gives. -/
def Recs {α : Type} (w : World) (B size : Nat) (A : Option Addr) (n c : Nat) (f : α → List Value) (rs : List α) : Prop := Cells w B size A n c (rs.flatMap f) ∧ rs.length = n
theorem flat_get {α : Type} {f : α → List Value} {size : Nat} (hf : ∀ r, (f r).length = size) : ∀ {rs : List α} {j k : Nat} {r : α}, rs[j]? = some r → k < size → (rs.flatMap f)[j * size + k]? = (f r)[k]?
  | [], j, k, r, h, _ => by simp at h
  | x :: rs, 0, k, r, h, hk => by
    simp only [List.getElem?_cons_zero, Option.some.injEq] at h
    subst h
    rw [List.flatMap_cons, List.getElem?_append_left (by rw [hf]; omega)]
    simp
  | x :: rs, j + 1, k, r, h, hk => by
    simp only [List.getElem?_cons_succ] at h
    rw [List.flatMap_cons, List.getElem?_append_right (by rw [hf, Nat.add_mul]; omega), hf, ← flat_get hf h hk]
    congr 1
    rw [Nat.add_mul]
    omega
theorem flat_len {α : Type} {f : α → List Value} {size : Nat} (hf : ∀ r, (f r).length = size) (rs : List α) : (rs.flatMap f).length = rs.length * size := by
  induction rs with
  | nil => simp
  | cons x rs ih => rw [List.flatMap_cons, List.length_append, ih, hf, List.length_cons, Nat.add_mul]; omega
section
variable {α : Type} {w w' : World} {B B' size : Nat} {A : Option Addr} {n c : Nat} {f : α → List Value} {rs : List α}
theorem Recs.get (hf : ∀ r, (f r).length = size) (h : Recs w B size A n c f rs) {j : Nat} (hj : j < n) :
    ∃ b o r, A = some ⟨b, o, none⟩ ∧ b < B ∧ rs[j]? = some r ∧ ∀ k, k < size → w.cell? ⟨b, o + (j * size + k), none⟩ = (f r)[k]? := by
  obtain ⟨⟨_, _, _, hd⟩, hl⟩ := h
  obtain ⟨b, o, e, hb, hc⟩ := hd (by omega)
  have hj' : j < rs.length := by omega
  refine ⟨b, o, rs[j], e, hb, List.getElem?_eq_getElem hj', fun k hk => ?_⟩
  rw [hc _ ?_, flat_get hf (List.getElem?_eq_getElem hj') hk]
  have : (j + 1) * size ≤ n * size := Nat.mul_le_mul_right _ hj
  rw [Nat.add_mul] at this
  omega
theorem Recs.below (h : Recs w B size A n c f rs) (hb : Below B w w') : Recs w' B size A n c f rs := ⟨Cells.below h.1 hb, h.2⟩
theorem Recs.more (h : Recs w B size A n c f rs) (hB : B ≤ B') : Recs w B' size A n c f rs := ⟨Cells.more h.1 hB, h.2⟩
end

/-- a slice of bytes as a value, and what it reads as -/
structure Sl where
  A : Option Addr
  n : Nat
  c : Nat
  xs : List Int
def Sl.val (s : Sl) : Value := .slice s.A s.n s.c
/-- a list of slices of bytes -/
def Parts (w : World) (B : Nat) (A : Option Addr) (k kc : Nat) (ps : List Sl) : Prop := Cells w B 1 A k kc (ps.map Sl.val) ∧ ∀ p ∈ ps, Ints w B .u8 p.A p.n p.c p.xs
/-- how many bytes the first j have -/
def tot (ps : List Sl) (j : Nat) : Nat := ((ps.take j).map (·.n)).sum
theorem tot_succ {ps : List Sl} {j : Nat} {p : Sl} (h : ps[j]? = some p) : tot ps (j + 1) = tot ps j + p.n := by
  have hj := (List.getElem?_eq_some_iff.1 h).1
  rw [tot, tot, List.take_add_one, h]
  simp
theorem tot_le {ps : List Sl} : ∀ {j k : Nat}, j ≤ k → tot ps j ≤ tot ps k := by
  intro j k h
  obtain ⟨d, rfl⟩ : ∃ d, k = j + d := ⟨k - j, by omega⟩
  clear h
  induction d with
  | zero => exact Nat.le_refl _
  | succ d ih =>
    cases hp : ps[j + d]? with
    | none =>
      have e : tot ps (j + d + 1) = tot ps (j + d) := by
        have hl : ps.length ≤ j + d := List.getElem?_eq_none_iff.1 hp
        rw [tot, tot, List.take_of_length_le (by omega), List.take_of_length_le (by omega)]
      show tot ps j ≤ tot ps (j + d + 1)
      omega
    | some p =>
      have := tot_succ hp
      show tot ps j ≤ tot ps (j + d + 1)
      omega
/-- the bytes of the first j -/
def cat (ps : List Sl) (j : Nat) : List Int := (ps.take j).flatMap (·.xs)
theorem cat_succ {ps : List Sl} {j : Nat} {p : Sl} (h : ps[j]? = some p) : cat ps (j + 1) = cat ps j ++ p.xs := by
  rw [cat, cat, List.take_add_one, h]
  simp
theorem Parts.below {w w' : World} {B : Nat} {A : Option Addr} {k kc : Nat} {ps : List Sl} (h : Parts w B A k kc ps) (hb : Below B w w') : Parts w' B A k kc ps := ⟨h.1.below hb, fun p hp => (h.2 p hp).below hb⟩
theorem Parts.get {w : World} {B : Nat} {A : Option Addr} {k kc : Nat} {ps : List Sl} (h : Parts w B A k kc ps) {j : Nat} (hj : j < k) :
    ∃ b o p, A = some ⟨b, o, none⟩ ∧ b < B ∧ w.cell? ⟨b, o + j, none⟩ = some (.slice p.A p.n p.c) ∧ ps[j]? = some p ∧ Ints w B .u8 p.A p.n p.c p.xs := by
  obtain ⟨⟨_, _, hl, hd⟩, hi⟩ := h
  obtain ⟨b, o, e, hb, hc⟩ := hd (by omega)
  have hj' : j < ps.length := by simp at hl; omega
  refine ⟨b, o, ps[j], e, hb, ?_, List.getElem?_eq_getElem hj', hi _ (List.getElem_mem hj')⟩
  rw [hc j (by omega), List.getElem?_map, List.getElem?_eq_getElem hj']
  rfl

theorem ret_int {k : IntKind} {a b : Int} (h : a = b) : Ending.returned (.int k a) = .returned (.int k b) := by rw [h]
theorem ret_t2 {u v u' v' : Value} (h1 : u = u') (h2 : v = v') : Ending.returned (.tuple #[u, v]) = .returned (.tuple #[u', v']) := by rw [h1, h2]
theorem int_eq {k : IntKind} {a b : Int} (h : a = b) : Value.int k a = .int k b := by rw [h]
theorem bool_eq {a b : Bool} (h : a = b) : Value.bool a = .bool b := by rw [h]
theorem tmod_parts (a : Int) {b : Int} (hb : 0 < b) : a.tmod b = a % b ∨ (a.tmod b = a % b - b ∧ a < 0 ∧ a % b ≠ 0) := by
  rw [Int.tmod_eq_emod]
  by_cases h : 0 ≤ a ∨ b ∣ a
  · rw [if_pos h]
    exact .inl (by omega)
  · rw [if_neg h]
    have : a % b ≠ 0 := fun e => h (.inr (Int.dvd_of_emod_eq_zero e))
    exact .inr ⟨by omega, by omega, this⟩
/-- what was there reads as before, as rules for the walk -/
theorem bcell {W w1 : World} (hb : Below W.heap.size W w1) : (∀ b o, b < W.heap.size → w1.cell? ⟨b, o, none⟩ = W.cell? ⟨b, o, none⟩) ∧ (∀ b o, b < W.heap.size → w1.frozen? ⟨b, o, none⟩ = W.frozen? ⟨b, o, none⟩) ∧ (∀ b, b < W.heap.size → b < w1.heap.size) :=
  ⟨fun b o h => hb.cell (p := ⟨b, o, none⟩) h, fun b o h => hb.frozen (p := ⟨b, o, none⟩) h, fun _ h => Nat.lt_of_lt_of_le h hb.size⟩
theorem ret_bool {a b : Bool} (h : a = b) : Ending.returned (.bool a) = .returned (.bool b) := by rw [h]
end Go.Proofs.Ytojgohgeagbkbaa
