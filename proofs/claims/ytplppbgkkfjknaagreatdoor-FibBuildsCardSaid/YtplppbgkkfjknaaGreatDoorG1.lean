/- Words for memory that every text of this seat uses: a slice that reads as a list of cells, a slice of one-cell integers that reads as a list of numbers, append onto a row of the call's own, carried over worlds that keep what was there. Regions that draw their order: taking an operation first, the temporary named, the operation not. A block that is known whole (a boxed struct); what keeps it; worlds that keep all blocks but one; appends in drawn regions. -/
import Derived.Test.YtplppbgkkfjknaaGreatDoorProg
import Derived.WalkKit
import Derived.WalkSpells
import Derived.WalkLawsBesides
import Derived.Lib.Hide
import Derived.Deep.QuietTactic
import Derived.BigQuiet
import Derived.IntWalk
import Derived.Maps.AppendAt
import Derived.Deep.AppendLies
import Derived.Deep.RegionHeld3
import Derived.BigRegion
namespace Go.Proofs.YtplppbgkkfjknaaGreatDoor
open Go.RowKit

/-- The slice value with address A, length n and capacity c reads as the cells vs, size cells an element; they lie below block B. -/
def Cells (w : World) (B size : Nat) (A : Option Addr) (n c : Nat) (vs : List Value) : Prop :=
  n ≤ c ∧ c ≤ maxLen ∧ vs.length = n * size ∧
    (0 < n → ∃ b o, A = some ⟨b, o, none⟩ ∧ b < B ∧ ∀ j, j < n * size → w.cell? ⟨b, o + j, none⟩ = vs[j]?)
/-- .. as the numbers xs of kind k. -/
def Ints (w : World) (B : Nat) (k : IntKind) (A : Option Addr) (n c : Nat) (xs : List Int) : Prop := Cells w B 1 A n c (xs.map (Value.int k))

section
variable {w w' : World} {B B' size : Nat} {k : IntKind} {A : Option Addr} {n c : Nat} {xs : List Int} {vs : List Value}
theorem Cells.keep (h : Cells w B size A n c vs) (hk : ∀ p : Addr, p.block < B → w'.cell? p = w.cell? p) : Cells w' B size A n c vs :=
  ⟨h.1, h.2.1, h.2.2.1, fun hn => by
    obtain ⟨b, o, e, hb, hc⟩ := h.2.2.2 hn
    exact ⟨b, o, e, hb, fun j hj => (hk _ hb).trans (hc j hj)⟩⟩
theorem Cells.more (h : Cells w B size A n c vs) (hB : B ≤ B') : Cells w B' size A n c vs :=
  ⟨h.1, h.2.1, h.2.2.1, fun hn => by
    obtain ⟨b, o, e, hb, hc⟩ := h.2.2.2 hn
    exact ⟨b, o, e, by omega, hc⟩⟩
theorem Cells.below (h : Cells w B size A n c vs) (hb : Below B w w') : Cells w' B size A n c vs := h.keep fun _ hp => hb.cell hp
theorem Cells.nil (w : World) (B size : Nat) : Cells w B size none 0 0 [] := ⟨by omega, by simp [maxLen], by simp, fun h => absurd h (by omega)⟩
theorem Cells.of_own {base : Nat} {e : TypeId} {c : Nat} (h : w.ownsRow base e size (.slice A n c) n vs) : Cells w w.heap.size size A n c vs := by
  obtain ⟨h1, h2⟩ := h
  rcases h2 with ⟨h2, rfl⟩ | ⟨g, cap, cur, hv, hb, hh, hn, hc, hs, ht⟩
  · injection h2 with h2 _ h3
    subst h3
    exact ⟨by omega, by simp [maxLen], h1, fun h => absurd h (by omega)⟩
  · injection hv with hv _ hcap
    subst hcap
    subst hv
    refine ⟨hn, hc, h1, fun _ => ⟨g, 0, rfl, ?_, fun j hj => ?_⟩⟩
    · rcases Nat.lt_or_ge g w.heap.size with hl | hl
      · exact hl
      · rw [Array.getElem?_eq_none hl] at hh
        cases hh
    · rw [Nat.zero_add, cell_of_row w g j cur e (0, 0) hh, ← ht, List.getElem?_take, if_pos hj]
      simp
/-- what a cut of a slice reads as -/
theorem Cells.slice {P : Program} {T E : TypeId} (hT : P.underlying T = some (.slice E))
    (hE : (P.info? E).map (fun i => i.size) = some size) (h : Cells w B size A n c vs) {lo hi : Nat} (h1 : lo ≤ hi) (h2 : hi ≤ n) :
    ∃ A' c', (∀ w' : World, (Instr.slice T (.slice A n c) (some (.int .i64 lo)) (some (.int .i64 hi)) none).run P w' = .ok (.slice A' (hi - lo) c') w') ∧ Cells w B size A' (hi - lo) c' ((vs.drop (lo * size)).take ((hi - lo) * size)) := by
  obtain ⟨ha, hb, hc, hd⟩ := h
  obtain ⟨i, hi', hs⟩ : ∃ i, P.info? E = some i ∧ i.size = size := by
    cases h : P.info? E with
    | none => rw [h] at hE; cases hE
    | some i => rw [h] at hE; exact ⟨i, rfl, by simpa using hE⟩
  have hm : lo * size + (hi - lo) * size = hi * size := by rw [← Nat.add_mul]; congr 1; omega
  have hm2 : hi * size ≤ n * size := Nat.mul_le_mul_right _ h2
  refine ⟨if c = lo then A else A.map (·.add (lo * size)), c - lo, fun w' => ?_, by omega, by omega, by simp; omega, fun hn => ?_⟩
  · have e1 : (0 : Int) ≤ (lo : Int) := by omega
    have e2 : (lo : Int) ≤ (hi : Int) := by omega
    have e3 : (hi : Int) ≤ (c : Int) := by omega
    simp [Instr.slice, run_underlying hT, Instr.sliceBounds, run_sliceBound, e1, e2, e3, sizeOf, typeInfo, hi', hs]
  · obtain ⟨b, o, rfl, hbB, hcell⟩ := hd (by omega)
    rw [if_neg (by omega)]
    refine ⟨b, o + lo * size, ?_, hbB, fun j hj => ?_⟩
    · by_cases h0 : lo * size = 0 <;> simp [Addr.add, h0]
    · rw [Nat.add_assoc, hcell (lo * size + j) (by omega)]
      simp [List.getElem?_drop, hj]
/-- the same where the upper end is left out -/
theorem Cells.sliceFrom {P : Program} {T E : TypeId} (hT : P.underlying T = some (.slice E))
    (hE : (P.info? E).map (fun i => i.size) = some size) (h : Cells w B size A n c vs) {lo : Nat} (h1 : lo ≤ n) :
    ∃ A' c', (∀ w' : World, (Instr.slice T (.slice A n c) (some (.int .i64 lo)) none none).run P w' = .ok (.slice A' (n - lo) c') w') ∧ Cells w B size A' (n - lo) c' (vs.drop (lo * size)) := by
  obtain ⟨ha, hb, hc, hd⟩ := h
  obtain ⟨i, hi', hs⟩ : ∃ i, P.info? E = some i ∧ i.size = size := by
    cases h : P.info? E with
    | none => rw [h] at hE; cases hE
    | some i => rw [h] at hE; exact ⟨i, rfl, by simpa using hE⟩
  have hm : lo * size + (n - lo) * size = n * size := by rw [← Nat.add_mul]; congr 1; omega
  refine ⟨if c = lo then A else A.map (·.add (lo * size)), c - lo, fun w' => ?_, by omega, by omega, by simp; omega, fun hn => ?_⟩
  · have e1 : (0 : Int) ≤ (lo : Int) := by omega
    have e2 : (lo : Int) ≤ (n : Int) := by omega
    simp [Instr.slice, run_underlying hT, Instr.sliceBounds, run_sliceBound, e1, e2, sizeOf, typeInfo, hi', hs]
  · obtain ⟨b, o, rfl, hbB, hcell⟩ := hd (by omega)
    rw [if_neg (by omega)]
    refine ⟨b, o + lo * size, ?_, hbB, fun j hj => ?_⟩
    · by_cases h0 : lo * size = 0 <;> simp [Addr.add, h0]
    · rw [Nat.add_assoc, hcell (lo * size + j) (by omega)]
      simp [List.getElem?_drop]
/-- append onto a row of the call's own, from a slice that reads -/
theorem Cells.append {P : Program} {base : Nat} {t ty e : TypeId} {z : Value} {bytes : Nat} (ht : P.underlying t = some (.slice e))
    (hinfo : (P.info? e).map (fun i => (i.zero, i.size, i.bytes)) = some (some z, size, bytes)) (hzs : z.cells.size = size) (hsz : 0 < size)
    {v : Value} {l : Nat} {us : List Value} (hown : w.ownsRow base e size v l us) (h : Cells w B size A n c vs) (h1 : ∀ u ∈ vs, u.oneCell' = true)
    (h63 : l + n ≤ maxLen) (hbytes : (l + n) * bytes ≤ 140737488355328) (hbase : base ≤ w.heap.size) :
    ∃ v' w', (Builtin.append_ #[t, t] ty #[v, .slice A n c]).run P w = .ok v' w' ∧ w'.ownsRow base e size v' (l + n) (us ++ vs) ∧ w.grownBy w' v.ownBlock ∧
      (v'.ownBlock = v.ownBlock ∨ v'.ownBlock = some w.heap.size) := by
  obtain ⟨i, hi, hz, hs1, hs2⟩ := info_parts hinfo
  by_cases hn : n = 0
  · subst hn
    have hv : vs = [] := List.eq_nil_of_length_eq_zero (by simpa using h.2.2.1)
    subst hv
    refine ⟨v, w, ?_, by simpa using hown, World.grownBy.refl w _, .inl rfl⟩
    rcases hown.2 with ⟨rfl, rfl⟩ | ⟨g, cap, cur, rfl, _, _, hnc, _⟩
    · cases A <;> simp [Builtin.append_, run_underlying ht, sizeOf, typeInfo, hi, Builtin.lenOf, Builtin.firstCells, loadCells, loadCellsFrom]
    · cases A <;> simp [Builtin.append_, run_underlying ht, sizeOf, typeInfo, hi, Builtin.lenOf, Builtin.firstCells, hnc, storeCells, loadCells, loadCellsFrom]
  · obtain ⟨b, o, rfl, hb, hc⟩ := h.2.2.2 (by omega)
    have hcells : ∀ j u, vs[j]? = some u → w.cell? ((⟨b, o, none⟩ : Addr).add j) = some u := by
      intro j u hu
      have hj : j < n * size := by
        rw [← h.2.2.1]
        exact (List.getElem?_eq_some_iff.1 hu).1
      rw [← hu, ← hc j hj]
      by_cases h0 : j = 0 <;> simp [Addr.add, h0]
    obtain ⟨v', w', hr, h2, h3, _, h5⟩ := run_append_own_at (P := P) w base t ty e i z size bytes ht hi hz hs1 hs2 hzs hsz v l us hown ⟨b, o, none⟩ n c vs h.2.2.1 hcells h1 h63 hbytes hbase
    exact ⟨v', w', hr, h2, h3, h5⟩

/-- append within the capacity -/
theorem Cells.appendFits {P : Program} {base : Nat} {t ty e : TypeId} {z : Value} {bytes : Nat} (ht : P.underlying t = some (.slice e))
    (hinfo : (P.info? e).map (fun i => (i.zero, i.size, i.bytes)) = some (some z, size, bytes))
    {g l cap : Nat} {us : List Value} (hown : w.ownsRow base e size (.slice (some ⟨g, 0, none⟩) l cap) l us) (h : Cells w B size A n c vs) (h1 : ∀ u ∈ vs, u.oneCell' = true) (hfit : l + n ≤ cap) :
    ∃ w', (Builtin.append_ #[t, t] ty #[.slice (some ⟨g, 0, none⟩) l cap, .slice A n c]).run P w = .ok (.slice (some ⟨g, 0, none⟩) (l + n) cap) w' ∧
      w'.ownsRow base e size (.slice (some ⟨g, 0, none⟩) (l + n) cap) (l + n) (us ++ vs) ∧ w.grownBy w' (some g) := by
  obtain ⟨i, hi, hz, hs1, hs2⟩ := info_parts hinfo
  by_cases hn : n = 0
  · subst hn
    have hv : vs = [] := List.eq_nil_of_length_eq_zero (by simpa using h.2.2.1)
    subst hv
    have hfit' : l ≤ cap := by omega
    refine ⟨w, ?_, by simpa using hown, World.grownBy.refl w _⟩
    cases A <;> simp [Builtin.append_, run_underlying ht, sizeOf, typeInfo, hi, Builtin.lenOf, Builtin.firstCells, hfit', storeCells, loadCells, loadCellsFrom]
  · obtain ⟨b, o, rfl, hb, hc⟩ := h.2.2.2 (by omega)
    have hcells : ∀ j u, vs[j]? = some u → w.cell? ((⟨b, o, none⟩ : Addr).add j) = some u := by
      intro j u hu
      have hj : j < n * size := by
        rw [← h.2.2.1]
        exact (List.getElem?_eq_some_iff.1 hu).1
      rw [← hu, ← hc j hj]
      by_cases h0 : j = 0 <;> simp [Addr.add, h0]
    exact run_append_fits (P := P) w base t ty e i size ht hi hs1 g l cap us hown ⟨b, o, none⟩ n c vs h.2.2.1 hcells h1 hfit

theorem Ints.len (h : Ints w B k A n c xs) : xs.length = n := by simpa using h.2.2.1
theorem Ints.cell (h : Ints w B k A n c xs) {j : Nat} (hj : j < n) :
    ∃ b o x, A = some ⟨b, o, none⟩ ∧ b < B ∧ w.cell? ⟨b, o + j, none⟩ = some (.int k x) ∧ Hid (xs.getD j 0 = x) := by
  obtain ⟨b, o, e, hb, hc⟩ := h.2.2.2 (by omega)
  have hl := h.len
  refine ⟨b, o, _, e, hb, ?_, rfl⟩
  rw [hc j (by omega), List.getElem?_map, List.getElem?_eq_getElem (by omega), List.getD_eq_getElem?_getD, List.getElem?_eq_getElem (by omega)]
  rfl
theorem Ints.keep (h : Ints w B k A n c xs) (hk : ∀ p : Addr, p.block < B → w'.cell? p = w.cell? p) : Ints w' B k A n c xs := Cells.keep h hk
theorem Ints.more (h : Ints w B k A n c xs) (hB : B ≤ B') : Ints w B' k A n c xs := Cells.more h hB
theorem Ints.below (h : Ints w B k A n c xs) (hb : Below B w w') : Ints w' B k A n c xs := Cells.below h hb
theorem Ints.nil (w : World) (B : Nat) (k : IntKind) : Ints w B k none 0 0 [] := Cells.nil w B 1
theorem Ints.slice {P : Program} {T E : TypeId} (hT : P.underlying T = some (.slice E)) (hE : (P.info? E).map (fun i => i.size) = some 1)
    (h : Ints w B k A n c xs) {lo hi : Nat} (h1 : lo ≤ hi) (h2 : hi ≤ n) :
    ∃ A' c', (∀ w' : World, (Instr.slice T (.slice A n c) (some (.int .i64 lo)) (some (.int .i64 hi)) none).run P w' = .ok (.slice A' (hi - lo) c') w') ∧ Ints w B k A' (hi - lo) c' ((xs.drop lo).take (hi - lo)) := by
  obtain ⟨A', c', hs, hy⟩ := Cells.slice hT hE h h1 h2
  exact ⟨A', c', hs, by unfold Ints; rw [List.map_take, List.map_drop]; simpa using hy⟩
theorem Ints.sliceFrom {P : Program} {T E : TypeId} (hT : P.underlying T = some (.slice E)) (hE : (P.info? E).map (fun i => i.size) = some 1)
    (h : Ints w B k A n c xs) {lo : Nat} (h1 : lo ≤ n) :
    ∃ A' c', (∀ w' : World, (Instr.slice T (.slice A n c) (some (.int .i64 lo)) none none).run P w' = .ok (.slice A' (n - lo) c') w') ∧ Ints w B k A' (n - lo) c' (xs.drop lo) := by
  obtain ⟨A', c', hs, hy⟩ := Cells.sliceFrom hT hE h h1
  exact ⟨A', c', hs, by unfold Ints; rw [List.map_drop]; simpa using hy⟩

/-- A slice value of the call's own that holds the numbers xs. -/
def Own (w : World) (base : Nat) (e : TypeId) (k : IntKind) (v : Value) (n : Nat) (xs : List Int) : Prop := w.ownsRow base e 1 v n (xs.map (Value.int k))
theorem Own.nil (w : World) (base : Nat) (e : TypeId) (k : IntKind) : Own w base e k (.slice none 0 0) 0 [] := World.ownsRow_nil w base e 1
theorem Own.alloc {base : Nat} {e : TypeId} {v : Value} (h : Own w base e k v n xs) (o : Obj) : Own (w.alloc o) base e k v n xs := World.ownsRow.alloc h o
theorem Own.ints {base : Nat} {e : TypeId} (h : Own w base e k (.slice A n c) n xs) : Ints w w.heap.size k A n c xs := Cells.of_own h
theorem Own.len {base : Nat} {e : TypeId} {v : Value} (h : Own w base e k v n xs) : xs.length = n := by simpa using h.1
theorem Ints.append {P : Program} {base : Nat} {t ty e : TypeId} {z : Value} {bytes : Nat} (ht : P.underlying t = some (.slice e))
    (hinfo : (P.info? e).map (fun i => (i.zero, i.size, i.bytes)) = some (some z, 1, bytes)) (hzs : z.cells.size = 1)
    {v : Value} {l : Nat} {ys : List Int} (hown : Own w base e k v l ys) (h : Ints w B k A n c xs)
    (h63 : l + n ≤ maxLen) (hbytes : (l + n) * bytes ≤ 140737488355328) (hbase : base ≤ w.heap.size) :
    ∃ v' w', (Builtin.append_ #[t, t] ty #[v, .slice A n c]).run P w = .ok v' w' ∧ Own w' base e k v' (l + n) (ys ++ xs) ∧ w.grownBy w' v.ownBlock ∧
      (v'.ownBlock = v.ownBlock ∨ v'.ownBlock = some w.heap.size) := by
  obtain ⟨v', w', hr, h2, h3⟩ := Cells.append (ty := ty) ht hinfo hzs (by omega) hown h (ints_oneCell k xs) h63 hbytes hbase
  exact ⟨v', w', hr, by unfold Own; rw [List.map_append]; exact h2, h3⟩
/-- what an owned row's value looks like -/
theorem own_form {base : Nat} {e : TypeId} {v : Value} (h : w.ownsRow base e size v n vs) : ∃ A c, v = .slice A n c := by
  rcases h.2 with ⟨rfl, rfl⟩ | ⟨g, cap, cur, rfl, _⟩
  · exact ⟨_, _, rfl⟩
  · exact ⟨_, _, rfl⟩
end

section
variable {w : World} {base g n cap : Nat} {e : TypeId} {k : IntKind} {xs : List Int}
theorem Own.form {v : Value} (h : Own w base e k v n xs) (hn : 0 < n) : ∃ g cap, v = .slice (some ⟨g, 0, none⟩) n cap ∧ base ≤ g ∧ g < w.heap.size := by
  obtain ⟨g, cap, rfl, hb⟩ := World.ownsRow.form h hn
  have := h.lt g rfl
  exact ⟨g, cap, rfl, this.1, this.2⟩
theorem Own.cell (h : Own w base e k (.slice (some ⟨g, 0, none⟩) n cap) n xs) {j : Nat} (hj : j < n) : w.cell? ⟨g, j, none⟩ = some (.int k (xs.getD j 0)) := by
  have hl := h.len
  rw [World.ownsRow.cellAt h j (by omega), List.getElem?_map, List.getElem?_eq_getElem (by omega), List.getD_eq_getElem?_getD, List.getElem?_eq_getElem (by omega)]
  rfl
theorem Own.frozen (h : Own w base e k (.slice (some ⟨g, 0, none⟩) n cap) n xs) (j : Nat) : w.frozen? ⟨g, j, none⟩ = false := World.ownsRow.frozenAt h j
theorem Own.set (h : Own w base e k (.slice (some ⟨g, 0, none⟩) n cap) n xs) (j : Nat) (x : Int) : Own (w.setCell ⟨g, j, none⟩ (.int k x)) base e k (.slice (some ⟨g, 0, none⟩) n cap) n (xs.set j x) := by
  unfold Own
  rw [List.map_set]
  exact (World.ownsRow.stored h j _).1
end
theorem below_drewN {B : Nat} {a w : World} (h : Below B a w) (n : Nat) : Below B a (w.drewN n) := ⟨h.os, h.tape, h.output, h.size, h.block⟩
theorem own_mono {w : World} {base base' size n : Nat} {e : TypeId} {v : Value} {vs : List Value} (h : w.ownsRow base e size v n vs) (hb : base' ≤ base) : w.ownsRow base' e size v n vs := by
  refine ⟨h.1, ?_⟩
  rcases h.2 with h2 | ⟨g, cap, cur, hv, hg, r⟩
  · exact .inl h2
  · exact .inr ⟨g, cap, cur, hv, Nat.le_trans hb hg, r⟩
/-- a literal slice -/
theorem ints_lit (w : World) (e : TypeId) (k : IntKind) (n : Nat) (xs : List Int) (hn : xs.length = n) (hm : n ≤ maxLen) (B : Nat) (hB : w.heap.size < B) :
    Ints (w.alloc (.cells (xs.map (Value.int k)).toArray e)) B k (some ⟨w.heap.size, 0, none⟩) n n xs := by
  have h : (w.alloc (.cells (xs.map (Value.int k)).toArray e)).ownsRow w.heap.size e 1 (.slice (some ⟨w.heap.size, 0, none⟩) n n) n (xs.map (Value.int k)) :=
    World.ownsRow_lit (base := w.heap.size) w (xs.map (Value.int k)).toArray n (Nat.le_refl _) hm (by simpa using hn)
  exact (Cells.of_own h).more (by simp; omega)
/-- The call returns a slice of its own that holds the numbers xs, and nothing that was there has turned. -/
def GivesInts (el : TypeId) (k : IntKind) (n : Nat) (xs : List Int) (w : World) (e : Ending) (w' : World) : Prop :=
  ∃ A c, e = .returned (.slice A n c) ∧ Own w' w.heap.size el k (.slice A n c) n xs ∧ Below w.heap.size w w'

/-- at an append whose run is known -/
theorem wpList_append_run {P : Program} {w : World} {ops : Array Oper} {rest : List Oper} {o : Oper} {a : Act} {Q : Exit → Act → World → Prop} (hgd : o.guard = none) (s x : Operand) (t : TypeId)
    (ho : o.op = .call { callee := .builtin .append, args := #[s, x], argTypes := #[t, t] }) {v xv v' : Value} {w' : World} (hs : a.eval s = v) (hx : a.eval x = xv)
    (hr : (Builtin.append_ #[t, t] o.type #[v, xv]).run P w = .ok v' w') (h : wpList P ops Q rest (a.put o.dst v') w') : wpList P ops Q (o :: rest) a w := by
  refine wpList_plain hgd fun K hK => ?_
  unfold Oper.wp execOp
  simp only [ho, resolve, invoke, builtin, Sem.run_bind, Sem.run_pure, Result.andThen_ok, List.map_toArray, List.map_cons, List.map_nil, hs, hx, hr]
  exact hK _ _ h

/-- append of cells that lie in a block just made: the run goes on with a row of the call's own -/
theorem wpList_append_new {P : Program} {wr w0 : World} {B base size bytes l m N : Nat} {t e : TypeId} {z v : Value} {us : List Value} {cs : Array Value} {ops : Array Oper} {rest : List Oper} {o : Oper} {a : Act} {Q : Exit → Act → World → Prop}
    (hgd : o.guard = none) (s x : Operand) (ho : o.op = .call { callee := .builtin .append, args := #[s, x], argTypes := #[t, t] }) (hs : a.eval s = v) (hx : a.eval x = .slice (some ⟨N, 0, none⟩) m m) (hN : N = wr.heap.size)
    (ht : P.underlying t = some (.slice e)) (hinfo : (P.info? e).map (fun i => (i.zero, i.size, i.bytes)) = some (some z, size, bytes)) (hzs : z.cells.size = size) (hsz : 0 < size)
    (hown : wr.ownsRow base e size v l us) (hbel : Below B w0 wr) (hB : B ≤ base) (hbase : base ≤ wr.heap.size) (hcs : cs.size = m * size) (h1 : ∀ u ∈ cs.toList, u.oneCell' = true)
    (h63 : l + m ≤ maxLen) (hbytes : (l + m) * bytes ≤ 140737488355328)
    (h : ∀ v' w', w'.ownsRow base e size v' (l + m) (us ++ cs.toList) → Below B w0 w' → (wr.alloc (.cells cs e)).grownBy w' v.ownBlock → (v'.ownBlock = v.ownBlock ∨ v'.ownBlock = some (wr.heap.size + 1)) → wpList P ops Q rest (a.put o.dst v') w') :
    wpList P ops Q (o :: rest) a (wr.alloc (.cells cs e)) := by
  subst hN
  have hb1 : Below B w0 (wr.alloc (.cells cs e)) := hbel.alloc (by omega) _
  have hc : Cells (wr.alloc (.cells cs e)) (wr.alloc (.cells cs e)).heap.size size (some ⟨wr.heap.size, 0, none⟩) m m cs.toList :=
    Cells.of_own (World.ownsRow_lit (base := wr.heap.size) wr cs m (Nat.le_refl _) (by omega) hcs)
  obtain ⟨v', w', hr, h2, h3, h4⟩ := Cells.append (ty := o.type) ht hinfo hzs hsz (hown.alloc (.cells cs e)) hc h1 h63 hbytes (by simp; omega)
  refine wpList_append_run hgd s x t ho hs hx hr (h v' w' h2 (hb1.grown h3 (by simp; omega) fun k hk => ?_) h3 (by simpa using h4))
  have := (hown.alloc (.cells cs e)).lt k hk
  omega

/-- append of one number -/
theorem wpList_append_int {P : Program} {wr w0 : World} {B base bytes l N : Nat} {t e : TypeId} {z v : Value} {k : IntKind} {b : Int} {ys : List Int} {ops : Array Oper} {rest : List Oper} {o : Oper} {a : Act} {Q : Exit → Act → World → Prop}
    (hgd : o.guard = none) (s x : Operand) (ho : o.op = .call { callee := .builtin .append, args := #[s, x], argTypes := #[t, t] }) (hs : a.eval s = v) (hx : a.eval x = .slice (some ⟨N, 0, none⟩) 1 1) (hN : N = wr.heap.size)
    (ht : P.underlying t = some (.slice e)) (hinfo : (P.info? e).map (fun i => (i.zero, i.size, i.bytes)) = some (some z, 1, bytes)) (hzs : z.cells.size = 1)
    (hown : Own wr base e k v l ys) (hbel : Below B w0 wr) (hB : B ≤ base) (hbase : base ≤ wr.heap.size) (hbytes : (l + 1) * bytes ≤ 140737488355328) (h63 : l + 1 ≤ maxLen)
    (h : ∀ v' w', Own w' base e k v' (l + 1) (ys ++ [b]) → Below B w0 w' → (wr.alloc (.cells #[.int k b] e)).grownBy w' v.ownBlock → (v'.ownBlock = v.ownBlock ∨ v'.ownBlock = some (wr.heap.size + 1)) → wpList P ops Q rest (a.put o.dst v') w') :
    wpList P ops Q (o :: rest) a (wr.alloc (.cells #[.int k b] e)) :=
  wpList_append_new hgd s x ho hs hx hN ht hinfo hzs (by omega) hown hbel hB hbase rfl (ints_oneCell k [b]) h63 hbytes fun v' w' h1 h2 h3 h4 => h v' w' (by unfold Own; rw [List.map_append]; exact h1) h2 h3 h4

/-- A slice of structs: the elements rs, each of the cells that f gives. -/
def Recs {α : Type} (w : World) (B size : Nat) (A : Option Addr) (n c : Nat) (f : α → List Value) (rs : List α) : Prop := Cells w B size A n c (rs.flatMap f) ∧ rs.length = n
theorem flat_get {α : Type} {f : α → List Value} {size : Nat} (hf : ∀ r, (f r).length = size) : ∀ {rs : List α} {j k : Nat} {r : α}, rs[j]? = some r → k < size → (rs.flatMap f)[j * size + k]? = (f r)[k]?
  | [], j, k, r, h, _ => by simp at h
  | x :: rs, 0, k, r, h, hk => by
    simp only [List.getElem?_cons_zero, Option.some.injEq] at h
    subst h
    rw [List.flatMap_cons, List.getElem?_append_left (by rw [hf]; omega)]
    simp
  | x :: rs, j + 1, k, r, h, hk => by
    simp only [List.getElem?_cons_succ] at h
    rw [List.flatMap_cons, List.getElem?_append_right (by rw [hf, Nat.add_mul]; omega), hf, ← flat_get hf h hk]
    congr 1
    rw [Nat.add_mul]
    omega
theorem flat_len {α : Type} {f : α → List Value} {size : Nat} (hf : ∀ r, (f r).length = size) (rs : List α) : (rs.flatMap f).length = rs.length * size := by
  induction rs with
  | nil => simp
  | cons x rs ih => rw [List.flatMap_cons, List.length_append, ih, hf, List.length_cons, Nat.add_mul]; omega
section
variable {α : Type} {w w' : World} {B B' size : Nat} {A : Option Addr} {n c : Nat} {f : α → List Value} {rs : List α}
theorem Recs.get (hf : ∀ r, (f r).length = size) (h : Recs w B size A n c f rs) {j : Nat} (hj : j < n) :
    ∃ b o r, A = some ⟨b, o, none⟩ ∧ b < B ∧ rs[j]? = some r ∧ ∀ k, k < size → w.cell? ⟨b, o + (j * size + k), none⟩ = (f r)[k]? := by
  obtain ⟨⟨_, _, _, hd⟩, hl⟩ := h
  obtain ⟨b, o, e, hb, hc⟩ := hd (by omega)
  have hj' : j < rs.length := by omega
  refine ⟨b, o, rs[j], e, hb, List.getElem?_eq_getElem hj', fun k hk => ?_⟩
  rw [hc _ ?_, flat_get hf (List.getElem?_eq_getElem hj') hk]
  have : (j + 1) * size ≤ n * size := Nat.mul_le_mul_right _ hj
  rw [Nat.add_mul] at this
  omega
theorem Recs.below (h : Recs w B size A n c f rs) (hb : Below B w w') : Recs w' B size A n c f rs := ⟨Cells.below h.1 hb, h.2⟩
theorem Recs.more (h : Recs w B size A n c f rs) (hB : B ≤ B') : Recs w B' size A n c f rs := ⟨Cells.more h.1 hB, h.2⟩
end

/-- a slice of bytes as a value, and what it reads as -/
structure Sl where
  A : Option Addr
  n : Nat
  c : Nat
  xs : List Int
def Sl.val (s : Sl) : Value := .slice s.A s.n s.c
/-- a list of slices of bytes -/
def Parts (w : World) (B : Nat) (A : Option Addr) (k kc : Nat) (ps : List Sl) : Prop := Cells w B 1 A k kc (ps.map Sl.val) ∧ ∀ p ∈ ps, Ints w B .u8 p.A p.n p.c p.xs
/-- how many bytes the first j have -/
def tot (ps : List Sl) (j : Nat) : Nat := ((ps.take j).map (·.n)).sum
theorem tot_succ {ps : List Sl} {j : Nat} {p : Sl} (h : ps[j]? = some p) : tot ps (j + 1) = tot ps j + p.n := by
  have hj := (List.getElem?_eq_some_iff.1 h).1
  rw [tot, tot, List.take_add_one, h]
  simp
theorem tot_le {ps : List Sl} : ∀ {j k : Nat}, j ≤ k → tot ps j ≤ tot ps k := by
  intro j k h
  obtain ⟨d, rfl⟩ : ∃ d, k = j + d := ⟨k - j, by omega⟩
  clear h
  induction d with
  | zero => exact Nat.le_refl _
  | succ d ih =>
    cases hp : ps[j + d]? with
    | none =>
      have e : tot ps (j + d + 1) = tot ps (j + d) := by
        have hl : ps.length ≤ j + d := List.getElem?_eq_none_iff.1 hp
        rw [tot, tot, List.take_of_length_le (by omega), List.take_of_length_le (by omega)]
      show tot ps j ≤ tot ps (j + d + 1)
      omega
    | some p =>
      have := tot_succ hp
      show tot ps j ≤ tot ps (j + d + 1)
      omega
/-- the bytes of the first j -/
def cat (ps : List Sl) (j : Nat) : List Int := (ps.take j).flatMap (·.xs)
theorem cat_succ {ps : List Sl} {j : Nat} {p : Sl} (h : ps[j]? = some p) : cat ps (j + 1) = cat ps j ++ p.xs := by
  rw [cat, cat, List.take_add_one, h]
  simp
theorem Parts.below {w w' : World} {B : Nat} {A : Option Addr} {k kc : Nat} {ps : List Sl} (h : Parts w B A k kc ps) (hb : Below B w w') : Parts w' B A k kc ps := ⟨h.1.below hb, fun p hp => (h.2 p hp).below hb⟩
theorem Parts.get {w : World} {B : Nat} {A : Option Addr} {k kc : Nat} {ps : List Sl} (h : Parts w B A k kc ps) {j : Nat} (hj : j < k) :
    ∃ b o p, A = some ⟨b, o, none⟩ ∧ b < B ∧ w.cell? ⟨b, o + j, none⟩ = some (.slice p.A p.n p.c) ∧ ps[j]? = some p ∧ Ints w B .u8 p.A p.n p.c p.xs := by
  obtain ⟨⟨_, _, hl, hd⟩, hi⟩ := h
  obtain ⟨b, o, e, hb, hc⟩ := hd (by omega)
  have hj' : j < ps.length := by simp at hl; omega
  refine ⟨b, o, ps[j], e, hb, ?_, List.getElem?_eq_getElem hj', hi _ (List.getElem_mem hj')⟩
  rw [hc j (by omega), List.getElem?_map, List.getElem?_eq_getElem hj']
  rfl

theorem ret_int {k : IntKind} {a b : Int} (h : a = b) : Ending.returned (.int k a) = .returned (.int k b) := by rw [h]
theorem ret_t2 {u v u' v' : Value} (h1 : u = u') (h2 : v = v') : Ending.returned (.tuple #[u, v]) = .returned (.tuple #[u', v']) := by rw [h1, h2]
theorem int_eq {k : IntKind} {a b : Int} (h : a = b) : Value.int k a = .int k b := by rw [h]
theorem bool_eq {a b : Bool} (h : a = b) : Value.bool a = .bool b := by rw [h]
theorem tmod_parts (a : Int) {b : Int} (hb : 0 < b) : a.tmod b = a % b ∨ (a.tmod b = a % b - b ∧ a < 0 ∧ a % b ≠ 0) := by
  rw [Int.tmod_eq_emod]
  by_cases h : 0 ≤ a ∨ b ∣ a
  · rw [if_pos h]
    exact .inl (by omega)
  · rw [if_neg h]
    have : a % b ≠ 0 := fun e => h (.inr (Int.dvd_of_emod_eq_zero e))
    exact .inr ⟨by omega, by omega, this⟩
/-- what was there reads as before, as rules for the walk -/
theorem bcell {W w1 : World} (hb : Below W.heap.size W w1) : (∀ b o, b < W.heap.size → w1.cell? ⟨b, o, none⟩ = W.cell? ⟨b, o, none⟩) ∧ (∀ b o, b < W.heap.size → w1.frozen? ⟨b, o, none⟩ = W.frozen? ⟨b, o, none⟩) ∧ (∀ b, b < W.heap.size → b < w1.heap.size) :=
  ⟨fun b o h => hb.cell (p := ⟨b, o, none⟩) h, fun b o h => hb.frozen (p := ⟨b, o, none⟩) h, fun _ h => Nat.lt_of_lt_of_le h hb.size⟩
theorem ret_bool {a b : Bool} (h : a = b) : Ending.returned (.bool a) = .returned (.bool b) := by rw [h]
end Go.Proofs.YtplppbgkkfjknaaGreatDoor
namespace Go.Proofs.YtplppbgkkfjknaaGreatDoor
variable {P : Program} {md : Region.Mode} {ops : Array Oper} {Q : Exit → Act → World → Prop} {S : World → Prop}
/-- an operation that is not wanted -/
theorem take_un {i : Nat} {fuel : Nat} {listed : Array Bool} {a : Act} {w : World} (d : Option Tmp) (hd : (ops[i]?).map (·.dst) = some d)
    (hs : Region.noSelect ops = true) (hf : Region.free md ops listed i = true) (hr : (Region.ready md ops listed).contains i = true)
    (hQ : ∀ c a w, Q (.panic c) (a.put d undef) w → Q (.panic c) a w) (hw : (ops[i]?).map (fun o => Region.wanted o (yielded ops a.tmps)) = some false) (hS : S w)
    (h : wpAnyH P md ops Q S fuel (listed.setIfInBounds i true) (a.put d undef) w) : wpAnyH P md ops Q S (fuel + 1) listed a w := by
  obtain ⟨o, ho⟩ : ∃ o, ops[i]? = some o := by
    cases hc : ops[i]? with
    | none => rw [hc] at hd; exact absurd hd (by simp)
    | some o => exact ⟨o, rfl⟩
  rw [ho] at hd hw
  obtain rfl : o.dst = d := Option.some.inj hd
  exact wpAnyH_take ho hs hf hr hQ (Or.inr ⟨Option.some.inj hw, rfl⟩) hS h
/-- an operation that is wanted -/
theorem take_in {i : Nat} {fuel : Nat} {listed : Array Bool} {a : Act} {w : World} (v : Value) (d : Option Tmp) (hd : (ops[i]?).map (·.dst) = some d)
    (hs : Region.noSelect ops = true) (hf : Region.free md ops listed i = true) (hr : (Region.ready md ops listed).contains i = true)
    (hQ : ∀ c a w, Q (.panic c) (a.put d v) w → Q (.panic c) a w) (hw : (ops[i]?).map (fun o => Region.wanted o (yielded ops a.tmps)) = some true)
    (hv : ∀ o, ops[i]? = some o → ∀ w, S w → (execOp a.eval o).run P w = .ok (.value v) w) (hS : S w)
    (h : wpAnyH P md ops Q S fuel (listed.setIfInBounds i true) (a.put d v) w) : wpAnyH P md ops Q S (fuel + 1) listed a w := by
  obtain ⟨o, ho⟩ : ∃ o, ops[i]? = some o := by
    cases hc : ops[i]? with
    | none => rw [hc] at hd; exact absurd hd (by simp)
    | some o => exact ⟨o, rfl⟩
  rw [ho] at hd hw
  obtain rfl : o.dst = d := Option.some.inj hd
  exact wpAnyH_take ho hs hf hr hQ (Or.inl ⟨Option.some.inj hw, hv o ho⟩) hS h
end Go.Proofs.YtplppbgkkfjknaaGreatDoor
namespace Go.Proofs.YtplppbgkkfjknaaGreatDoor
open Go.RowKit

theorem belowA (w : World) (o : Obj) : Below w.heap.size w (w.alloc o) := (Below.refl _ _).alloc (Nat.le_refl _) _
theorem below3 {w W W' : World} (h : Below w.heap.size w W) (hb : Below W.heap.size W W') : Below w.heap.size w W' := h.trans (hb.mono h.size)
theorem un_drew {B : Nat} {w w' : World} (h : Below B w.drew w') : Below B w w' := ⟨h.os, h.tape, h.output, h.size, h.block⟩
theorem rows_apart {w : World} {b1 b2 s1 s2 n1 n2 : Nat} {e1 e2 : TypeId} {v1 v2 : Value} {x1 x2 : List Value} (h1 : w.ownsRow b1 e1 s1 v1 n1 x1) (h2 : w.ownsRow b2 e2 s2 v2 n2 x2) (he : e1 ≠ e2) : v1.ownBlock = none ∨ v1.ownBlock ≠ v2.ownBlock := by
  rcases h1.2 with ⟨rfl, _⟩ | ⟨g, cap, cur, rfl, _, hg, _⟩
  · left; rfl
  · right
    rcases h2.2 with ⟨rfl, _⟩ | ⟨g', cap', cur', rfl, _, hg', _⟩
    · simp [Value.ownBlock]
    · intro h
      simp only [Value.ownBlock, Option.some.injEq] at h
      subst h
      rw [hg] at hg'
      simp only [Option.some.injEq, Obj.cells.injEq] at hg'
      exact he hg'.2.1
theorem row_below {w w' : World} {base size n : Nat} {e : TypeId} {v : Value} {xs : List Value} (h : w.ownsRow base e size v n xs) (hb : Below w.heap.size w w') : w'.ownsRow base e size v n xs := by
  refine ⟨h.1, ?_⟩
  rcases h.2 with h2 | ⟨g, cap, cur, hv, hg, hh, r⟩
  · exact .inl h2
  · refine .inr ⟨g, cap, cur, hv, hg, ?_, r⟩
    rw [hb.block g]
    · exact hh
    · rcases Nat.lt_or_ge g w.heap.size with hl | hl
      · exact hl
      · rw [Array.getElem?_eq_none hl] at hh
        cases hh
theorem ints_grown {w w' : World} {B n c : Nat} {k : IntKind} {A : Option Addr} {xs : List Int} {row : Option Nat} (h : Ints w B k A n c xs) (hB : B ≤ w.heap.size) (hg : w.grownBy w' row) (hne : 0 < n → ∀ ad, A = some ad → row ≠ some ad.block) : Ints w' B k A n c xs :=
  ⟨h.1, h.2.1, h.2.2.1, fun hn => by
    obtain ⟨b, o, e, hb, hc⟩ := h.2.2.2 hn
    refine ⟨b, o, e, hb, fun j hj => ?_⟩
    rw [← hc j hj]
    exact hg.cell_far ⟨b, o + j, none⟩ (Nat.lt_of_lt_of_le hb hB) (fun h2 => hne (by omega) _ e h2.symm)⟩
theorem heap_lt {w : World} {k : Nat} {o : Obj} (h : w.heap[k]? = some o) : k < w.heap.size := (Array.getElem?_eq_some_iff.1 h).1
/-- block b holds the cells cs -/
def Blk (w : World) (b : Nat) (T : TypeId) (cs : List Value) : Prop := w.heap[b]? = some (.cells cs.toArray T (0, 0))
section
variable {w w' : World} {b : Nat} {T : TypeId} {cs : List Value}
theorem Blk.new (w : World) (T : TypeId) (cs : Array Value) : Blk (w.alloc (.cells cs T)) w.heap.size T cs.toList := by
  unfold Blk
  rw [Array.toArray_toList]
  show (w.heap.push _)[w.heap.size]? = _
  simp
theorem Blk.lt (h : Blk w b T cs) : b < w.heap.size := heap_lt h
theorem Blk.cell (h : Blk w b T cs) (i : Nat) : w.cell? ⟨b, i, none⟩ = cs[i]? := by
  rw [cell_of_row w b i _ _ _ h]
  simp
theorem Blk.frozen (h : Blk w b T cs) (i : Nat) : w.frozen? ⟨b, i, none⟩ = false := frozen_of_row w b i _ _ h
theorem Blk.keep (h : Blk w b T cs) (hb : Below w.heap.size w w') : Blk w' b T cs := by
  unfold Blk at h ⊢
  rw [hb.block b (heap_lt h)]
  exact h
theorem Blk.below {B : Nat} (h : Blk w b T cs) (hb : Below B w w') (hB : b < B) : Blk w' b T cs := by
  unfold Blk at h ⊢
  rw [hb.block b hB]
  exact h
theorem Blk.set (h : Blk w b T cs) (i : Nat) (v : Value) : Blk (w.setCell ⟨b, i, none⟩ v) b T (cs.set i v) := by
  unfold Blk at h ⊢
  rw [heap_setCell_same w b i _ _ _ h]
  simp
theorem Blk.other {g i : Nat} {v : Value} (h : Blk w b T cs) (hne : b ≠ g) : Blk (w.setCell ⟨g, i, none⟩ v) b T cs := by
  unfold Blk at h ⊢
  rw [heap_setCell_other w _ b v hne]
  exact h
end
/-- all but one block is kept -/
structure Save (g : Nat) (w w' : World) : Prop where
  os : w'.os = w.os
  tape : w'.tape = w.tape
  output : w'.output = w.output
  size : w.heap.size ≤ w'.heap.size
  block : ∀ k, k < w.heap.size → k ≠ g → w'.heap[k]? = w.heap[k]?
theorem Save.refl (g : Nat) (w : World) : Save g w w := ⟨rfl, rfl, rfl, Nat.le_refl _, fun _ _ _ => rfl⟩
theorem Save.trans {g : Nat} {a b c : World} (h : Save g a b) (k : Save g b c) : Save g a c :=
  ⟨k.os.trans h.os, k.tape.trans h.tape, k.output.trans h.output, Nat.le_trans h.size k.size, fun i hi hn => (k.block i (Nat.lt_of_lt_of_le hi h.size) hn).trans (h.block i hi hn)⟩
theorem Save.of {g : Nat} {w w' : World} (h : Below w.heap.size w w') : Save g w w' := ⟨h.os, h.tape, h.output, h.size, fun k hk _ => h.block k hk⟩
theorem Save.below {g B : Nat} {w w' : World} (h : Save g w w') (hg : B ≤ g) (hB : B ≤ w.heap.size) : Below B w w' := ⟨h.os, h.tape, h.output, h.size, fun k hk => h.block k (by omega) (by omega)⟩
theorem Save.set {g i : Nat} {w : World} {v : Value} : Save g w (w.setCell ⟨g, i, none⟩ v) :=
  ⟨by unfold World.setCell; split <;> rfl, by unfold World.setCell; split <;> rfl, by unfold World.setCell; split <;> rfl, by rw [World.size_setCell]; exact Nat.le_refl _, fun k hk hn => heap_setCell_other w _ k v hn⟩
theorem Save.drew {g : Nat} {w : World} : Save g w w.drew := Save.of (Below.refl _ _).drew
theorem Blk.save {w w' : World} {b g : Nat} {T : TypeId} {cs : List Value} (h : Blk w b T cs) (hs : Save g w w') (hne : b ≠ g) : Blk w' b T cs := by
  unfold Blk at h ⊢
  rw [hs.block b (heap_lt h) hne]
  exact h
theorem row_save {w w' : World} {g base size n : Nat} {e : TypeId} {v : Value} {xs : List Value} (h : w.ownsRow base e size v n xs) (hb : Save g w w') (hg : v.ownBlock ≠ some g) : w'.ownsRow base e size v n xs := by
  refine ⟨h.1, ?_⟩
  rcases h.2 with h2 | ⟨q, cap, cur, hv, hq, hh, r⟩
  · exact .inl h2
  · refine .inr ⟨q, cap, cur, hv, hq, ?_, r⟩
    rw [hb.block q (heap_lt hh) (fun e => hg (by rw [hv, e]; rfl))]
    exact hh
theorem cells_save {w w' : World} {g B size n c : Nat} {A : Option Addr} {vs : List Value} (h : Cells w B size A n c vs) (hb : Save g w w') (hB : B ≤ w.heap.size) (hf : 0 < n → ∀ ad, A = some ad → ad.block ≠ g) : Cells w' B size A n c vs := by
  refine ⟨h.1, h.2.1, h.2.2.1, fun hn => ?_⟩
  obtain ⟨b, o, e, hbb, hc⟩ := h.2.2.2 hn
  have hne : b ≠ g := hf (by omega) _ e
  refine ⟨b, o, e, hbb, fun j hj => ?_⟩
  rw [← hc j hj]
  have := hb.block b (Nat.lt_of_lt_of_le hbb hB) hne
  simp only [World.cell?, this]
theorem ints_save {w w' : World} {g B n c : Nat} {k : IntKind} {A : Option Addr} {xs : List Int} (h : Ints w B k A n c xs) (hb : Save g w w') (hB : B ≤ w.heap.size) (hf : 0 < n → ∀ ad, A = some ad → ad.block ≠ g) : Ints w' B k A n c xs := cells_save h hb hB hf
/-- what lies below the block that is written reads as before -/
theorem ints_low {w w' : World} {g B n c : Nat} {k : IntKind} {A : Option Addr} {xs : List Int} (h : Ints w B k A n c xs) (hb : Save g w w') (hB : B ≤ g) (hg : g ≤ w.heap.size) : Ints w' B k A n c xs :=
  h.below ((hb.below (Nat.le_refl g) hg).mono hB)
theorem Blk.new2 (w : World) (o : Obj) (T : TypeId) (cs : Array Value) : Blk ((w.alloc o).alloc (.cells cs T)) (w.heap.size + 1) T cs.toList := by
  have := Blk.new (w.alloc o) T cs
  simpa using this

section
variable {P : Program} {w : World} {g : Nat} {T : TypeId} {cs old : List Value} {ops : Array Oper} {rest : List Oper} {o : Oper} {a : Act} {Q : Exit → Act → World → Prop}
theorem Blk.row (h : Blk w g T old) (cs : List Value) : Blk (w.setRow g cs.toArray) g T cs := setRow_heap w g _ _ _ _ h
theorem Save.row (g : Nat) (w : World) (cs : Array Value) : Save g w (w.setRow g cs) := ⟨rfl, rfl, rfl, by simp [World.setRow], fun k _ hn => setRow_other w g k cs (fun e => hn e)⟩
theorem wpList_load_blk (hgd : o.guard = none) (ty : TypeId) (x : Operand) (ho : o.op = .load ty x) (g : Nat) (hx : a.eval x = .pointer (some ⟨g, 0, none⟩)) (hg : Blk w g T cs) (d : TypeDesc)
    (hu : P.underlying ty = some d) (hd : (match d with | .struct _ | .array _ _ => true | _ => false) = true) (hi : (P.info? ty).map (·.size) = some cs.length)
    (h : wpList P ops Q rest (a.put o.dst (.agg cs.toArray)) w) : wpList P ops Q (o :: rest) a w :=
  wpList_load_row hgd ty x ho g hx T cs.toArray (0, 0) d hg hu hd (by rw [hi]; simp) h
theorem wpList_store_blk (hgd : o.guard = none) (ty : TypeId) (x y : Operand) (ho : o.op = .store ty x y) (g : Nat) (hx : a.eval x = .pointer (some ⟨g, 0, none⟩)) (hy : a.eval y = .agg cs.toArray) (hg : Blk w g T old)
    (hi : (P.info? ty).map (·.size) = some cs.length) (hold : old.length = cs.length) (h1 : cs.toArray.all (·.oneCell') = true)
    (h : wpList P ops Q rest (a.put o.dst undef) (w.setRow g cs.toArray)) : wpList P ops Q (o :: rest) a w :=
  wpList_store_row hgd ty x y ho g cs.toArray hx hy T old.toArray hg (by rw [hi]; simp) (by simpa using hold) h1 h
/-- a guarded load that is wanted -/
theorem wpList_load_blkG (hw : Region.wanted o (yielded ops a.tmps) = true) (ty : TypeId) (x : Operand) (ho : o.op = .load ty x) (g : Nat) (hx : a.eval x = .pointer (some ⟨g, 0, none⟩)) (hg : Blk w g T cs) (d : TypeDesc)
    (hu : P.underlying ty = some d) (hd : (match d with | .struct _ | .array _ _ => true | _ => false) = true) (hi : (P.info? ty).map (·.size) = some cs.length)
    (h : wpList P ops Q rest (a.put o.dst (.agg cs.toArray)) w) : wpList P ops Q (o :: rest) a w :=
  wpList_step fun K hK => by
    rw [if_pos hw]
    exact wp_load_row ty x ho g hx T cs.toArray (0, 0) d hg hu hd (by rw [hi]; simp) (hK _ _ h)
theorem results_cell_row2 {fn : Func} {p u : Tmp} {ty : TypeId} (h : fn.results = #[.cell p ty, .tmp u]) (tmps : Array Value) (g : Nat) (d : TypeDesc)
    (hp : tmps.getD p undef = .pointer (some ⟨g, 0, none⟩)) (hg : Blk w g T cs) (hu : P.underlying ty = some d) (hd : (match d with | .struct _ | .array _ _ => true | _ => false) = true) (hi : (P.info? ty).map (·.size) = some cs.length) :
    (results fn tmps).run P w = .ok (.tuple #[.agg cs.toArray, tmps.getD u undef]) w := by
  rw [results_cell_tmp h]
  have hp' : tmps[p]?.getD undef = .pointer (some ⟨g, 0, none⟩) := by simpa using hp
  simp [hp', asAddr, run_loadVar_row w g T ty cs.toArray (0, 0) d hg hu hd (by rw [hi]; simp)]
theorem two_blks (w : World) (T U : TypeId) (xs ys : Array Value) : Blk ((w.alloc (.cells xs T)).alloc (.cells ys U)).drew w.heap.size T xs.toList ∧ Blk ((w.alloc (.cells xs T)).alloc (.cells ys U)).drew (w.heap.size + 1) U ys.toList ∧ Below w.heap.size w ((w.alloc (.cells xs T)).alloc (.cells ys U)).drew :=
  ⟨((Blk.new w T xs).keep (belowA _ _)).keep (Below.refl _ _).drew, by
    have := Blk.new (w.alloc (.cells xs T)) U ys
    rw [World.size_alloc] at this
    exact this, (below3 (belowA _ _) (belowA _ _)).drew⟩
end
set_option linter.unusedVariables false
set_option linter.unusedSimpArgs false
theorem box_new {w : World} {T : TypeId} (zs : List Value) (cs : List Value) : Blk ((w.alloc (.cells zs.toArray T)).setRow w.heap.size cs.toArray) w.heap.size T cs ∧ Below w.heap.size w ((w.alloc (.cells zs.toArray T)).setRow w.heap.size cs.toArray) :=
  ⟨(Blk.new w T zs.toArray).row cs, (belowA _ _).trans ((Save.row w.heap.size _ _).below (Nat.le_refl _) (belowA _ _).size)⟩
theorem run_load_blk {P : Program} {w : World} {T : TypeId} {cs : List Value} {o : Oper} {a : Act} (ty : TypeId) (x : Operand) (ho : o.op = .load ty x) (g : Nat) (hx : a.eval x = .pointer (some ⟨g, 0, none⟩)) (hg : Blk w g T cs) (d : TypeDesc)
    (hu : P.underlying ty = some d) (hd : (match d with | .struct _ | .array _ _ => true | _ => false) = true) (hi : (P.info? ty).map (·.size) = some cs.length) :
    (execOp a.eval o).run P w = .ok (.value (.agg cs.toArray)) w := by
  unfold execOp
  simp only [ho, hx, Instr.loadAt, Instr.sureAddr, Sem.run_bind, Sem.run_pure, Result.andThen_ok, run_loadVar_row w g T ty cs.toArray (0, 0) d hg hu hd (by rw [hi]; simp)]
section
variable {P : Program} {T E : TypeId} {w : World} {B size n c : Nat} {k : IntKind} {A : Option Addr} {xs : List Int} {vs : List Value}
/-- the lower end is left out -/
theorem Cells.sliceTo (hT : P.underlying T = some (.slice E)) (hE : (P.info? E).map (fun i => i.size) = some size) (h : Cells w B size A n c vs) {hi : Nat} (h2 : hi ≤ n) :
    ∃ A' c', (∀ w' : World, (Instr.slice T (.slice A n c) none (some (.int .i64 hi)) none).run P w' = .ok (.slice A' hi c') w') ∧ Cells w B size A' hi c' (vs.take (hi * size)) := by
  obtain ⟨A', c', hs, hy⟩ := h.slice hT hE (lo := 0) (hi := hi) (Nat.zero_le _) h2
  refine ⟨A', c', fun w' => ?_, by simpa using hy⟩
  have := hs w'
  rw [Nat.sub_zero] at this
  rw [← this]
  rfl
/-- cut with a capacity -/
theorem Cells.slice3 (hT : P.underlying T = some (.slice E)) (hE : (P.info? E).map (fun i => i.size) = some size) (h : Cells w B size A n c vs) {hi : Nat} (h2 : hi ≤ n) :
    ∃ A', (∀ w' : World, (Instr.slice T (.slice A n c) none (some (.int .i64 hi)) (some (.int .i64 hi))).run P w' = .ok (.slice A' hi hi) w') ∧ Cells w B size A' hi hi (vs.take (hi * size)) := by
  obtain ⟨ha, hb, hc, hd⟩ := h
  obtain ⟨i, hi', hs⟩ : ∃ i, P.info? E = some i ∧ i.size = size := by
    cases h : P.info? E with
    | none => rw [h] at hE; cases hE
    | some i => rw [h] at hE; exact ⟨i, rfl, by simpa using hE⟩
  have hm2 : hi * size ≤ n * size := Nat.mul_le_mul_right _ h2
  refine ⟨if hi = 0 then A else A.map (·.add 0), fun w' => ?_, Nat.le_refl _, by omega, by rw [List.length_take, hc]; omega, fun hn => ?_⟩
  · have e1 : (0 : Int) ≤ (hi : Int) := by omega
    have e3 : (hi : Int) ≤ (c : Int) := by omega
    simp [Instr.slice, run_underlying hT, Instr.sliceBounds, run_sliceBound, e1, e3, sizeOf, typeInfo, hi']
  · obtain ⟨b, o, rfl, hbB, hcell⟩ := hd (by omega)
    refine ⟨b, o, by split <;> simp [Addr.add], hbB, fun j hj => ?_⟩
    rw [hcell j (by omega), List.getElem?_take, if_pos hj]
theorem Ints.sliceTo (hT : P.underlying T = some (.slice E)) (hE : (P.info? E).map (fun i => i.size) = some 1) (h : Ints w B k A n c xs) {hi : Nat} (h2 : hi ≤ n) :
    ∃ A' c', (∀ w' : World, (Instr.slice T (.slice A n c) none (some (.int .i64 hi)) none).run P w' = .ok (.slice A' hi c') w') ∧ Ints w B k A' hi c' (xs.take hi) := by
  obtain ⟨A', c', hs, hy⟩ := Cells.sliceTo hT hE h h2
  exact ⟨A', c', hs, by unfold Ints; rw [List.map_take]; simpa using hy⟩
theorem Ints.slice3 (hT : P.underlying T = some (.slice E)) (hE : (P.info? E).map (fun i => i.size) = some 1) (h : Ints w B k A n c xs) {hi : Nat} (h2 : hi ≤ n) :
    ∃ A', (∀ w' : World, (Instr.slice T (.slice A n c) none (some (.int .i64 hi)) (some (.int .i64 hi))).run P w' = .ok (.slice A' hi hi) w') ∧ Ints w B k A' hi hi (xs.take hi) := by
  obtain ⟨A', hs, hy⟩ := Cells.slice3 hT hE h h2
  exact ⟨A', hs, by unfold Ints; rw [List.map_take]; simpa using hy⟩
end
/-- an append whose run is known, in a region that draws -/
theorem step_append_run {P : Program} {ops : Array Oper} {o : Oper} {a : Act} {w w' : World} {K : Act → World → Prop} {Q : Exit → Act → World → Prop} {E : Prop} (hgd : o.guard = none) (s x : Operand) (t : TypeId)
    (ho : o.op = .call { callee := .builtin .append, args := #[s, x], argTypes := #[t, t] }) {v xv v' : Value} (hs : a.eval s = v) (hx : a.eval x = xv)
    (hr : (Builtin.append_ #[t, t] o.type #[v, xv]).run P w = .ok v' w') (h : K (a.put o.dst v') w') :
    if Region.wanted o (yielded ops a.tmps) = true then Oper.wp P o a w K Q else E := by
  have hw : Region.wanted o (yielded ops a.tmps) = true := by simp [Region.wanted, hgd]
  rw [if_pos hw]
  unfold Oper.wp execOp
  simp only [ho, resolve, invoke, builtin, Sem.run_bind, Sem.run_pure, Result.andThen_ok, List.map_toArray, List.map_cons, List.map_nil, hs, hx, hr]
  exact h
/-- the same, the temporary named -/
theorem step_append_at {P : Program} {ops : Array Oper} {o : Oper} {a : Act} {w w' : World} {K : Act → World → Prop} {Q : Exit → Act → World → Prop} {E : Prop} (d : Option Tmp) (hd : o.dst = d) (hgd : o.guard = none) (s x : Operand) (t : TypeId)
    (ho : o.op = .call { callee := .builtin .append, args := #[s, x], argTypes := #[t, t] }) {v xv v' : Value} (hs : a.eval s = v) (hx : a.eval x = xv)
    (hr : (Builtin.append_ #[t, t] o.type #[v, xv]).run P w = .ok v' w') (h : K (a.put d v') w') :
    if Region.wanted o (yielded ops a.tmps) = true then Oper.wp P o a w K Q else E := by
  subst hd
  exact step_append_run hgd s x t ho hs hx hr h
end Go.Proofs.YtplppbgkkfjknaaGreatDoor
