/- balance.Fail: what it returns of a group. -/
import Derived.Test.YtlcgjgmhllmekaaClone2
import Derived.Test.YtlcgjgmhllmekaaPick
namespace Go.Proofs.Ytlcgjgmhllmekaa
open Go.RowKit

def zeroP : PV := ⟨0, 0, 0, 0, none, 0, 0, [], 0⟩
/-- the backup of a path -/
def bk (ds : List PV) (p : PV) : PV := ds.getD p.backup.toNat zeroP
/-- a path after the failure of an interface -/
def failP (ds : List PV) (iface : Int) (p : PV) : PV :=
  if 0 ≤ p.backup ∧ (bk ds p).iface ≠ iface then
    if p.iface = iface then { bk ds p with weight := p.weight, backup := -1 } else p
  else if p.iface = iface then { p with weight := 0, backup := -1 } else { p with backup := -1 }
/-- the paths, the first k of them after the failure -/
def fTo (ds : List PV) (iface : Int) : Nat → List PV
  | 0 => ds
  | k + 1 => (fTo ds iface k).set k (failP ds iface (ds.getD k zeroP))
theorem fTo_len (ds : List PV) (iface : Int) : ∀ k, (fTo ds iface k).length = ds.length
  | 0 => rfl
  | k + 1 => by rw [fTo, List.length_set, fTo_len]
theorem fTo_ge (ds : List PV) (iface : Int) : ∀ {k j : Nat}, k ≤ j → (fTo ds iface k)[j]? = ds[j]?
  | 0, _, _ => rfl
  | k + 1, j, h => by rw [fTo, List.getElem?_set_ne (by omega), fTo_ge ds iface (by omega)]
theorem fTo_lt (ds : List PV) (iface : Int) : ∀ {k j : Nat}, j < k → j < ds.length → (fTo ds iface k)[j]? = some (failP ds iface (ds.getD j zeroP))
  | k + 1, j, h, hl => by
    rw [fTo]
    by_cases hj : j = k
    · subst hj
      rw [List.getElem?_set_self (by rw [fTo_len]; exact hl)]
    · rw [List.getElem?_set_ne (by omega), fTo_lt ds iface (by omega) hl]
/-- the group's paths after the failure of an interface -/
def failG (act : Int) (n : Nat) (ps : List PV) (iface : Int) : List PV := if gErr act n ps ≠ 0 then ps.map PV.dat else fTo (ps.map PV.dat) iface act.toNat

/-- the world in the midst of Fail's loop -/
structure FInv (w wr : World) (A : Option Addr) (act : Int) (M g n c cA : Nat) (qs : List PV) : Prop where
  b1 : wr.cell? ⟨w.heap.size, 1, none⟩ = some (.slice A n cA)
  o0 : wr.cell? ⟨M, 0, none⟩ = some (.int .i64 act)
  o1 : wr.cell? ⟨M, 1, none⟩ = some (.slice (some ⟨g, 0, none⟩) n c)
  r0 : wr.cell? ⟨w.heap.size + 1, 0, none⟩ = some (.int .i64 0)
  r1 : wr.cell? ⟨w.heap.size + 1, 1, none⟩ = some (.slice none 0 0)
  f0 : wr.frozen? ⟨w.heap.size + 1, 0, none⟩ = false
  f1 : wr.frozen? ⟨w.heap.size + 1, 1, none⟩ = false
  own : OwnP wr (w.heap.size + 2) g n c qs
  ap : ∀ p ∈ qs, Apart (w.heap.size + 1) p.A p.ln
  bel : Below w.heap.size w wr
  mg : w.heap.size + 2 ≤ M ∧ M ≠ g ∧ M < wr.heap.size
section
variable {w wr w' : World} {A : Option Addr} {act : Int} {M g n c cA : Nat} {qs : List PV}
theorem FInv.below (h : FInv w wr A act M g n c cA qs) (hb : Below wr.heap.size wr w') : FInv w w' A act M g n c cA qs := by
  have h1 := h.own.lt
  have h2 := h.mg
  have k : ∀ b o, b < wr.heap.size → w'.cell? ⟨b, o, none⟩ = wr.cell? ⟨b, o, none⟩ := fun b o hb' => hb.cell (p := ⟨b, o, none⟩) hb'
  have kf : ∀ b o, b < wr.heap.size → w'.frozen? ⟨b, o, none⟩ = wr.frozen? ⟨b, o, none⟩ := fun b o hb' => hb.frozen (p := ⟨b, o, none⟩) hb'
  exact ⟨(k _ _ (by omega)).trans h.b1, (k _ _ (by omega)).trans h.o0, (k _ _ (by omega)).trans h.o1, (k _ _ (by omega)).trans h.r0, (k _ _ (by omega)).trans h.r1, (kf _ _ (by omega)).trans h.f0, (kf _ _ (by omega)).trans h.f1, h.own.below hb, h.ap, h.bel.trans (hb.mono h.bel.size), h2.1, h2.2.1, Nat.lt_of_lt_of_le h2.2.2 hb.size⟩
theorem FInv.drewN (h : FInv w wr A act M g n c cA qs) (k : Nat) : FInv w (wr.drewN k) A act M g n c cA qs := h.below (below_drewN (Below.refl _ _) k)
theorem FInv.drew (h : FInv w wr A act M g n c cA qs) : FInv w wr.drew A act M g n c cA qs := h.below (Below.refl _ _).drew
theorem FInv.set (h : FInv w wr A act M g n c cA qs) {j : Nat} (k : Nat) {p : PV} (q : PV) {v : Value} (hp : qs[j]? = some p) (hq : q.vals = p.vals.set k v) (hk : k < 6)
    (hi : Ints wr wr.heap.size .i64 q.A q.ln q.lc q.ls) (ha : Apart g q.A q.ln) (ha2 : Apart (w.heap.size + 1) q.A q.ln) : FInv w (wr.setCell ⟨g, j * 6 + k, none⟩ v) A act M g n c cA (qs.set j q) := by
  have h1 := h.own.lt
  have h2 := h.mg
  have c1 : ∀ b o, b ≠ g → (wr.setCell ⟨g, j * 6 + k, none⟩ v).cell? ⟨b, o, none⟩ = wr.cell? ⟨b, o, none⟩ := fun b o hne => World.cell?_setCell_other wr _ _ _ (fun e => hne (by injection e with e; exact e.symm))
  have c2 : ∀ b o, (wr.setCell ⟨g, j * 6 + k, none⟩ v).frozen? ⟨b, o, none⟩ = wr.frozen? ⟨b, o, none⟩ := fun b o => by go_simp
  exact ⟨(c1 _ _ (by omega)).trans h.b1, (c1 _ _ (by omega)).trans h.o0, (c1 _ _ (by omega)).trans h.o1, (c1 _ _ (by omega)).trans h.r0, (c1 _ _ (by omega)).trans h.r1, (c2 _ _).trans h.f0, (c2 _ _).trans h.f1, h.own.set hp hq hk hi ha, (fun r hr => by
    rcases List.mem_or_eq_of_mem_set hr with hr | rfl
    · exact h.ap r hr
    · exact ha2), h.bel.setCell (p := ⟨g, j * 6 + k, none⟩) (by show _ ≤ g; omega) v, h2.1, h2.2.1, by simpa [World.setCell] using h2.2.2⟩
/-- a cell that is no label is written -/
theorem FInv.setNum (h : FInv w wr A act M g n c cA qs) {j : Nat} (k : Nat) {p : PV} (q : PV) {v : Value} (hp : qs[j]? = some p) (hq : q.vals = p.vals.set k v) (hk : k < 6) (hA : q.A = p.A) (hn : q.ln = p.ln) (hc : q.lc = p.lc) (hl : q.ls = p.ls) :
    FInv w (wr.setCell ⟨g, j * 6 + k, none⟩ v) A act M g n c cA (qs.set j q) := by
  have hm := List.mem_of_getElem? hp
  have hl2 := h.own.labs p hm
  exact h.set k q hp hq hk (by rw [hA, hn, hc, hl]; exact hl2.1) (by rw [hA, hn]; exact hl2.2) (by rw [hA, hn]; exact h.ap p hm)
end
theorem dat_get {qs ds : List PV} (h : qs.map PV.dat = ds) {j : Nat} {p : PV} (hp : qs[j]? = some p) : ds[j]? = some p.dat := by
  rw [← h, List.getElem?_map, hp]
  rfl
theorem getD_of {ds : List PV} {j : Nat} {p : PV} (h : ds[j]? = some p) : ds.getD j zeroP = p := by
  rw [List.getD_eq_getElem?_getD, h]
  rfl
/-- one path more is done -/
theorem fTo_step {qs ds : List PV} {iface : Int} {k : Nat} {q : PV} (h : qs.map PV.dat = fTo ds iface k) (hq : q.dat = failP ds iface (ds.getD k zeroP)) : (qs.set k q).map PV.dat = fTo ds iface (k + 1) := by
  rw [fTo, List.map_set, h, hq]
theorem fTo_same {qs ds : List PV} {iface : Int} {k : Nat} {q : PV} (h : qs.map PV.dat = fTo ds iface k) (hp : qs[k]? = some q) (hq : q.dat = failP ds iface (ds.getD k zeroP)) : qs.map PV.dat = fTo ds iface (k + 1) := by
  have := fTo_step h hq
  rw [← this]
  congr 1
  refine List.ext_getElem? fun i => ?_
  rw [List.getElem?_set]
  by_cases hi : k = i
  · subst hi
    obtain ⟨hl, rfl⟩ := List.getElem?_eq_some_iff.1 hp
    simp [hl]
  · rw [if_neg hi]
section
variable {ds : List PV} {iface : Int} {p : PV}
theorem failP_keep (h0 : 0 ≤ p.backup) (h1 : (bk ds p).iface ≠ iface) (h2 : p.iface ≠ iface) : failP ds iface p = p := by rw [failP, if_pos ⟨h0, h1⟩, if_neg h2]
theorem failP_move (h0 : 0 ≤ p.backup) (h1 : (bk ds p).iface ≠ iface) (h2 : p.iface = iface) : failP ds iface p = { bk ds p with weight := p.weight, backup := -1 } := by rw [failP, if_pos ⟨h0, h1⟩, if_pos h2]
theorem failP_drop (h0 : ¬ (0 ≤ p.backup ∧ (bk ds p).iface ≠ iface)) (h2 : p.iface ≠ iface) : failP ds iface p = { p with backup := -1 } := by rw [failP, if_neg h0, if_neg h2]
theorem failP_zero (h0 : ¬ (0 ≤ p.backup ∧ (bk ds p).iface ≠ iface)) (h2 : p.iface = iface) : failP ds iface p = { p with weight := 0, backup := -1 } := by rw [failP, if_neg h0, if_pos h2]
end
theorem fresh_set {qs : List PV} {B k : Nat} {q : PV} (h : ∀ p ∈ qs, FreshL B p) (hq : FreshL B q) : ∀ r ∈ qs.set k q, FreshL B r := by
  intro r hr
  rcases List.mem_or_eq_of_mem_set hr with hr | rfl
  · exact h r hr
  · exact hq
/-- the result is laid down -/
theorem finish_group {w wr : World} {act : Int} {n c1 : Nat} {A1 : Option Addr} {qs ds : List PV} {x y : Value} (h0 : qs.length = n ∧ n ≤ c1 ∧ c1 ≤ maxLen) (ho : 0 < n → ∃ g, A1 = some ⟨g, 0, none⟩ ∧ OwnP wr (w.heap.size + 2) g n c1 qs)
    (hf : ∀ p ∈ qs, FreshL (w.heap.size + 2) p) (hd : qs.map PV.dat = ds) (hb : Below w.heap.size w wr) :
    GivesGroup act n ds w (.returned (.agg #[.int .i64 act, .slice A1 n c1])) ((wr.setCell ⟨w.heap.size + 1, 0, none⟩ x).setCell ⟨w.heap.size + 1, 1, none⟩ y) := by
  have hb2 : Below w.heap.size w ((wr.setCell ⟨w.heap.size + 1, 0, none⟩ x).setCell ⟨w.heap.size + 1, 1, none⟩ y) :=
    (hb.setCell (p := ⟨w.heap.size + 1, 0, none⟩) (Nat.le_succ _) _).setCell (p := ⟨w.heap.size + 1, 1, none⟩) (Nat.le_succ _) _
  have hf2 : ∀ p ∈ qs, FreshL w.heap.size p := fun p hp hm ad had => by
    have := hf p hp hm ad had
    omega
  by_cases hn : n = 0
  · subst hn
    obtain rfl : qs = [] := List.eq_nil_of_length_eq_zero h0.1
    exact ⟨A1, c1, [], rfl, fun h => absurd h (by omega), ⟨⟨⟨h0.2.1, h0.2.2, rfl, fun h => absurd h (by omega)⟩, rfl⟩, by simp⟩, hd, hf2, hb2⟩
  · obtain ⟨g, rfl, h⟩ := ho (by omega)
    have hg := h.lt
    have hw : OwnP ((wr.setCell ⟨w.heap.size + 1, 0, none⟩ x).setCell ⟨w.heap.size + 1, 1, none⟩ y) w.heap.size g n c1 qs := by
      refine ⟨own_mono (ownsRow_setCell_below (ownsRow_setCell_below h.row (by show w.heap.size + 1 < _; omega) _) (by show w.heap.size + 1 < _; omega) _) (by omega), h.len, fun p hp => ⟨?_, (h.labs p hp).2⟩⟩
      have ha : Apart (w.heap.size + 1) p.A p.ln := fun hm ad had => by
        have := hf p hp hm ad had
        omega
      exact (((h.labs p hp).1.setApart ha 0 x).setApart ha 1 y).more (by simp [World.setCell])
    exact ⟨some ⟨g, 0, none⟩, c1, qs, rfl, fun _ => ⟨g, rfl, hw⟩, hw.paths, hd, hf2, hb2⟩
end Go.Proofs.Ytlcgjgmhllmekaa
