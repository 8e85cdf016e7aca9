/- Paths in memory: lists of segments, read and made. -/
import Derived.Test.YtojgohgeagbkbaaBase
import Derived.Deep.RegionHeld3
import Derived.Deep.DeepCutAuto
namespace Go.Proofs.Ytojgohgeagbkbaa
open Go.RowKit

theorem belowA (w : World) (o : Obj) : Below w.heap.size w (w.alloc o) := (Below.refl _ _).alloc (Nat.le_refl _) _
theorem below3 {w W W' : World} (h : Below w.heap.size w W) (hb : Below W.heap.size W W') : Below w.heap.size w W' := h.trans (hb.mono h.size)
theorem un_drew {B : Nat} {w w' : World} (h : Below B w.drew w') : Below B w w' := ⟨h.os, h.tape, h.output, h.size, h.block⟩
/-- a path: kinds and numbers -/
abbrev Path := List (Int × List Int)
/-- a segment in memory -/
structure SV where
  kind : Int
  A : Option Addr
  n : Nat
  c : Nat
  xs : List Int
def SV.vals (t : SV) : List Value := [.int .i64 t.kind, .slice t.A t.n t.c]
theorem SV.vals_len (t : SV) : t.vals.length = 2 := rfl
def SV.key (t : SV) : Int × List Int := (t.kind, t.xs)
theorem seg_info : (Try.prog.info? 75).map (fun i => (i.zero, i.size, i.bytes)) = some (some (.agg #[.int .i64 0, .slice none 0 0]), 2, 32) := by kernel_rfl
theorem int_info : (Try.prog.info? 3).map (fun i => (i.zero, i.size, i.bytes)) = some (some (.int .i64 0), 1, 8) := by kernel_rfl
theorem rows_apart {w : World} {b1 b2 s1 s2 n1 n2 : Nat} {e1 e2 : TypeId} {v1 v2 : Value} {x1 x2 : List Value} (h1 : w.ownsRow b1 e1 s1 v1 n1 x1) (h2 : w.ownsRow b2 e2 s2 v2 n2 x2) (he : e1 ≠ e2) : v1.ownBlock = none ∨ v1.ownBlock ≠ v2.ownBlock := by
  rcases h1.2 with ⟨rfl, _⟩ | ⟨g, cap, cur, rfl, _, hg, _⟩
  · left; rfl
  · right
    rcases h2.2 with ⟨rfl, _⟩ | ⟨g', cap', cur', rfl, _, hg', _⟩
    · simp [Value.ownBlock]
    · intro h
      simp only [Value.ownBlock, Option.some.injEq] at h
      subst h
      rw [hg] at hg'
      simp only [Option.some.injEq, Obj.cells.injEq] at hg'
      exact he hg'.2.1
theorem row_below {w w' : World} {base size n : Nat} {e : TypeId} {v : Value} {xs : List Value} (h : w.ownsRow base e size v n xs) (hb : Below w.heap.size w w') : w'.ownsRow base e size v n xs := by
  refine ⟨h.1, ?_⟩
  rcases h.2 with h2 | ⟨g, cap, cur, hv, hg, hh, r⟩
  · exact .inl h2
  · refine .inr ⟨g, cap, cur, hv, hg, ?_, r⟩
    rw [hb.block g]
    · exact hh
    · rcases Nat.lt_or_ge g w.heap.size with hl | hl
      · exact hl
      · rw [Array.getElem?_eq_none hl] at hh
        cases hh
/-- the numbers of a segment lie from block lo on, and not in the row v -/
def Free (lo : Nat) (v : Value) (A : Option Addr) (n : Nat) : Prop := 0 < n → ∀ ad, A = some ad → lo ≤ ad.block ∧ v.ownBlock ≠ some ad.block
/-- a list of segments under way: a row of the call's own; the numbers lie elsewhere, from block lo on -/
def SOut (w : World) (base lo : Nat) (v : Value) (m : Nat) (ts : Path) : Prop :=
  ∃ fs : List SV, w.ownsRow base 75 2 v m (fs.flatMap SV.vals) ∧ fs.length = m ∧ fs.map SV.key = ts ∧ ∀ t ∈ fs, Ints w w.heap.size .i64 t.A t.n t.c t.xs ∧ Free lo v t.A t.n
theorem SOut.nil (w : World) (base lo : Nat) : SOut w base lo (.slice none 0 0) 0 [] := ⟨[], World.ownsRow_nil _ _ _ _, rfl, rfl, fun t h => by cases h⟩
theorem SOut.below {w w' : World} {base lo m : Nat} {v : Value} {ts : Path} (h : SOut w base lo v m ts) (hb : Below w.heap.size w w') : SOut w' base lo v m ts := by
  obtain ⟨fs, h1, h2, h3, h4⟩ := h
  exact ⟨fs, row_below h1 hb, h2, h3, fun t ht => ⟨((h4 t ht).1.below hb).more hb.size, (h4 t ht).2⟩⟩
theorem SOut.mono {w : World} {base base' lo lo' m : Nat} {v : Value} {ts : Path} (h : SOut w base lo v m ts) (hb : base' ≤ base) (hl : lo' ≤ lo) : SOut w base' lo' v m ts := by
  obtain ⟨fs, h1, h2, h3, h4⟩ := h
  exact ⟨fs, own_mono h1 hb, h2, h3, fun t ht => ⟨(h4 t ht).1, fun hn ad ha => ⟨Nat.le_trans hl ((h4 t ht).2 hn ad ha).1, ((h4 t ht).2 hn ad ha).2⟩⟩⟩
theorem SOut.form {w : World} {base lo m : Nat} {v : Value} {ts : Path} (h : SOut w base lo v m ts) : ∃ A c, v = .slice A m c := by
  obtain ⟨fs, h1, _⟩ := h
  exact own_form h1
theorem SOut.len {w : World} {base lo m : Nat} {v : Value} {ts : Path} (h : SOut w base lo v m ts) : ts.length = m := by
  obtain ⟨fs, _, h2, h3, _⟩ := h
  rw [← h3, List.length_map, h2]
theorem SOut.block {w : World} {base lo m : Nat} {v : Value} {ts : Path} (h : SOut w base lo v m ts) : ∀ k, v.ownBlock = some k → base ≤ k ∧ k < w.heap.size := by
  obtain ⟨fs, h1, _⟩ := h
  exact fun k hk => World.ownsRow.lt h1 k hk
/-- a list of segments that reads -/
def Segs (w : World) (B : Nat) (A : Option Addr) (n c : Nat) (ts : Path) : Prop := ∃ fs : List SV, Recs w B 2 A n c SV.vals fs ∧ fs.map SV.key = ts ∧ ∀ t ∈ fs, Ints w B .i64 t.A t.n t.c t.xs
theorem Segs.below {w w' : World} {B n c : Nat} {A : Option Addr} {ts : Path} (h : Segs w B A n c ts) (hb : Below B w w') : Segs w' B A n c ts := by
  obtain ⟨fs, h1, h2, h3⟩ := h
  exact ⟨fs, h1.below hb, h2, fun t ht => (h3 t ht).below hb⟩
theorem Segs.more {w : World} {B B' n c : Nat} {A : Option Addr} {ts : Path} (h : Segs w B A n c ts) (hB : B ≤ B') : Segs w B' A n c ts := by
  obtain ⟨fs, h1, h2, h3⟩ := h
  exact ⟨fs, h1.more hB, h2, fun t ht => (h3 t ht).more hB⟩
theorem Segs.grow {w w' : World} {B n c : Nat} {A : Option Addr} {ts : Path} (h : Segs w B A n c ts) (hb : Below B w w') (hB : B ≤ w.heap.size) : Segs w' w'.heap.size A n c ts := (h.below hb).more (Nat.le_trans hB hb.size)
theorem Segs.nil (w : World) (B : Nat) : Segs w B none 0 0 [] := ⟨[], ⟨Cells.nil _ _ _, rfl⟩, rfl, fun t h => by cases h⟩
theorem SOut.segs {w : World} {base lo m c : Nat} {A : Option Addr} {ts : Path} (h : SOut w base lo (.slice A m c) m ts) : Segs w w.heap.size A m c ts := by
  obtain ⟨fs, h1, h2, h3, h4⟩ := h
  exact ⟨fs, ⟨Cells.of_own h1, h2⟩, h3, fun t ht => (h4 t ht).1⟩
theorem Segs.get {w : World} {B n c : Nat} {A : Option Addr} {ts : Path} (h : Segs w B A n c ts) {j : Nat} (hj : j < n) :
    ∃ (b o : Nat) (f : SV), A = some ⟨b, o, none⟩ ∧ b < B ∧ Hid (ts[j]? = some f.key) ∧ w.cell? ⟨b, o + j * 2, none⟩ = some (.int .i64 f.kind) ∧ w.cell? ⟨b, o + j * 2 + 1, none⟩ = some (.slice f.A f.n f.c) ∧ Hid (Ints w B .i64 f.A f.n f.c f.xs) := by
  obtain ⟨fs, h1, h2, h3⟩ := h
  obtain ⟨b, o, f, e, hb, hf, hc⟩ := h1.get SV.vals_len hj
  refine ⟨b, o, f, e, hb, ?_, hc 0 (by omega), hc 1 (by omega), h3 f (List.mem_of_getElem? hf)⟩
  rw [← h2]
  show (fs.map SV.key)[j]? = _
  rw [List.getElem?_map, hf]
  rfl
theorem Segs.len {w : World} {B n c : Nat} {A : Option Addr} {ts : Path} (h : Segs w B A n c ts) : ts.length = n := by
  obtain ⟨fs, h1, h2, _⟩ := h
  rw [← h2, List.length_map]
  exact h1.2
theorem ints_grown {w w' : World} {B n c : Nat} {k : IntKind} {A : Option Addr} {xs : List Int} {row : Option Nat} (h : Ints w B k A n c xs) (hB : B ≤ w.heap.size) (hg : w.grownBy w' row) (hne : 0 < n → ∀ ad, A = some ad → row ≠ some ad.block) : Ints w' B k A n c xs :=
  ⟨h.1, h.2.1, h.2.2.1, fun hn => by
    obtain ⟨b, o, e, hb, hc⟩ := h.2.2.2 hn
    refine ⟨b, o, e, hb, fun j hj => ?_⟩
    rw [← hc j hj]
    exact hg.cell_far ⟨b, o + j, none⟩ (Nat.lt_of_lt_of_le hb hB) (fun h2 => hne (by omega) _ e h2.symm)⟩
/-- append of segments that lie in memory -/
theorem SOut.append {w : World} {base lo l n c B : Nat} {v : Value} {ts us : Path} {A : Option Addr} (h : SOut w base lo v l ts) (hbase : base ≤ w.heap.size) (hl : l + n ≤ 2000000000000)
    (fs' : List SV) (hc : Recs w B 2 A n c SV.vals fs') (hk : fs'.map SV.key = us) (hi : ∀ t ∈ fs', Ints w w.heap.size .i64 t.A t.n t.c t.xs ∧ Free lo v t.A t.n) :
    ∃ A' c' w', (Builtin.append_ #[35, 35] 35 #[v, .slice A n c]).run Try.prog w = .ok (.slice A' (l + n) c') w' ∧ SOut w' base lo (.slice A' (l + n) c') (l + n) (ts ++ us) ∧ w.grownBy w' v.ownBlock ∧ ((Value.slice A' (l + n) c').ownBlock = v.ownBlock ∨ (Value.slice A' (l + n) c').ownBlock = some w.heap.size) := by
  obtain ⟨fs, h1, h2, h3, h4⟩ := h
  obtain ⟨v', w', k1, k2, k3, k4⟩ := Cells.append (P := Try.prog) (t := 35) (ty := 35) Try.underlying35 seg_info rfl (by omega) h1 hc.1 (by
    intro u hu
    obtain ⟨t, _, ht⟩ := List.mem_flatMap.1 hu
    simp only [SV.vals, List.mem_cons, List.not_mem_nil, or_false] at ht
    rcases ht with rfl | rfl <;> rfl) (by simp only [maxLen]; omega) (by omega) hbase
  obtain ⟨A', c', rfl⟩ := own_form k2
  have keep : ∀ t : SV, Ints w w.heap.size .i64 t.A t.n t.c t.xs ∧ Free lo v t.A t.n → Ints w' w'.heap.size .i64 t.A t.n t.c t.xs ∧ Free lo (.slice A' (l + n) c') t.A t.n := by
    intro t ⟨hi1, hi2⟩
    refine ⟨(ints_grown hi1 (Nat.le_refl _) k3 fun hn ad ha => (hi2 hn ad ha).2).more k3.size, fun hn ad ha => ⟨(hi2 hn ad ha).1, ?_⟩⟩
    rcases k4 with h5 | h5
    · rw [h5]; exact (hi2 hn ad ha).2
    · rw [h5]
      intro h6
      obtain ⟨b, o, e, hb, _⟩ := hi1.2.2.2 (by omega)
      rw [e] at ha
      injection ha with ha
      subst ha
      injection h6 with h6
      dsimp only at h6
      omega
  refine ⟨A', c', w', k1, ⟨fs ++ fs', by rw [List.flatMap_append]; exact k2, by rw [List.length_append, h2, hc.2], by rw [List.map_append, h3, hk], fun t ht => ?_⟩, k3, k4⟩
  rcases List.mem_append.1 ht with ht | ht
  · exact keep t (h4 t ht)
  · exact keep t (hi t ht)
/-- append of one segment -/
theorem SOut.push {w : World} {base lo l N : Nat} {v : Value} {ts : Path} (h : SOut w base lo v l ts) (kind : Int) {A : Option Addr} {n c : Nat} {xs : List Int} (hx : Ints w w.heap.size .i64 A n c xs) (hf : Free lo v A n) (hN : N = w.heap.size) (hbase : base ≤ w.heap.size) (hl : l ≤ 1000000000000) :
    ∃ A' c' w', (Builtin.append_ #[35, 35] 35 #[v, .slice (some ⟨N, 0, none⟩) 1 1]).run Try.prog (w.alloc (.cells #[.int .i64 kind, .slice A n c] 75)) = .ok (.slice A' (l + 1) c') w' ∧ SOut w' base lo (.slice A' (l + 1) c') (l + 1) (ts ++ [(kind, xs)]) ∧ Below base w w' := by
  subst hN
  have hrow := h.block
  obtain ⟨W, hW⟩ : ∃ W, w.alloc (.cells #[.int .i64 kind, .slice A n c] 75) = W := ⟨_, rfl⟩
  have hbel : Below w.heap.size w W := by rw [← hW]; exact belowA _ _
  have hlit : Cells W W.heap.size 2 (some ⟨w.heap.size, 0, none⟩) 1 1 [.int .i64 kind, .slice A n c] := by
    rw [← hW]
    exact Cells.of_own (World.ownsRow_lit (base := w.heap.size) (size := 2) w #[.int .i64 kind, .slice A n c] 1 (Nat.le_refl _) (by simp [maxLen]) rfl)
  obtain ⟨A', c', w', k1, k2, k3, k4⟩ := (h.below hbel).append (by have := hbel.size; omega) (by omega) [⟨kind, A, n, c, xs⟩] ⟨hlit, rfl⟩ (us := [(kind, xs)]) rfl (fun t ht => by
    obtain rfl : t = ⟨kind, A, n, c, xs⟩ := by simpa using ht
    exact ⟨(hx.below hbel).more hbel.size, hf⟩)
  rw [hW]
  exact ⟨A', c', w', k1, k2, (hbel.mono hbase).grown k3 (by have := hbel.size; omega) (fun k hk => (hrow k hk).1)⟩
/-- append of one number -/
theorem push_int {w : World} {base l N : Nat} {ev : Value} {xs : List Int} (he : Own w base 3 .i64 ev l xs) (y : Int) (hN : N = w.heap.size) (hbase : base ≤ w.heap.size) (hl : l ≤ 2000000000000) :
    ∃ A' c' w', (Builtin.append_ #[52, 52] 52 #[ev, .slice (some ⟨N, 0, none⟩) 1 1]).run Try.prog (w.alloc (.cells #[.int .i64 y] 3)) = .ok (.slice A' (l + 1) c') w' ∧ Own w' base 3 .i64 (.slice A' (l + 1) c') (l + 1) (xs ++ [y]) ∧ Below base w w' := by
  subst hN
  obtain ⟨W, hW⟩ : ∃ W, w.alloc (.cells #[.int .i64 y] 3) = W := ⟨_, rfl⟩
  have hbel : Below w.heap.size w W := by rw [← hW]; exact belowA _ _
  have hlit : Ints W W.heap.size .i64 (some ⟨w.heap.size, 0, none⟩) 1 1 [y] := by
    rw [← hW]
    exact ints_lit w 3 .i64 1 [y] rfl (by simp [maxLen]) _ (by simp)
  have hr1 : Own W base 3 .i64 ev l xs := row_below he hbel
  obtain ⟨v', w', k1, k2, k3, _⟩ := Ints.append (P := Try.prog) (t := 52) (ty := 52) (e := 3) Try.underlying52 int_info rfl hr1 hlit (by simp only [maxLen]; omega) (by omega) (by have := hbel.size; omega)
  obtain ⟨A', c', rfl⟩ := own_form k2
  rw [hW]
  exact ⟨A', c', w', k1, k2, (hbel.mono hbase).grown k3 (by have := hbel.size; omega) (fun k hk => (World.ownsRow.lt hr1 k hk).1)⟩
/-- append of numbers that lie in memory -/
theorem push_ints {w : World} {base B l n c : Nat} {A : Option Addr} {ev : Value} {xs ys : List Int} (he : Own w base 3 .i64 ev l xs) (hy : Ints w B .i64 A n c ys) (hbase : base ≤ w.heap.size) (hl : l + n ≤ 17592186044416) :
    ∃ A' c' w', (Builtin.append_ #[52, 52] 52 #[ev, .slice A n c]).run Try.prog w = .ok (.slice A' (l + n) c') w' ∧ Own w' base 3 .i64 (.slice A' (l + n) c') (l + n) (xs ++ ys) ∧ Below base w w' := by
  obtain ⟨v', w', k1, k2, k3, _⟩ := Ints.append (P := Try.prog) (t := 52) (ty := 52) (e := 3) Try.underlying52 int_info rfl he hy (by simp only [maxLen]; omega) (by omega) hbase
  obtain ⟨A', c', rfl⟩ := own_form k2
  exact ⟨A', c', w', k1, k2, (Below.refl base w).grown k3 hbase (fun k hk => (World.ownsRow.lt he k hk).1)⟩
end Go.Proofs.Ytojgohgeagbkbaa
