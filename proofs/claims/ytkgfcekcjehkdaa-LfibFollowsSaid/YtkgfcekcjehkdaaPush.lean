/- Packets in memory; Push: the program's and the reference's texts return the same. -/
import Derived.Test.YtkgfcekcjehkdaaTabRef
import Derived.Test.YtkgfcekcjehkdaaConcatI
namespace Go.Proofs.Ytkgfcekcjehkdaa
open Go.RowKit

structure PD where
  src : Int
  dst : Int
  flow : Int
  ttl : Int
  ls : List Int
def zeroPD : PD := ⟨0, 0, 0, 0, []⟩
def PkAt (w : World) (B : Nat) (v : Value) (p : PD) : Prop := ∃ A n c, v = .agg #[.int .u32 p.src, .int .u32 p.dst, .int .u32 p.flow, .int .i64 p.ttl, .slice A n c] ∧ Ints w B .i64 A n c p.ls
theorem PkAt.below {w w' : World} {B : Nat} {v : Value} {p : PD} (h : PkAt w B v p) (hb : Below B w w') : PkAt w' B v p := by
  obtain ⟨A, n, c, e, hi⟩ := h
  exact ⟨A, n, c, e, hi.below hb⟩
theorem PkAt.more {w : World} {B B' : Nat} {v : Value} {p : PD} (h : PkAt w B v p) (hB : B ≤ B') : PkAt w B' v p := by
  obtain ⟨A, n, c, e, hi⟩ := h
  exact ⟨A, n, c, e, hi.more hB⟩
theorem PkAt.zero (w : World) (B : Nat) : PkAt w B (.agg #[.int .u32 0, .int .u32 0, .int .u32 0, .int .i64 0, .slice none 0 0]) zeroPD := ⟨none, 0, 0, rfl, Ints.nil _ _ _⟩
/-- the call returns a packet and an error -/
def GivesPE (p : PD) (x : Int) (w : World) (e : Ending) (w' : World) : Prop := ∃ v, e = .returned (.tuple #[v, .int .i64 x]) ∧ PkAt w' w'.heap.size v p ∧ Below w.heap.size w w'
/-- what Push returns -/
def push (p : PD) (ls : List Int) : PD × Int := if ls.all labOK = false then (zeroPD, 5) else if 16 < p.ls.length + ls.length then (zeroPD, 4) else ({ p with ls := p.ls ++ ls }, 0)
theorem all_false {ls : List Int} {j : Nat} (hj : j < ls.length) (h : labOK (ls.getD j 0) = false) : ls.all labOK = false := by
  rw [List.getD_eq_getElem?_getD, List.getElem?_eq_getElem hj] at h
  rw [List.all_eq_false]
  exact ⟨_, List.getElem_mem hj, by simp at h; simp [h]⟩
theorem all_true {ls : List Int} (h : ∀ j, j < ls.length → labOK (ls.getD j 0) = true) : ls.all labOK = true := by
  rw [List.all_eq_true]
  intro y hy
  obtain ⟨j, hj, rfl⟩ := List.getElem_of_mem hy
  have := h j hj
  rw [List.getD_eq_getElem?_getD, List.getElem?_eq_getElem hj] at this
  exact this

theorem Own.setBelow {w : World} {base : Nat} {e : TypeId} {k : IntKind} {v : Value} {n : Nat} {xs : List Int} (h : Own w base e k v n xs) {p : Addr} (hp : p.block < base) (u : Value) : Own (w.setCell p u) base e k v n xs := ownsRow_setCell_below h hp u
/-- the two boxes of a function from a packet to a packet: the argument and the result -/
theorem boxes {w W : World} {T : TypeId} {a0 a1 a2 a3 a4 b0 b1 b2 b3 b4 : Value} (h : Below (w.heap.size + 2) ((w.alloc (.cells #[a0, a1, a2, a3, a4] T)).alloc (.cells #[b0, b1, b2, b3, b4] T)) W) :
    (W.cell? ⟨w.heap.size, 0, none⟩ = some a0 ∧ W.cell? ⟨w.heap.size, 1, none⟩ = some a1 ∧ W.cell? ⟨w.heap.size, 2, none⟩ = some a2 ∧ W.cell? ⟨w.heap.size, 3, none⟩ = some a3 ∧ W.cell? ⟨w.heap.size, 4, none⟩ = some a4) ∧
    (W.cell? ⟨w.heap.size + 1, 0, none⟩ = some b0 ∧ W.cell? ⟨w.heap.size + 1, 1, none⟩ = some b1 ∧ W.cell? ⟨w.heap.size + 1, 2, none⟩ = some b2 ∧ W.cell? ⟨w.heap.size + 1, 3, none⟩ = some b3 ∧ W.cell? ⟨w.heap.size + 1, 4, none⟩ = some b4) ∧
    (∀ o, W.frozen? ⟨w.heap.size, o, none⟩ = false) ∧ (∀ o, W.frozen? ⟨w.heap.size + 1, o, none⟩ = false) ∧ w.heap.size < W.heap.size ∧ w.heap.size + 1 < W.heap.size := by
  have k : ∀ o, W.cell? ⟨w.heap.size, o, none⟩ = ((w.alloc (.cells #[a0, a1, a2, a3, a4] T)).alloc (.cells #[b0, b1, b2, b3, b4] T)).cell? ⟨w.heap.size, o, none⟩ := fun o => h.cell (p := ⟨w.heap.size, o, none⟩) (by show w.heap.size < w.heap.size + 2; omega)
  have k1 : ∀ o, W.cell? ⟨w.heap.size + 1, o, none⟩ = ((w.alloc (.cells #[a0, a1, a2, a3, a4] T)).alloc (.cells #[b0, b1, b2, b3, b4] T)).cell? ⟨w.heap.size + 1, o, none⟩ := fun o => h.cell (p := ⟨w.heap.size + 1, o, none⟩) (by show w.heap.size + 1 < w.heap.size + 2; omega)
  have f : ∀ o, W.frozen? ⟨w.heap.size, o, none⟩ = ((w.alloc (.cells #[a0, a1, a2, a3, a4] T)).alloc (.cells #[b0, b1, b2, b3, b4] T)).frozen? ⟨w.heap.size, o, none⟩ := fun o => h.frozen (p := ⟨w.heap.size, o, none⟩) (by show w.heap.size < w.heap.size + 2; omega)
  have f1 : ∀ o, W.frozen? ⟨w.heap.size + 1, o, none⟩ = ((w.alloc (.cells #[a0, a1, a2, a3, a4] T)).alloc (.cells #[b0, b1, b2, b3, b4] T)).frozen? ⟨w.heap.size + 1, o, none⟩ := fun o => h.frozen (p := ⟨w.heap.size + 1, o, none⟩) (by show w.heap.size + 1 < w.heap.size + 2; omega)
  have hz := h.size
  simp at hz
  refine ⟨⟨(k 0).trans (by go_simp), (k 1).trans (by go_simp), (k 2).trans (by go_simp), (k 3).trans (by go_simp), (k 4).trans (by go_simp)⟩, ⟨(k1 0).trans ?_, (k1 1).trans ?_, (k1 2).trans ?_, (k1 3).trans ?_, (k1 4).trans ?_⟩, fun o => (f o).trans (by go_simp), fun o => (f1 o).trans ?_, by omega, by omega⟩
  all_goals
    rw [show w.heap.size + 1 = (w.alloc (.cells #[a0, a1, a2, a3, a4] T)).heap.size by simp]
    generalize w.alloc (.cells #[a0, a1, a2, a3, a4] T) = V
    go_simp
set_option maxRecDepth 100000 in
set_option maxHeartbeats 2000000 in
theorem push_any (A C : Option Addr) (n c m d : Nat) (p : PD) (ls : List Int) (w : World) (hp : Ints w w.heap.size .i64 A n c p.ls) (hx : Ints w w.heap.size .i64 C m d ls) (hn : n ≤ 17592186044416) (hm : m ≤ 17592186044416) :
    Calls Try.prog 9 #[.agg #[.int .u32 p.src, .int .u32 p.dst, .int .u32 p.flow, .int .i64 p.ttl, .slice A n c], .slice C m d] w (GivesPE (push p ls).1 (push p ls).2 w) := by
  obtain ⟨src, dst, fl, ttl, ps⟩ := p
  dsimp only at hp ⊢
  have hl := hx.len
  have hl0 := hp.len
  have HP : Hid (Ints w w.heap.size .i64 A n c ps) := hp
  have HX : Hid (Ints w w.heap.size .i64 C m d ls) := hx
  have HL := Lib.hid hl
  have HL0 := Lib.hid hl0
  clear hp hx hl hl0
  go_enter Try.func9, Try.ntmps9
  go_wp2
  go_loop [10] (fun i => ∃ k : Nat, k ≤ m ∧ i = .int .i64 k ∧ Hid (∀ j, j < k → labOK (ls.getD j 0) = true)) (fun i => m - (intOf i).toNat)
  case atStart => exact ⟨0, Nat.zero_le _, rfl, fun j hj => absurd hj (by omega)⟩
  case round =>
    obtain ⟨k, hk, rfl, hall⟩ := hrel
    by_cases hlt : k < m
    · obtain ⟨b, o, x, rfl, hbB, hc, HXX⟩ := HX.out.cell hlt
      go_wp2_with fail
      refine (label_any x _).mono ?_
      rintro e w2 ⟨rfl, rfl⟩
      by_cases h2 : labOK x = false
      · have HF : Hid (push ⟨src, dst, fl, ttl, ps⟩ ls = (zeroPD, 5)) := by
          show _ = _
          rw [push, if_pos (all_false (j := k) (by rw [HL.out]; exact hlt) (by rw [HXX.out]; exact h2))]
        rw [h2]
        clear h2
        go_wp2_with fail
        refine bodyPost_ret (v := .tuple #[.agg #[.int .u32 0, .int .u32 0, .int .u32 0, .int .i64 0, .slice none 0 0], .int .i64 5]) (by simp [results, Try.results9, go_sem]) rfl ?_
        rw [HF.out]
        exact ⟨_, rfl, PkAt.zero _ _, ((Below.refl _ _).alloc (Nat.le_refl _) _).alloc (by simp) _⟩
      · have h2' : labOK x = true := by simpa using h2
        have HN : Hid (∀ j, j < k + 1 → labOK (ls.getD j 0) = true) := by
          intro j hj
          rcases Nat.lt_or_ge j k with h | h
          · exact hall.out j h
          · obtain rfl : j = k := by omega
            rw [HXX.out]
            exact h2'
        rw [h2']
        clear h2 h2'
        go_wp2
        go_round
        case rel => exact ⟨k + 1, by omega, by go_num, HN⟩
        case measure => simp [intOf]; omega
    · obtain rfl : k = m := by omega
      have HA : Hid (ls.all labOK = true) := all_true (fun j hj => hall.out j (by rw [← HL.out]; exact hj))
      by_cases h16 : 16 < n + k
      · have HF : Hid (push ⟨src, dst, fl, ttl, ps⟩ ls = (zeroPD, 4)) := by
          show _ = _
          rw [push, if_neg (by simp [HA.out]), if_pos (by show 16 < ps.length + ls.length; rw [HL.out, HL0.out]; exact h16)]
        go_wp2_with fail
        refine bodyPost_ret (v := .tuple #[.agg #[.int .u32 0, .int .u32 0, .int .u32 0, .int .i64 0, .slice none 0 0], .int .i64 4]) (by simp [results, Try.results9, go_sem]) rfl ?_
        rw [HF.out]
        exact ⟨_, rfl, PkAt.zero _ _, ((Below.refl _ _).alloc (Nat.le_refl _) _).alloc (by simp) _⟩
      · have HF : Hid (push ⟨src, dst, fl, ttl, ps⟩ ls = (⟨src, dst, fl, ttl, ps ++ ls⟩, 0)) := by
          show _ = _
          rw [push, if_neg (by simp [HA.out]), if_neg (by show ¬ 16 < ps.length + ls.length; rw [HL.out, HL0.out]; exact h16)]
        have HB0 : Hid (Below w.heap.size w ((w.alloc (.cells #[.int .u32 src, .int .u32 dst, .int .u32 fl, .int .i64 ttl, .slice A n c] 27)).alloc (.cells #[.int .u32 0, .int .u32 0, .int .u32 0, .int .i64 0, .slice none 0 0] 27))) := ((Below.refl _ _).alloc (Nat.le_refl _) _).alloc (by simp) _
        go_wp2_with fail
        refine (concat2N (by simp) (HP.out.below HB0.out) (HX.out.below HB0.out) (by simp; omega) (by omega)).mono ?_
        rintro e w3 ⟨A3, c3, rfl, ho3, hb3⟩
        obtain ⟨⟨p0, p1, p2, p3, p4⟩, ⟨q0, q1, q2, q3, q4⟩, fz, fz1, hz, hz1⟩ := boxes (hb3.mono (by simp))
        have HO3 := Lib.hid ho3
        have HB3 : Hid (Below w.heap.size w w3) := HB0.out.trans (hb3.mono (by simp; omega))
        clear ho3 hb3
        go_wp2
        refine bodyPost_ret (v := .tuple #[.agg #[.int .u32 src, .int .u32 dst, .int .u32 fl, .int .i64 ttl, .slice A3 (n + k) c3], .int .i64 0]) (by simp [results, Try.results9, go_sem, q0, q1, q2, q3, q4]) rfl ?_
        rw [HF.out]
        have HO4 := own_mono HO3.out (show w.heap.size + 2 ≤ _ by simp)
        refine ⟨_, rfl, ⟨A3, n + k, c3, rfl, Own.ints (e := 3) (base := w.heap.size + 2) ?_⟩, ?_⟩
        · repeat refine Own.setBelow ?_ (by show _ < w.heap.size + 2; simp) _
          exact HO4
        · repeat refine Below.setCell ?_ (by simp) _
          exact HB3.out
set_option maxRecDepth 100000 in
set_option maxHeartbeats 2000000 in
theorem refPush_any (A C : Option Addr) (n c m d : Nat) (p : PD) (ls : List Int) (w : World) (hp : Ints w w.heap.size .i64 A n c p.ls) (hx : Ints w w.heap.size .i64 C m d ls) (hn : n ≤ 17592186044416) (hm : m ≤ 17592186044416) :
    Calls Try.prog 10 #[.agg #[.int .u32 p.src, .int .u32 p.dst, .int .u32 p.flow, .int .i64 p.ttl, .slice A n c], .slice C m d] w (GivesPE (push p ls).1 (push p ls).2 w) := by
  obtain ⟨src, dst, fl, ttl, ps⟩ := p
  dsimp only at hp ⊢
  have hl := hx.len
  have hl0 := hp.len
  have HP : Hid (Ints w w.heap.size .i64 A n c ps) := hp
  have HX : Hid (Ints w w.heap.size .i64 C m d ls) := hx
  have HL := Lib.hid hl
  have HL0 := Lib.hid hl0
  clear hp hx hl hl0
  go_enter Try.func10, Try.ntmps10
  go_wp2
  go_loop [10] (fun i => ∃ k : Nat, k ≤ m ∧ i = .int .i64 k ∧ Hid (∀ j, j < k → labOK (ls.getD j 0) = true)) (fun i => m - (intOf i).toNat)
  case atStart => exact ⟨0, Nat.zero_le _, rfl, fun j hj => absurd hj (by omega)⟩
  case round =>
    obtain ⟨k, hk, rfl, hall⟩ := hrel
    by_cases hlt : k < m
    · obtain ⟨b, o, x, rfl, hbB, hc, HXX⟩ := HX.out.cell hlt
      go_wp2_with fail
      refine (refLabel_any x _).mono ?_
      rintro e w2 ⟨rfl, rfl⟩
      by_cases h2 : labOK x = false
      · have HF : Hid (push ⟨src, dst, fl, ttl, ps⟩ ls = (zeroPD, 5)) := by
          show _ = _
          rw [push, if_pos (all_false (j := k) (by rw [HL.out]; exact hlt) (by rw [HXX.out]; exact h2))]
        rw [h2]
        clear h2
        go_wp2_with fail
        refine bodyPost_ret (v := .tuple #[.agg #[.int .u32 0, .int .u32 0, .int .u32 0, .int .i64 0, .slice none 0 0], .int .i64 5]) (by simp [results, Try.results10, go_sem]) rfl ?_
        rw [HF.out]
        exact ⟨_, rfl, PkAt.zero _ _, ((Below.refl _ _).alloc (Nat.le_refl _) _).alloc (by simp) _⟩
      · have h2' : labOK x = true := by simpa using h2
        have HN : Hid (∀ j, j < k + 1 → labOK (ls.getD j 0) = true) := by
          intro j hj
          rcases Nat.lt_or_ge j k with h | h
          · exact hall.out j h
          · obtain rfl : j = k := by omega
            rw [HXX.out]
            exact h2'
        rw [h2']
        clear h2 h2'
        go_wp2
        go_round
        case rel => exact ⟨k + 1, by omega, by go_num, HN⟩
        case measure => simp [intOf]; omega
    · obtain rfl : k = m := by omega
      have HA : Hid (ls.all labOK = true) := all_true (fun j hj => hall.out j (by rw [← HL.out]; exact hj))
      by_cases h16 : 16 < n + k
      · have HF : Hid (push ⟨src, dst, fl, ttl, ps⟩ ls = (zeroPD, 4)) := by
          show _ = _
          rw [push, if_neg (by simp [HA.out]), if_pos (by show 16 < ps.length + ls.length; rw [HL.out, HL0.out]; exact h16)]
        go_wp2_with fail
        refine bodyPost_ret (v := .tuple #[.agg #[.int .u32 0, .int .u32 0, .int .u32 0, .int .i64 0, .slice none 0 0], .int .i64 4]) (by simp [results, Try.results10, go_sem]) rfl ?_
        rw [HF.out]
        exact ⟨_, rfl, PkAt.zero _ _, ((Below.refl _ _).alloc (Nat.le_refl _) _).alloc (by simp) _⟩
      · have HF : Hid (push ⟨src, dst, fl, ttl, ps⟩ ls = (⟨src, dst, fl, ttl, ps ++ ls⟩, 0)) := by
          show _ = _
          rw [push, if_neg (by simp [HA.out]), if_neg (by show ¬ 16 < ps.length + ls.length; rw [HL.out, HL0.out]; exact h16)]
        have HB0 : Hid (Below w.heap.size w ((w.alloc (.cells #[.int .u32 src, .int .u32 dst, .int .u32 fl, .int .i64 ttl, .slice A n c] 27)).alloc (.cells #[.int .u32 0, .int .u32 0, .int .u32 0, .int .i64 0, .slice none 0 0] 27))) := ((Below.refl _ _).alloc (Nat.le_refl _) _).alloc (by simp) _
        go_wp2_with fail
        refine (copyInts_any A C n c k d ps ls _ ((HP.out.below HB0.out).more HB0.out.size) ((HX.out.below HB0.out).more HB0.out.size) (by omega)).mono ?_
        rintro e w3 ⟨A3, c3, rfl, ho3, hb3⟩
        obtain ⟨⟨p0, p1, p2, p3, p4⟩, ⟨q0, q1, q2, q3, q4⟩, fz, fz1, hz, hz1⟩ := boxes (hb3.mono (by simp))
        have HO3 := Lib.hid ho3
        have HB3 : Hid (Below w.heap.size w w3) := HB0.out.trans (hb3.mono (by simp; omega))
        clear ho3 hb3
        go_wp2
        refine bodyPost_ret (v := .tuple #[.agg #[.int .u32 src, .int .u32 dst, .int .u32 fl, .int .i64 ttl, .slice A3 (n + k) c3], .int .i64 0]) (by simp [results, Try.results10, go_sem, q0, q1, q2, q3, q4]) rfl ?_
        rw [HF.out]
        have HO4 := own_mono HO3.out (show w.heap.size + 2 ≤ _ by simp)
        refine ⟨_, rfl, ⟨A3, n + k, c3, rfl, Own.ints (e := 3) (base := w.heap.size + 2) ?_⟩, ?_⟩
        · repeat refine Own.setBelow ?_ (by show _ < w.heap.size + 2; simp) _
          exact HO4
        · repeat refine Below.setCell ?_ (by simp) _
          exact HB3.out
end Go.Proofs.Ytkgfcekcjehkdaa
