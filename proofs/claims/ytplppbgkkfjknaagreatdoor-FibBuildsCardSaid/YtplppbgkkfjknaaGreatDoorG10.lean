/- Packets in memory; Push: the program's and the reference's texts return the same. slices.BinarySearchFunc over a table with the comparison of 'step'. What Forward does: the plain function; the program's step. The program's step: the walk. Forward: the program's. -/
import Derived.Test.YtplppbgkkfjknaaGreatDoorG9
import Derived.RegionTactic
import Derived.Deep.DeepCutAuto
namespace Go.Proofs.YtplppbgkkfjknaaGreatDoor
open Go.RowKit
set_option maxRecDepth 100000

structure PD where
  src : Int
  dst : Int
  flow : Int
  ttl : Int
  ls : List Int
def zeroPD : PD := ⟨0, 0, 0, 0, []⟩
def PkAt (w : World) (B : Nat) (v : Value) (p : PD) : Prop := ∃ A n c, v = .agg #[.int .u32 p.src, .int .u32 p.dst, .int .u32 p.flow, .int .i64 p.ttl, .slice A n c] ∧ Ints w B .i64 A n c p.ls
theorem PkAt.below {w w' : World} {B : Nat} {v : Value} {p : PD} (h : PkAt w B v p) (hb : Below B w w') : PkAt w' B v p := by
  obtain ⟨A, n, c, e, hi⟩ := h
  exact ⟨A, n, c, e, hi.below hb⟩
theorem PkAt.more {w : World} {B B' : Nat} {v : Value} {p : PD} (h : PkAt w B v p) (hB : B ≤ B') : PkAt w B' v p := by
  obtain ⟨A, n, c, e, hi⟩ := h
  exact ⟨A, n, c, e, hi.more hB⟩
theorem PkAt.zero (w : World) (B : Nat) : PkAt w B (.agg #[.int .u32 0, .int .u32 0, .int .u32 0, .int .i64 0, .slice none 0 0]) zeroPD := ⟨none, 0, 0, rfl, Ints.nil _ _ _⟩
/-- the call returns a packet and an error -/
def GivesPE (p : PD) (x : Int) (w : World) (e : Ending) (w' : World) : Prop := ∃ v, e = .returned (.tuple #[v, .int .i64 x]) ∧ PkAt w' w'.heap.size v p ∧ Below w.heap.size w w'
/-- what Push returns -/
def push (p : PD) (ls : List Int) : PD × Int := if ls.all labOK = false then (zeroPD, 5) else if 16 < p.ls.length + ls.length then (zeroPD, 4) else ({ p with ls := p.ls ++ ls }, 0)
theorem all_false {ls : List Int} {j : Nat} (hj : j < ls.length) (h : labOK (ls.getD j 0) = false) : ls.all labOK = false := by
  rw [List.getD_eq_getElem?_getD, List.getElem?_eq_getElem hj] at h
  rw [List.all_eq_false]
  exact ⟨_, List.getElem_mem hj, by simp at h; simp [h]⟩
theorem all_true {ls : List Int} (h : ∀ j, j < ls.length → labOK (ls.getD j 0) = true) : ls.all labOK = true := by
  rw [List.all_eq_true]
  intro y hy
  obtain ⟨j, hj, rfl⟩ := List.getElem_of_mem hy
  have := h j hj
  rw [List.getD_eq_getElem?_getD, List.getElem?_eq_getElem hj] at this
  exact this

theorem Own.setBelow {w : World} {base : Nat} {e : TypeId} {k : IntKind} {v : Value} {n : Nat} {xs : List Int} (h : Own w base e k v n xs) {p : Addr} (hp : p.block < base) (u : Value) : Own (w.setCell p u) base e k v n xs := ownsRow_setCell_below h hp u
/-- the two boxes of a function from a packet to a packet: the argument and the result -/
theorem boxes {w W : World} {T : TypeId} {a0 a1 a2 a3 a4 b0 b1 b2 b3 b4 : Value} (h : Below (w.heap.size + 2) ((w.alloc (.cells #[a0, a1, a2, a3, a4] T)).alloc (.cells #[b0, b1, b2, b3, b4] T)) W) :
    (W.cell? ⟨w.heap.size, 0, none⟩ = some a0 ∧ W.cell? ⟨w.heap.size, 1, none⟩ = some a1 ∧ W.cell? ⟨w.heap.size, 2, none⟩ = some a2 ∧ W.cell? ⟨w.heap.size, 3, none⟩ = some a3 ∧ W.cell? ⟨w.heap.size, 4, none⟩ = some a4) ∧
    (W.cell? ⟨w.heap.size + 1, 0, none⟩ = some b0 ∧ W.cell? ⟨w.heap.size + 1, 1, none⟩ = some b1 ∧ W.cell? ⟨w.heap.size + 1, 2, none⟩ = some b2 ∧ W.cell? ⟨w.heap.size + 1, 3, none⟩ = some b3 ∧ W.cell? ⟨w.heap.size + 1, 4, none⟩ = some b4) ∧
    (∀ o, W.frozen? ⟨w.heap.size, o, none⟩ = false) ∧ (∀ o, W.frozen? ⟨w.heap.size + 1, o, none⟩ = false) ∧ w.heap.size < W.heap.size ∧ w.heap.size + 1 < W.heap.size := by
  have k : ∀ o, W.cell? ⟨w.heap.size, o, none⟩ = ((w.alloc (.cells #[a0, a1, a2, a3, a4] T)).alloc (.cells #[b0, b1, b2, b3, b4] T)).cell? ⟨w.heap.size, o, none⟩ := fun o => h.cell (p := ⟨w.heap.size, o, none⟩) (by show w.heap.size < w.heap.size + 2; omega)
  have k1 : ∀ o, W.cell? ⟨w.heap.size + 1, o, none⟩ = ((w.alloc (.cells #[a0, a1, a2, a3, a4] T)).alloc (.cells #[b0, b1, b2, b3, b4] T)).cell? ⟨w.heap.size + 1, o, none⟩ := fun o => h.cell (p := ⟨w.heap.size + 1, o, none⟩) (by show w.heap.size + 1 < w.heap.size + 2; omega)
  have f : ∀ o, W.frozen? ⟨w.heap.size, o, none⟩ = ((w.alloc (.cells #[a0, a1, a2, a3, a4] T)).alloc (.cells #[b0, b1, b2, b3, b4] T)).frozen? ⟨w.heap.size, o, none⟩ := fun o => h.frozen (p := ⟨w.heap.size, o, none⟩) (by show w.heap.size < w.heap.size + 2; omega)
  have f1 : ∀ o, W.frozen? ⟨w.heap.size + 1, o, none⟩ = ((w.alloc (.cells #[a0, a1, a2, a3, a4] T)).alloc (.cells #[b0, b1, b2, b3, b4] T)).frozen? ⟨w.heap.size + 1, o, none⟩ := fun o => h.frozen (p := ⟨w.heap.size + 1, o, none⟩) (by show w.heap.size + 1 < w.heap.size + 2; omega)
  have hz := h.size
  simp at hz
  refine ⟨⟨(k 0).trans (by go_simp), (k 1).trans (by go_simp), (k 2).trans (by go_simp), (k 3).trans (by go_simp), (k 4).trans (by go_simp)⟩, ⟨(k1 0).trans ?_, (k1 1).trans ?_, (k1 2).trans ?_, (k1 3).trans ?_, (k1 4).trans ?_⟩, fun o => (f o).trans (by go_simp), fun o => (f1 o).trans ?_, by omega, by omega⟩
  all_goals
    rw [show w.heap.size + 1 = (w.alloc (.cells #[a0, a1, a2, a3, a4] T)).heap.size by simp]
    generalize w.alloc (.cells #[a0, a1, a2, a3, a4] T) = V
    go_simp
end Go.Proofs.YtplppbgkkfjknaaGreatDoor
namespace Go.Proofs.YtplppbgkkfjknaaGreatDoor
open Go.RowKit
set_option maxRecDepth 100000

set_option maxHeartbeats 400000 in
theorem cmp_any (x : EV) (n : Int) (w : World) :
    Calls Tryz.prog 104 #[.agg #[.int .i64 x.inn, .slice x.A x.n x.c], .int .i64 n] w fun e w' => e = .returned (.int .i64 (wrap64 (x.inn - n))) ∧ Below w.heap.size w w' := by
  go_enter Tryz.func104, Tryz.ntmps104
  go_wp2
  go_ret
  exact ⟨rfl, (Below.refl _ _).alloc (Nat.le_refl _) _⟩

/-- what the search returns: an index, and whether the label stands there -/
def Found (es : List EV) (x : Int) (w : World) (e : Ending) (w' : World) : Prop :=
  ∃ (i : Nat) (b : Bool), e = .returned (.tuple #[.int .i64 i, .bool b]) ∧ (b = true → i < es.length ∧ innAt es i = x) ∧ (b = false → ∀ j, j < es.length → innAt es j ≠ x) ∧ Below w.heap.size w w'
/-- a table without an error is sorted, and its labels are small -/
structure Sorted (es : List EV) : Prop where
  lt : ∀ i j, i < j → j < es.length → innAt es i < innAt es j
  rg : ∀ i, i < es.length → 16 ≤ innAt es i ∧ innAt es i ≤ 1048575

set_option maxHeartbeats 2000000 in
theorem search_any (A : Option Addr) (n c B : Nat) (es : List EV) (x : Int) (w : World) (hx : Tab w B A n c es) (hB : B ≤ w.heap.size) (hn : n ≤ 2000) (hs : Sorted es) (hw : -9223372036854775808 ≤ x ∧ x ≤ 9223372036854775807) :
    Calls Tryz.prog 103 #[.slice A n c, .int .i64 x, .func (.func 104) #[] #[]] w (Found es x w) := by
  have HX := Lib.hid hx
  have hl := Lib.hid hx.len
  clear hx
  by_cases hp : ∃ p, p < n ∧ innAt es p = x
  · obtain ⟨p, hpn, hpx⟩ := hp
    have HPX := Lib.hid hpx
    have HS := Lib.hid hs
    clear hpx hs
    go_enter Tryz.func103, Tryz.ntmps103
    go_wp2
    go_loopw [9, 10] (fun u v wr => ∃ i j : Nat, i ≤ p ∧ p ≤ j ∧ j ≤ n ∧ u = .int .i64 i ∧ v = .int .i64 j ∧ Hid (Below w.heap.size w wr)) (fun u v _ => (intOf v).toNat - (intOf u).toNat)
    case atStart => exact ⟨0, n, Nat.zero_le _, by omega, Nat.le_refl _, rfl, rfl, Below.refl _ _⟩
    case round =>
      obtain ⟨i, j, hi, hj, hjn, rfl, rfl, hb⟩ := hrel
      by_cases hlt : i < j
      · obtain ⟨h, hh⟩ : ∃ h, (i + j) / 2 = h := ⟨_, rfl⟩
        have hh' : ((i : Int) + (j : Int)) / 2 = (h : Int) := by omega
        have hhj : h < j := by omega
        have hih : i ≤ h := by omega
        clear hh
        obtain ⟨b, o, y, rfl, hbB, hyk, _, c0, c1⟩ := (HX.out.below (hb.out.mono hB)).get (j := h) (by omega)
        have hy := inn_of hyk
        have hr1 := HS.out.rg h (by rw [hl.out]; omega)
        have hr2 := HS.out.rg p (by rw [hl.out]; omega)
        rw [HPX.out] at hr2
        rw [hy] at hr1
        have hbw : b < wr.heap.size := by have := hb.out.size; omega
        have hwr : wrap64 (y.inn - x) = y.inn - x := IntWalk.wrap64_in _ (by omega)
        have HD : Hid ((y.inn - x < 0 → h + 1 ≤ p) ∧ (¬ y.inn - x < 0 → p ≤ h)) := by
          refine ⟨fun hlt2 => ?_, fun hge => ?_⟩
          · rcases Nat.lt_or_ge h p with h3 | h3
            · omega
            · rcases Nat.eq_or_lt_of_le h3 with h4 | h4
              · subst h4
                rw [← hy, HPX.out] at hlt2
                omega
              · have := HS.out.lt p h h4 (by rw [hl.out]; omega)
                rw [HPX.out, hy] at this
                omega
          · rcases Nat.lt_or_ge h p with h3 | h3
            · have := HS.out.lt h p h3 (by rw [hl.out]; omega)
              rw [HPX.out, hy] at this
              omega
            · omega
        have C1 := Lib.hid (cmp_any y x wr)
        rw [hwr] at C1
        clear hyk hy hwr
        go_wp2_with fail
        refine C1.out.mono ?_
        rintro e w2 ⟨rfl, hb2⟩
        have HB2 : Hid (Below w.heap.size w w2) := hb.out.trans (hb2.mono hb.out.size)
        clear hb2 C1
        by_cases hlt2 : y.inn - x < 0
        · have h1 := HD.out.1 hlt2
          have d : decide (y.inn - x < 0) = true := by simp; omega
          go_wp2
          go_roundw
          case rel => exact ⟨h + 1, j, h1, hj, hjn, by go_num, rfl, HB2⟩
          case measure => simp [intOf]; omega
        · have h1 := HD.out.2 (by omega)
          have d : decide (y.inn - x < 0) = false := by simp; omega
          go_wp2
          go_roundw
          case rel => exact ⟨i, h, hi, h1, by omega, rfl, by go_num, HB2⟩
          case measure => simp [intOf]; omega
      · obtain rfl : i = p := by omega
        obtain rfl : j = i := by omega
        obtain ⟨b, o, y, rfl, hbB, hyk, _, c0, c1⟩ := (HX.out.below (hb.out.mono hB)).get (j := j) (by omega)
        have hy := inn_of hyk
        rw [HPX.out] at hy
        have hbw : b < wr.heap.size := by have := hb.out.size; omega
        have C1 := Lib.hid (cmp_any y x wr)
        rw [show y.inn - x = 0 by omega, show wrap64 0 = 0 from IntWalk.wrap64_in _ (by omega)] at C1
        clear hyk hy
        go_wp2_with fail
        refine C1.out.mono ?_
        rintro e w2 ⟨rfl, hb2⟩
        have HB2 : Hid (Below w.heap.size w w2) := hb.out.trans (hb2.mono hb.out.size)
        clear hb2 C1
        go_wp2
        go_ret2
        exact ⟨j, true, rfl, fun _ => ⟨by rw [hl.out]; exact hpn, HPX.out⟩, fun h => (by cases h), HB2.out⟩
  · have HNP : Hid (∀ j, j < n → innAt es j ≠ x) := fun j hj he => hp ⟨j, hj, he⟩
    have HS := Lib.hid hs
    clear hs hp
    go_enter Tryz.func103, Tryz.ntmps103
    go_wp2
    go_loopw [9, 10] (fun u v wr => ∃ i j : Nat, i ≤ j ∧ j ≤ n ∧ u = .int .i64 i ∧ v = .int .i64 j ∧ Hid (Below w.heap.size w wr)) (fun u v _ => (intOf v).toNat - (intOf u).toNat)
    case atStart => exact ⟨0, n, Nat.zero_le _, Nat.le_refl _, rfl, rfl, Below.refl _ _⟩
    case round =>
      obtain ⟨i, j, hij, hjn, rfl, rfl, hb⟩ := hrel
      by_cases hlt : i < j
      · obtain ⟨h, hh⟩ : ∃ h, (i + j) / 2 = h := ⟨_, rfl⟩
        have hh' : ((i : Int) + (j : Int)) / 2 = (h : Int) := by omega
        have hhj : h < j := by omega
        have hih : i ≤ h := by omega
        clear hh
        obtain ⟨b, o, y, rfl, hbB, hyk, _, c0, c1⟩ := (HX.out.below (hb.out.mono hB)).get (j := h) (by omega)
        have hbw : b < wr.heap.size := by have := hb.out.size; omega
        obtain ⟨d, hd⟩ : ∃ d, wrap64 (y.inn - x) = d := ⟨_, rfl⟩
        have C1 := Lib.hid (cmp_any y x wr)
        rw [hd] at C1
        clear hyk hd
        go_wp2_with fail
        refine C1.out.mono ?_
        rintro e w2 ⟨rfl, hb2⟩
        have HB2 : Hid (Below w.heap.size w w2) := hb.out.trans (hb2.mono hb.out.size)
        clear hb2 C1
        by_cases hlt2 : d < 0
        · go_wp2
          go_roundw
          case rel => exact ⟨h + 1, j, by omega, hjn, by go_num, rfl, HB2⟩
          case measure => simp [intOf]; omega
        · go_wp2
          go_roundw
          case rel => exact ⟨i, h, by omega, by omega, rfl, by go_num, HB2⟩
          case measure => simp [intOf]; omega
      · obtain rfl : j = i := by omega
        by_cases hjn2 : j < n
        · obtain ⟨b, o, y, rfl, hbB, hyk, _, c0, c1⟩ := (HX.out.below (hb.out.mono hB)).get (j := j) hjn2
          have hy := inn_of hyk
          have hbw : b < wr.heap.size := by have := hb.out.size; omega
          have hr1 := HS.out.rg j (by rw [hl.out]; omega)
          have hne := HNP.out j hjn2
          rw [hy] at hr1 hne
          obtain ⟨d, hd⟩ : ∃ d, wrap64 (y.inn - x) = d := ⟨_, rfl⟩
          have hd0 : d ≠ 0 := by
            rw [← hd]
            unfold wrap64
            omega
          have C1 := Lib.hid (cmp_any y x wr)
          rw [hd] at C1
          have dd : (d == 0) = false := by simp [hd0]
          clear hyk hd hy hd0 hne
          go_wp2_with fail
          refine C1.out.mono ?_
          rintro e w2 ⟨rfl, hb2⟩
          have HB2 : Hid (Below w.heap.size w w2) := hb.out.trans (hb2.mono hb.out.size)
          clear hb2 C1
          go_wp2
          go_ret2
          exact ⟨j, false, rfl, fun h => (by cases h), fun _ k hk => HNP.out k (by rw [← hl.out]; exact hk), HB2.out⟩
        · go_wp2
          go_ret2
          exact ⟨j, false, rfl, fun h => (by cases h), fun _ k hk => HNP.out k (by rw [← hl.out]; exact hk), hb.out⟩
end Go.Proofs.YtplppbgkkfjknaaGreatDoor
namespace Go.Proofs.YtplppbgkkfjknaaGreatDoor
open Go.RowKit
set_option maxRecDepth 100000

theorem Ints.prefix {w : World} {B : Nat} {k : IntKind} {A : Option Addr} {n c m : Nat} {xs : List Int} (h : Ints w B k A n c xs) (hm : m ≤ n) : Ints w B k A m c (xs.take m) := by
  obtain ⟨h1, h2, h3, h4⟩ := h
  have hl : xs.length = n := by simpa using h3
  refine ⟨by omega, h2, by simp; omega, fun h0 => ?_⟩
  obtain ⟨b, o, e, hb, hc⟩ := h4 (by omega)
  refine ⟨b, o, e, hb, fun j hj => ?_⟩
  rw [hc j (by omega), List.getElem?_map, List.getElem?_map, List.getElem?_take, if_pos (by omega)]

/-- the hops of a label -/
def look : List EV → Int → Option (List HV)
  | [], _ => none
  | e :: es, x => if e.inn = x then some e.hs else look es x
theorem look_none : ∀ {es : List EV} {x : Int}, (∀ j, j < es.length → innAt es j ≠ x) → look es x = none
  | [], _, _ => rfl
  | e :: es, x, h => by
    rw [look, if_neg (fun he => h 0 (by simp) (by simpa [innAt] using he))]
    exact look_none fun j hj => by
      have := h (j + 1) (by simpa using hj)
      simpa [innAt] using this
theorem look_at : ∀ {es : List EV} {x : Int} {i : Nat}, i < es.length → innAt es i = x → (∀ j, j < i → innAt es j ≠ x) → look es x = some (hsAt es i)
  | [], _, i, hi, _, _ => by simp at hi
  | e :: es, x, 0, _, he, _ => by
    have : e.inn = x := by simpa [innAt] using he
    rw [look, if_pos this]
    simp [hsAt]
  | e :: es, x, i + 1, hi, he, hj => by
    rw [look, if_neg (fun h => hj 0 (by omega) (by simpa [innAt] using h))]
    have := look_at (es := es) (x := x) (i := i) (by simpa using hi) (by simpa [innAt] using he) (fun j hji => by
      have := hj (j + 1) (by omega)
      simpa [innAt] using this)
    rw [this]
    simp [hsAt]
theorem look_sorted {es : List EV} (hs : Sorted es) {x : Int} {i : Nat} (hi : i < es.length) (he : innAt es i = x) : look es x = some (hsAt es i) :=
  look_at hi he fun j hj h => by
    have := hs.lt j i hj hi
    omega
/-- a table without an error -/
theorem sorted_of {es : List EV} (h : tabErr es = 0) : Sorted es ∧ es.length ≤ 2000 ∧ ∀ i, i < es.length → hopsErr (hsAt es i) = 0 := by
  unfold tabErr at h
  by_cases h0 : 2000 < es.length
  · rw [if_pos h0] at h; omega
  rw [if_neg h0] at h
  have hz := firstE_zero h
  have each : ∀ i, i < es.length → labOK (innAt es i) = true ∧ ¬ (0 < i ∧ innAt es i ≤ innAt es (i - 1)) ∧ hopsErr (hsAt es i) = 0 := by
    intro i hi
    have := hz i hi
    unfold entErr at this
    by_cases h1 : labOK (innAt es i) = false
    · rw [if_pos h1] at this; omega
    rw [if_neg h1] at this
    by_cases h2 : 0 < i ∧ innAt es i ≤ innAt es (i - 1)
    · rw [if_pos h2] at this; omega
    rw [if_neg h2] at this
    exact ⟨by simpa using h1, h2, this⟩
  refine ⟨⟨fun i j hij hj => ?_, fun i hi => ?_⟩, by omega, fun i hi => (each i hi).2.2⟩
  · obtain ⟨d, rfl⟩ : ∃ d, j = i + 1 + d := ⟨j - i - 1, by omega⟩
    clear hij
    induction d with
    | zero =>
      have := (each (i + 1) hj).2.1
      rw [Nat.add_sub_cancel] at this
      have h3 : ¬ innAt es (i + 1) ≤ innAt es i := fun h => this ⟨by omega, h⟩
      show innAt es i < innAt es (i + 1)
      omega
    | succ d ih =>
      have h3 := ih (by omega)
      have := (each (i + 1 + d + 1) hj).2.1
      rw [Nat.add_sub_cancel] at this
      have h4 : ¬ innAt es (i + 1 + d + 1) ≤ innAt es (i + 1 + d) := fun h => this ⟨by omega, h⟩
      show innAt es i < innAt es (i + 1 + d + 1)
      omega
  · have := (each i hi).1
    unfold labOK at this
    simp at this
    exact this
theorem hop_of {hs : List HV} (h : hopsErr hs = 0) : hs.length ≤ 64 ∧ ∀ (i : Nat) (x : HV), hs[i]? = some x → x.router ≠ 0 ∧ (x.label = -1 ∨ (16 ≤ x.label ∧ x.label ≤ 1048575)) := by
  unfold hopsErr at h
  by_cases h0 : 64 < hs.length
  · rw [if_pos h0] at h; omega
  rw [if_neg h0] at h
  refine ⟨by omega, fun i x hx => ?_⟩
  have hi := (List.getElem?_eq_some_iff.1 hx).1
  have := firstE_zero h i hi
  rw [hopErr_of hx] at this
  by_cases h1 : x.router = 0 ∨ (x.label ≠ -1 ∧ labOK x.label = false)
  · rw [if_pos h1] at this; omega
  · refine ⟨fun h => h1 (.inl h), ?_⟩
    by_cases h2 : x.label = -1
    · exact .inl h2
    · right
      cases h3 : labOK x.label
      · exact absurd (.inr ⟨h2, h3⟩) h1
      · unfold labOK at h3
        simp at h3
        exact h3
/-- the packet that leaves by a hop -/
def hopOut (p : PD) (h : HV) : PD := { p with ttl := p.ttl - 1, ls := if h.label = -1 then p.ls.dropLast else p.ls.dropLast ++ [h.label] }
/-- what happens to a packet with a label, in a table without an error -/
def stepR (es : List EV) (p : PD) : PD × Int × Int :=
  match look es (p.ls.getD (p.ls.length - 1) 0) with
  | none => (zeroPD, 0, 6)
  | some hs => if hs.length = 0 then ({ p with ls := p.ls.dropLast }, 0, 0) else if p.ttl ≤ 1 then (zeroPD, 0, 23) else (hopOut p ((hs[p.flow.toNat % hs.length]?).getD ⟨0, 0⟩), ((hs[p.flow.toNat % hs.length]?).getD ⟨0, 0⟩).router, 0)
/-- what Forward returns -/
def fwd (es : List EV) (p : PD) : PD × Int × Int := if tabErr es ≠ 0 then (zeroPD, 0, tabErr es) else if p.ls.length = 0 then (zeroPD, 0, 9) else stepR es p
theorem dropLast_take (ls : List Int) : ls.take (ls.length - 1) = ls.dropLast := by rw [List.dropLast_eq_take]

set_option maxHeartbeats 400000 in
theorem cloneOwn_any (A : Option Addr) (n c : Nat) (xs : List Int) (w : World) (hx : Ints w w.heap.size .i64 A n c xs) (hn : n ≤ 17592186044416) :
    Calls Tryz.prog 69 #[.slice A n c] w (GivesInts 3 .i64 n xs w) := by
  rcases A with _ | ad
  · have h0 : n = 0 := by
      rcases Nat.eq_zero_or_pos n with h | h
      · exact h
      · obtain ⟨_, _, h, _⟩ := hx.2.2.2 h
        cases h
    subst h0
    obtain rfl : xs = [] := List.eq_nil_of_length_eq_zero hx.len
    have he := Lib.run_eql_slice_nil (P := Tryz.prog) w 52 3 none 0 c 0 0 Tryz.underlying52
    clear hx
    go_enter Tryz.func69, Tryz.ntmps69
    go_wp2
    go_ret
    exact ⟨none, 0, rfl, Own.nil _ _ _ _, Below.refl _ _⟩
  · have he := Lib.run_eql_slice_nil (P := Tryz.prog) w 52 3 (some ad) n c 0 0 Tryz.underlying52
    have hown : Own (w.alloc (.cells #[] 3)) w.heap.size 3 .i64 (.slice (some ⟨w.heap.size, 0, none⟩) 0 0) 0 [] := World.ownsRow_lit w #[] 0 (Nat.le_refl _) (by simp [maxLen]) rfl
    have hx1 : Ints (w.alloc (.cells #[] 3)) w.heap.size .i64 (some ad) n c xs := hx.keep fun p hp => World.cell?_alloc_lt w _ p (by omega)
    obtain ⟨v1, w1, hrun, ho1, hg1, hat⟩ := Ints.append (P := Tryz.prog) (t := 52) (ty := 52) Tryz.underlying52 ints_info rfl hown hx1 (by simp only [maxLen]; omega) (by omega) (by simp)
    rw [Nat.zero_add, List.nil_append] at ho1
    have HR := Lib.hid hrun
    have HB := Lib.hid (((Below.refl w.heap.size w).alloc (Nat.le_refl _) _).grown hg1 (by simp) (by simp [Value.ownBlock]))
    obtain ⟨A2, c2, rfl⟩ := own_form ho1
    have HO := Lib.hid ho1
    clear hrun hg1 hat ho1 hown hx1 hx
    go_enter Tryz.func69, Tryz.ntmps69
    go_wp2_with (at_builtin; refine wpList_append_run rfl _ _ _ rfl rfl rfl HR.out ?_)
    go_ret
    exact ⟨A2, c2, rfl, HO.out, HB.out⟩

/-- a packet whose labels lie in new memory -/
def PkOwn (w : World) (base : Nat) (v : Value) (p : PD) : Prop := ∃ A n c, v = .agg #[.int .u32 p.src, .int .u32 p.dst, .int .u32 p.flow, .int .i64 p.ttl, .slice A n c] ∧ Own w base 3 .i64 (.slice A n c) n p.ls
theorem PkOwn.zero (w : World) (B : Nat) : PkOwn w B (.agg #[.int .u32 0, .int .u32 0, .int .u32 0, .int .i64 0, .slice none 0 0]) zeroPD := ⟨none, 0, 0, rfl, Own.nil _ _ _ _⟩
theorem PkOwn.at_ {w : World} {base : Nat} {v : Value} {p : PD} (h : PkOwn w base v p) : PkAt w w.heap.size v p := by
  obtain ⟨A, n, c, e, ho⟩ := h
  exact ⟨A, n, c, e, ho.ints⟩
/-- the call returns a packet, a router and an error -/
def GivesP3 (q : PD × Int × Int) (w : World) (e : Ending) (w' : World) : Prop := ∃ v, e = .returned (.tuple #[v, .int .u32 q.2.1, .int .i64 q.2.2]) ∧ PkOwn w' w.heap.size v q.1 ∧ Below w.heap.size w w'
end Go.Proofs.YtplppbgkkfjknaaGreatDoor
namespace Go.Proofs.YtplppbgkkfjknaaGreatDoor
open Go.RowKit
set_option maxRecDepth 100000

set_option linter.unusedVariables false
set_option linter.unusedSimpArgs false

theorem len_last {ls : List Int} {n : Nat} (h : ls.length = n) (hn : 0 < n) : (ls.dropLast).length = n - 1 := by rw [List.length_dropLast, h]
theorem own_low {w : World} {base b : Nat} {e : TypeId} {k : IntKind} {v : Value} {n : Nat} {xs : List Int} (h : Own w b e k v n xs) (hb : base ≤ b) : Own w base e k v n xs := own_mono h hb
theorem own_drew {w : World} {base : Nat} {e : TypeId} {k : IntKind} {v : Value} {n : Nat} {xs : List Int} (h : Own w base e k v n xs) : Own w.drew base e k v n xs := h
/-- what the statement 'if h.Label >= 0 ..' leaves -/
def AfterHop (w Z w5 : World) (h : HV) (lo : List Int) (s : Value) (W : World) : Prop :=
  ∃ A m c, s = .slice A m c ∧ Own W (w.heap.size + 2) 3 .i64 (.slice A m c) m lo ∧ Below (w.heap.size + 2) Z W ∧ W.cell? ⟨w5.heap.size, 0, none⟩ = some (.int .u32 h.router) ∧ w5.heap.size < W.heap.size
set_option linter.unusedSimpArgs false
set_option maxRecDepth 100000 in
set_option maxHeartbeats 4000000 in
theorem step_any (T A : Option Addr) (tn tc n c : Nat) (es : List EV) (p : PD) (w : World) (ht : Tab w w.heap.size T tn tc es) (hp : Ints w w.heap.size .i64 A n c p.ls) (he : tabErr es = 0) (h0 : 0 < n) (hn : n ≤ 17592186044416)
    (hw : ∀ x ∈ p.ls, -9223372036854775808 ≤ x ∧ x ≤ 9223372036854775807) (hf : 0 ≤ p.flow ∧ p.flow < 4294967296) (httl : -9223372036854775808 ≤ p.ttl ∧ p.ttl ≤ 9223372036854775807) :
    Calls Tryz.prog 72 #[.slice T tn tc, .agg #[.int .u32 p.src, .int .u32 p.dst, .int .u32 p.flow, .int .i64 p.ttl, .slice A n c]] w (GivesP3 (stepR es p) w) := by
  obtain ⟨src, dst, fl, ttl, ps⟩ := p
  dsimp only at hp hw hf httl ⊢
  obtain ⟨hsort, htl, hhops⟩ := sorted_of he
  have htn := ht.len
  have hlp := hp.len
  have hnc := hp.1
  obtain ⟨hf0, hf2⟩ := hf
  -- the last label
  obtain ⟨b, o, x, rfl, hbB, hc, hxx⟩ := hp.cell (j := n - 1) (by omega)
  have hxw : -9223372036854775808 ≤ x ∧ x ≤ 9223372036854775807 := by
    have hm : ps.getD (n - 1) 0 ∈ ps := by
      rw [List.getD_eq_getElem?_getD, List.getElem?_eq_getElem (by omega)]
      exact List.getElem_mem _
    rw [hxx] at hm
    exact hw _ hm
  have HSR : Hid (stepR es ⟨src, dst, fl, ttl, ps⟩ = match look es x with | none => (zeroPD, 0, 6) | some hs => if hs.length = 0 then (⟨src, dst, fl, ttl, ps.dropLast⟩, 0, 0) else if ttl ≤ 1 then (zeroPD, 0, 23) else (hopOut ⟨src, dst, fl, ttl, ps⟩ ((hs[fl.toNat % hs.length]?).getD ⟨0, 0⟩), ((hs[fl.toNat % hs.length]?).getD ⟨0, 0⟩).router, 0)) := by
    show _ = _
    unfold stepR
    simp only [hlp, hxx.out]
    all_goals rfl
  have HB0 : Hid (Below w.heap.size w ((w.alloc (.cells #[.int .u32 src, .int .u32 dst, .int .u32 fl, .int .i64 ttl, .slice (some ⟨b, o, none⟩) n c] 54)).alloc (.cells #[.int .u32 0, .int .u32 0, .int .u32 0, .int .i64 0, .slice none 0 0] 54))) := ((Below.refl _ _).alloc (Nat.le_refl _) _).alloc (by simp) _
  have HT := Lib.hid ht
  have HP := Lib.hid hp
  have HSo := Lib.hid hsort
  have HHop := Lib.hid hhops
  have HTN := Lib.hid htn
  have HLP := Lib.hid hlp
  have hws : IntKind.i64.wrap ((n : Int) - 1) = ((n - 1 : Nat) : Int) := by rw [IntWalk.i64_in _ (by omega)]; omega
  have hn1 : ((n : Int) - 1) = ((n - 1 : Nat) : Int) := by omega
  have htn2 : tn ≤ 2000 := by omega
  have hbw0 : b < w.heap.size := hbB
  clear ht hp hw he hsort hhops htn hlp hxx htl
  go_enter Tryz.func72, Tryz.ntmps72
  go_wp2_with fail
  refine (search_any T tn tc w.heap.size es x _ (HT.out.below HB0.out) HB0.out.size htn2 HSo.out hxw).mono ?_
  rintro e w3 ⟨i, fb, rfl, hyes, hno, hb3⟩
  have HZ : Hid (Below (w.heap.size + 2) ((w.alloc (.cells #[.int .u32 src, .int .u32 dst, .int .u32 fl, .int .i64 ttl, .slice (some ⟨b, o, none⟩) n c] 54)).alloc (.cells #[.int .u32 0, .int .u32 0, .int .u32 0, .int .i64 0, .slice none 0 0] 54)) w3) := hb3.mono (by simp)
  obtain ⟨⟨p0, p1, p2, p3, p4⟩, ⟨q0, q1, q2, q3, q4⟩, fz, fz1, hz, hz1⟩ := boxes HZ.out
  have HB3 : Hid (Below w.heap.size w w3) := HB0.out.trans (HZ.out.mono (by omega))
  clear hb3 hc
  cases fb with
  | false =>
    have HF : Hid (stepR es ⟨src, dst, fl, ttl, ps⟩ = (zeroPD, 0, 6)) := by show _ = _; rw [HSR.out, look_none (hno rfl)]
    clear hyes hno
    go_wp2
    refine bodyPost_ret (v := .tuple #[.agg #[.int .u32 0, .int .u32 0, .int .u32 0, .int .i64 0, .slice none 0 0], .int .u32 0, .int .i64 6]) (by simp [results, Tryz.results72, go_sem, q0, q1, q2, q3, q4, hz, hz1]) rfl ?_
    rw [HF.out]
    refine ⟨_, rfl, PkOwn.zero _ _, ?_⟩
    repeat refine Below.setCell ?_ (by simp) _
    exact HB3.out
  | true =>
    obtain ⟨hil, hix⟩ := hyes rfl
    have hlook := look_sorted HSo.out hil hix
    rw [HTN.out] at hil
    obtain ⟨b4, o4, y, rfl, hb4, hyk, hyh, d0, d1⟩ := (HT.out.below HB3.out).get hil
    have hyk' : hsAt es i = y.hs := by unfold hsAt; rw [hyk]; rfl
    rw [hyk'] at hlook
    have hh0 := HHop.out i (by rw [HTN.out]; exact hil)
    rw [hyk'] at hh0
    have hb4w : b4 < w3.heap.size := by have := HB3.out.size; omega
    obtain ⟨yi, yA, yn, yc, yhs⟩ := y
    dsimp only at *
    have hyl := hyh.len
    have HYH := Lib.hid hyh
    have HH0 := Lib.hid (hop_of hh0)
    have HYL := Lib.hid hyl
    have HLK := Lib.hid hlook
    have hil2 : i < tn := hil
    clear hyes hno hix hyk hyk' hlook hh0 hyh hyl hil
    go_wp2_with fail
    refine (cloneOwn_any (some ⟨b, o, none⟩) (n - 1) c (ps.take (n - 1)) w3 (((HP.out.prefix (by omega)).below HB3.out).more HB3.out.size) (by omega)).mono ?_
    rintro e w5 ⟨A5, c5, rfl, ho5, hb5⟩
    have HDL : Hid (ps.take (n - 1) = ps.dropLast) := by show _ = _; rw [← HLP.out, dropLast_take]
    rw [HDL.out] at ho5
    have HZ5 : Hid (Below (w.heap.size + 2) ((w.alloc (.cells #[.int .u32 src, .int .u32 dst, .int .u32 fl, .int .i64 ttl, .slice (some ⟨b, o, none⟩) n c] 54)).alloc (.cells #[.int .u32 0, .int .u32 0, .int .u32 0, .int .i64 0, .slice none 0 0] 54)) w5) := HZ.out.trans (hb5.mono (by omega))
    have HO5 := Lib.hid (show Own w5 (w.heap.size + 2) 3 .i64 _ _ _ from own_mono ho5 (by omega))
    have HYH5 : Hid (Hops w5 w.heap.size yA yn yc yhs) := HYH.out.below (hb5.mono (by omega))
    have HB5 : Hid (Below w.heap.size w w5) := HB0.out.trans (HZ5.out.mono (by omega))
    clear p0 p1 p2 p3 p4 q0 q1 q2 q3 q4 fz fz1 hz hz1 ho5 hb5 d0 d1 HYH HZ HB3 hb4w
    obtain ⟨⟨p0, p1, p2, p3, p4⟩, ⟨q0, q1, q2, q3, q4⟩, fz, fz1, hz, hz1⟩ := boxes HZ5.out
    by_cases hy0 : yn = 0
    · subst hy0
      have HF : Hid (stepR es ⟨src, dst, fl, ttl, ps⟩ = (⟨src, dst, fl, ttl, ps.dropLast⟩, 0, 0)) := by
        show _ = _
        rw [HSR.out, HLK.out]
        simp [HYL.out]
      go_wp2
      refine bodyPost_ret (v := .tuple #[.agg #[.int .u32 src, .int .u32 dst, .int .u32 fl, .int .i64 ttl, .slice A5 (n - 1) c5], .int .u32 0, .int .i64 0]) (by simp [results, Tryz.results72, go_sem, q0, q1, q2, q3, q4, hz, hz1]) rfl ?_
      rw [HF.out]
      refine ⟨_, rfl, ⟨A5, n - 1, c5, rfl, own_low (b := w.heap.size + 2) ?_ (by omega)⟩, ?_⟩
      · repeat refine Own.setBelow ?_ (by show _ < w.heap.size + 2; simp) _
        exact HO5.out
      · repeat refine Below.setCell ?_ (by simp) _
        exact HB5.out
    have dy : ((yn : Int) == 0) = false := by simp; omega
    by_cases ht1 : ttl ≤ 1
    · have HF : Hid (stepR es ⟨src, dst, fl, ttl, ps⟩ = (zeroPD, 0, 23)) := by
        show _ = _
        rw [HSR.out, HLK.out]
        simp [HYL.out, hy0, ht1]
      go_wp2
      refine bodyPost_ret (v := .tuple #[.agg #[.int .u32 0, .int .u32 0, .int .u32 0, .int .i64 0, .slice none 0 0], .int .u32 0, .int .i64 23]) (by simp [results, Tryz.results72, go_sem, q0, q1, q2, q3, q4, hz, hz1]) rfl ?_
      rw [HF.out]
      refine ⟨_, rfl, PkOwn.zero _ _, ?_⟩
      repeat refine Below.setCell ?_ (by simp) _
      exact HB5.out
    have hyn64 : (yn : Int) ≤ 64 := by have := HH0.out.1; rw [HYL.out] at this; omega
    have hy1 : (1 : Int) ≤ (yn : Int) := by omega
    obtain ⟨q, hq⟩ : ∃ q, fl.toNat % yn = q := ⟨_, rfl⟩
    have hqi : fl % (yn : Int) = (q : Int) := by
      rw [← hq]
      have h1 : (fl.toNat : Int) = fl := Int.toNat_of_nonneg hf0
      rw [Int.natCast_emod, h1]
    have hqn : q < yn := by rw [← hq]; exact Nat.mod_lt _ (by omega)
    obtain ⟨b6, o6, h, rfl, hb6, hhk, g0, g1⟩ := HYH5.out.get hqn
    obtain ⟨hr0, hlb⟩ := HH0.out.2 q h hhk
    have hb6w : b6 < w5.heap.size := by omega
    have HF : Hid (stepR es ⟨src, dst, fl, ttl, ps⟩ = (⟨src, dst, fl, ttl - 1, if h.label = -1 then ps.dropLast else ps.dropLast ++ [h.label]⟩, h.router, 0)) := by
      show _ = _
      rw [HSR.out, HLK.out]
      simp only [HYL.out, hq, hhk]
      rw [if_neg hy0, if_neg ht1]
      rfl
    have HQ := Lib.hid hq
    clear hhk hq hr0
    obtain ⟨lo, hlo⟩ : ∃ lo, (if h.label = -1 then ps.dropLast else ps.dropLast ++ [h.label]) = lo := ⟨_, rfl⟩
    rw [hlo] at HF
    have HLO := Lib.hid hlo
    clear hlo
    go_upto_if 63 with fail
    go_cut [11] (fun s wx => AfterHop w ((w.alloc (.cells #[.int .u32 src, .int .u32 dst, .int .u32 fl, .int .i64 ttl, .slice (some ⟨b, o, none⟩) n c] 54)).alloc (.cells #[.int .u32 0, .int .u32 0, .int .u32 0, .int .i64 0, .slice none 0 0] 54)) w5 h lo s wx)
    case first =>
      rcases hlb with hl1 | ⟨hl1, hl2⟩
      · have dl : decide (h.label ≥ 0) = false := by simp; omega
        have hl0 : h.label < 0 := by omega
        have hlo := HLO.out
        rw [if_pos hl1] at hlo
        subst hlo
        clear hl1
        go_wp2_with fail
        go_meet
        exact ⟨A5, n - 1, c5, rfl, HO5.out.alloc _, HZ5.out.alloc (by omega) _, by go_simp, by simp⟩
      · have dl : decide (h.label ≥ 0) = true := by simp; omega
        have hl0 : 0 ≤ h.label := by omega
        have hlo := HLO.out
        rw [if_neg (by omega)] at hlo
        subst hlo
        clear hl1 hl2
        have HL5 : Hid (∀ k, (Value.slice A5 (n - 1) c5).ownBlock = some k → k < w5.heap.size) := fun k hk => (World.ownsRow.lt HO5.out k hk).2
        go_wp2_with (at_builtin; refine wpList_append_int rfl _ _ rfl rfl rfl (by simp) Tryz.underlying52 ints_info rfl (HO5.out.alloc (.cells #[.int .u32 h.router, .int .i64 h.label] 105)) (HZ5.out.alloc (by omega) (.cells #[.int .u32 h.router, .int .i64 h.label] 105)) (Nat.le_refl _) (by simp; omega) (by omega) (by simp only [maxLen]; omega) ?_; intro v6 w6 h1 h2 hg6 hor6; have H1 := Lib.hid h1; have H2 := Lib.hid h2; have HG6 := Lib.hid hg6; clear h1 h2 hg6 hor6)
        go_meet
        obtain ⟨A6, c6, rfl⟩ := own_form H1.out
        refine ⟨A6, n - 1 + 1, c6, rfl, H1.out, H2.out, ?_, ?_⟩
        · refine (World.cell?_of_block (HG6.out.block _ (by (try simp) <;> omega) (fun e => absurd (HL5.out _ e.symm) (Nat.lt_irrefl _)))).trans ?_
          go_simp
        · have := HG6.out.size
          simp at this
          omega
    case rest =>
      obtain ⟨A6, m6, c6, rfl, ho6, hb6, e0, hz5⟩ := hcut
      clear p0 p1 p2 p3 p4 q0 q1 q2 q3 q4 fz fz1 hz hz1 g0 g1
      obtain ⟨⟨p0, p1, p2, p3, p4⟩, ⟨q0, q1, q2, q3, q4⟩, fz, fz1, hz, hz1⟩ := boxes hb6
      have HO6 := Lib.hid ho6
      have HB6 : Hid (Below w.heap.size w wc) := HB0.out.trans (hb6.mono (by omega))
      have hne : w5.heap.size ≠ w.heap.size := by have := HZ5.out.size; simp at this; omega
      have hne1 : w5.heap.size ≠ w.heap.size + 1 := by have := HZ5.out.size; simp at this; omega
      clear ho6 hb6
      go_wp2
      go_region
      go_wp2
      refine bodyPost_ret (v := .tuple #[.agg #[.int .u32 src, .int .u32 dst, .int .u32 fl, .int .i64 (ttl - 1), .slice A6 m6 c6], .int .u32 h.router, .int .i64 0]) (by simp [results, Tryz.results72, go_sem, q0, q1, q2, q3, q4, hz, hz1]) rfl ?_
      rw [HF.out]
      refine ⟨_, rfl, ⟨A6, m6, c6, rfl, own_low (b := w.heap.size + 2) ?_ (by omega)⟩, ?_⟩
      · repeat (first | with_reducible refine Own.setBelow ?_ (by show _ < w.heap.size + 2; simp) _ | with_reducible refine own_drew ?_)
        with_reducible exact HO6.out
      · repeat (first | with_reducible refine Below.setCell ?_ (by simp) _ | with_reducible refine Below.drew ?_)
        with_reducible exact HB6.out
end Go.Proofs.YtplppbgkkfjknaaGreatDoor
namespace Go.Proofs.YtplppbgkkfjknaaGreatDoor
open Go.RowKit
set_option maxRecDepth 100000

set_option linter.unusedVariables false
set_option linter.unusedSimpArgs false

/-- the two boxes, as one word -/
def Bx (w : World) (a0 a1 a2 a3 a4 b0 b1 b2 b3 b4 : Value) (W : World) : Prop :=
    (W.cell? ⟨w.heap.size, 0, none⟩ = some a0 ∧ W.cell? ⟨w.heap.size, 1, none⟩ = some a1 ∧ W.cell? ⟨w.heap.size, 2, none⟩ = some a2 ∧ W.cell? ⟨w.heap.size, 3, none⟩ = some a3 ∧ W.cell? ⟨w.heap.size, 4, none⟩ = some a4) ∧
    (W.cell? ⟨w.heap.size + 1, 0, none⟩ = some b0 ∧ W.cell? ⟨w.heap.size + 1, 1, none⟩ = some b1 ∧ W.cell? ⟨w.heap.size + 1, 2, none⟩ = some b2 ∧ W.cell? ⟨w.heap.size + 1, 3, none⟩ = some b3 ∧ W.cell? ⟨w.heap.size + 1, 4, none⟩ = some b4) ∧
    (∀ o, W.frozen? ⟨w.heap.size, o, none⟩ = false) ∧ (∀ o, W.frozen? ⟨w.heap.size + 1, o, none⟩ = false) ∧ w.heap.size < W.heap.size ∧ w.heap.size + 1 < W.heap.size
set_option linter.unusedSimpArgs false
set_option maxRecDepth 100000 in
set_option maxHeartbeats 4000000 in
theorem forward_any (T A : Option Addr) (tn tc n c : Nat) (es : List EV) (p : PD) (w : World) (ht : Tab w w.heap.size T tn tc es) (hlen : ∀ e ∈ es, e.n ≤ 140737488355328) (htn : tn ≤ 140737488355328) (hp : Ints w w.heap.size .i64 A n c p.ls) (hn : n ≤ 17592186044416)
    (hw : ∀ x ∈ p.ls, -9223372036854775808 ≤ x ∧ x ≤ 9223372036854775807) (hf : 0 ≤ p.flow ∧ p.flow < 4294967296) (httl : -9223372036854775808 ≤ p.ttl ∧ p.ttl ≤ 9223372036854775807) :
    Calls Tryz.prog 37 #[.slice T tn tc, .agg #[.int .u32 p.src, .int .u32 p.dst, .int .u32 p.flow, .int .i64 p.ttl, .slice A n c]] w (GivesP3 (fwd es p) w) := by
  obtain ⟨Z, hZ⟩ : ∃ Z, ((w.alloc (.cells #[.int .u32 p.src, .int .u32 p.dst, .int .u32 p.flow, .int .i64 p.ttl, .slice A n c] 54)).alloc (.cells #[.int .u32 0, .int .u32 0, .int .u32 0, .int .i64 0, .slice none 0 0] 54)) = Z := ⟨_, rfl⟩
  have HB0 : Hid (Below w.heap.size w Z) := by subst hZ; exact ((Below.refl _ _).alloc (Nat.le_refl _) _).alloc (by simp) _
  have HZS : Hid (w.heap.size + 2 ≤ Z.heap.size) := by subst hZ; show _ ≤ _; simp
  have HBX : Hid (∀ W, Below (w.heap.size + 2) Z W → Bx w (.int .u32 p.src) (.int .u32 p.dst) (.int .u32 p.flow) (.int .i64 p.ttl) (.slice A n c) (.int .u32 0) (.int .u32 0) (.int .u32 0) (.int .i64 0) (.slice none 0 0) W) := fun W h => by subst hZ; exact boxes h
  have HC := Lib.hid (check_anyL T tn tc w.heap.size es Z (ht.below HB0.out) HB0.out.size htn hlen)
  have hlp := hp.len
  have HF : Hid (fwd es p = if tabErr es ≠ 0 then (zeroPD, 0, tabErr es) else if n = 0 then (zeroPD, 0, 9) else stepR es p) := by show _ = _; unfold fwd; rw [hlp]
  have HST : Hid (∀ W, Below Z.heap.size Z W → tabErr es = 0 → 0 < n → Calls Tryz.prog 72 #[.slice T tn tc, .agg #[.int .u32 p.src, .int .u32 p.dst, .int .u32 p.flow, .int .i64 p.ttl, .slice A n c]] W (GivesP3 (stepR es p) W)) :=
    fun W h he h0 => step_any T A tn tc n c es p W ((ht.below (HB0.out.trans (h.mono HB0.out.size))).more (HB0.out.trans (h.mono HB0.out.size)).size) ((hp.below (HB0.out.trans (h.mono HB0.out.size))).more (HB0.out.trans (h.mono HB0.out.size)).size) he h0 hn hw hf httl
  obtain ⟨te, hte⟩ : ∃ te, tabErr es = te := ⟨_, rfl⟩
  rw [hte] at HC HF HST
  obtain ⟨src, dst, fl, ttl, ps⟩ := p
  dsimp only at *
  clear ht hlen htn hp hw hf httl hte hlp hn
  go_enter Tryz.func37, Tryz.ntmps37
  go_wp2_with fail
  refine HC.out.mono ?_
  rintro e w1 ⟨rfl, hb1⟩
  obtain ⟨⟨p0, p1, p2, p3, p4⟩, ⟨q0, q1, q2, q3, q4⟩, fz, fz1, hz, hz1⟩ := HBX.out w1 (hb1.mono HZS.out)
  have HB1 := Lib.hid hb1
  have HW1 : Hid (Below w.heap.size w w1) := HB0.out.trans (hb1.mono HB0.out.size)
  clear hb1 hZ
  by_cases he : te = 0
  · subst he
    by_cases h0 : n = 0
    · subst h0
      have HG : Hid (fwd es ⟨src, dst, fl, ttl, ps⟩ = (zeroPD, 0, 9)) := by show _ = _; rw [HF.out]; simp
      go_wp2
      refine bodyPost_ret (v := .tuple #[.agg #[.int .u32 0, .int .u32 0, .int .u32 0, .int .i64 0, .slice none 0 0], .int .u32 0, .int .i64 9]) (by simp [results, Tryz.results37, go_sem, q0, q1, q2, q3, q4, hz, hz1]) rfl ?_
      rw [HG.out]
      refine ⟨_, rfl, PkOwn.zero _ _, ?_⟩
      repeat with_reducible refine Below.setCell ?_ (by simp) _
      with_reducible exact HW1.out
    · have HG : Hid (fwd es ⟨src, dst, fl, ttl, ps⟩ = stepR es ⟨src, dst, fl, ttl, ps⟩) := by show _ = _; rw [HF.out]; simp [h0]
      have dn : ((n : Int) == 0) = false := by simp; omega
      go_wp2_with fail
      refine (HST.out w1 HB1.out trivial (by omega)).mono ?_
      rintro e w2 ⟨v, rfl, ⟨A2, n2, c2, rfl, ho2⟩, hb2⟩
      obtain ⟨⟨qd, qr, qe⟩, hqq⟩ : ∃ q, stepR es ⟨src, dst, fl, ttl, ps⟩ = q := ⟨_, rfl⟩
      rw [hqq] at HG ho2 ⊢
      obtain ⟨s2, d2, f2, t2, l2⟩ := qd
      dsimp only at *
      clear p0 p1 p2 p3 p4 q0 q1 q2 q3 q4 fz fz1 hz hz1 hqq
      obtain ⟨_, ⟨q0, q1, q2, q3, q4⟩, _, fz1, _, hz1⟩ := HBX.out w2 ((HB1.out.trans (hb2.mono HB1.out.size)).mono HZS.out)
      have HO2 : Hid (Own w2 (w.heap.size + 2) 3 .i64 (.slice A2 n2 c2) n2 l2) := own_low ho2 (Nat.le_trans HZS.out HB1.out.size)
      have HW2 : Hid (Below w.heap.size w w2) := HW1.out.trans (hb2.mono HW1.out.size)
      clear ho2 hb2
      go_wp2
      refine bodyPost_ret (v := .tuple #[.agg #[.int .u32 s2, .int .u32 d2, .int .u32 f2, .int .i64 t2, .slice A2 n2 c2], .int .u32 qr, .int .i64 qe]) (by simp [results, Tryz.results37, go_sem, q0, q1, q2, q3, q4, hz1]) rfl ?_
      rw [HG.out]
      refine ⟨_, rfl, ⟨A2, n2, c2, rfl, own_low (b := w.heap.size + 2) ?_ (by omega)⟩, ?_⟩
      · repeat (first | with_reducible refine Own.setBelow ?_ (by show _ < w.heap.size + 2; simp) _ | with_reducible refine own_drew ?_)
        with_reducible exact HO2.out
      · repeat (first | with_reducible refine Below.setCell ?_ (by simp) _ | with_reducible refine Below.drew ?_)
        with_reducible exact HW2.out
  · have HG : Hid (fwd es ⟨src, dst, fl, ttl, ps⟩ = (zeroPD, 0, te)) := by show _ = _; rw [HF.out, if_pos he]
    have d : (te != 0) = true := by simp [he]
    clear he
    go_wp2
    refine bodyPost_ret (v := .tuple #[.agg #[.int .u32 0, .int .u32 0, .int .u32 0, .int .i64 0, .slice none 0 0], .int .u32 0, .int .i64 te]) (by simp [results, Tryz.results37, go_sem, q0, q1, q2, q3, q4, hz, hz1]) rfl ?_
    rw [HG.out]
    refine ⟨_, rfl, PkOwn.zero _ _, ?_⟩
    repeat with_reducible refine Below.setCell ?_ (by simp) _
    with_reducible exact HW1.out
end Go.Proofs.YtplppbgkkfjknaaGreatDoor
