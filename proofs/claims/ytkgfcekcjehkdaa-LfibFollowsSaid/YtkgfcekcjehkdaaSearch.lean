/- slices.BinarySearchFunc over a table with the comparison of 'step'. -/
import Derived.Test.YtkgfcekcjehkdaaPush
namespace Go.Proofs.Ytkgfcekcjehkdaa
open Go.RowKit

set_option maxHeartbeats 400000 in
theorem cmp_any (x : EV) (n : Int) (w : World) :
    Calls Try.prog 34 #[.agg #[.int .i64 x.inn, .slice x.A x.n x.c], .int .i64 n] w fun e w' => e = .returned (.int .i64 (wrap64 (x.inn - n))) ∧ Below w.heap.size w w' := by
  go_enter Try.func34, Try.ntmps34
  go_wp2
  go_ret
  exact ⟨rfl, (Below.refl _ _).alloc (Nat.le_refl _) _⟩

/-- what the search returns: an index, and whether the label stands there -/
def Found (es : List EV) (x : Int) (w : World) (e : Ending) (w' : World) : Prop :=
  ∃ (i : Nat) (b : Bool), e = .returned (.tuple #[.int .i64 i, .bool b]) ∧ (b = true → i < es.length ∧ innAt es i = x) ∧ (b = false → ∀ j, j < es.length → innAt es j ≠ x) ∧ Below w.heap.size w w'
/-- a table without an error is sorted, and its labels are small -/
structure Sorted (es : List EV) : Prop where
  lt : ∀ i j, i < j → j < es.length → innAt es i < innAt es j
  rg : ∀ i, i < es.length → 16 ≤ innAt es i ∧ innAt es i ≤ 1048575

set_option maxHeartbeats 2000000 in
theorem search_any (A : Option Addr) (n c B : Nat) (es : List EV) (x : Int) (w : World) (hx : Tab w B A n c es) (hB : B ≤ w.heap.size) (hn : n ≤ 2000) (hs : Sorted es) (hw : -9223372036854775808 ≤ x ∧ x ≤ 9223372036854775807) :
    Calls Try.prog 33 #[.slice A n c, .int .i64 x, .func (.func 34) #[] #[]] w (Found es x w) := by
  have HX := Lib.hid hx
  have hl := Lib.hid hx.len
  clear hx
  by_cases hp : ∃ p, p < n ∧ innAt es p = x
  · obtain ⟨p, hpn, hpx⟩ := hp
    have HPX := Lib.hid hpx
    have HS := Lib.hid hs
    clear hpx hs
    go_enter Try.func33, Try.ntmps33
    go_wp2
    go_loopw [9, 10] (fun u v wr => ∃ i j : Nat, i ≤ p ∧ p ≤ j ∧ j ≤ n ∧ u = .int .i64 i ∧ v = .int .i64 j ∧ Hid (Below w.heap.size w wr)) (fun u v _ => (intOf v).toNat - (intOf u).toNat)
    case atStart => exact ⟨0, n, Nat.zero_le _, by omega, Nat.le_refl _, rfl, rfl, Below.refl _ _⟩
    case round =>
      obtain ⟨i, j, hi, hj, hjn, rfl, rfl, hb⟩ := hrel
      by_cases hlt : i < j
      · obtain ⟨h, hh⟩ : ∃ h, (i + j) / 2 = h := ⟨_, rfl⟩
        have hh' : ((i : Int) + (j : Int)) / 2 = (h : Int) := by omega
        have hhj : h < j := by omega
        have hih : i ≤ h := by omega
        clear hh
        obtain ⟨b, o, y, rfl, hbB, hyk, _, c0, c1⟩ := (HX.out.below (hb.out.mono hB)).get (j := h) (by omega)
        have hy := inn_of hyk
        have hr1 := HS.out.rg h (by rw [hl.out]; omega)
        have hr2 := HS.out.rg p (by rw [hl.out]; omega)
        rw [HPX.out] at hr2
        rw [hy] at hr1
        have hbw : b < wr.heap.size := by have := hb.out.size; omega
        have hwr : wrap64 (y.inn - x) = y.inn - x := IntWalk.wrap64_in _ (by omega)
        have HD : Hid ((y.inn - x < 0 → h + 1 ≤ p) ∧ (¬ y.inn - x < 0 → p ≤ h)) := by
          refine ⟨fun hlt2 => ?_, fun hge => ?_⟩
          · rcases Nat.lt_or_ge h p with h3 | h3
            · omega
            · rcases Nat.eq_or_lt_of_le h3 with h4 | h4
              · subst h4
                rw [← hy, HPX.out] at hlt2
                omega
              · have := HS.out.lt p h h4 (by rw [hl.out]; omega)
                rw [HPX.out, hy] at this
                omega
          · rcases Nat.lt_or_ge h p with h3 | h3
            · have := HS.out.lt h p h3 (by rw [hl.out]; omega)
              rw [HPX.out, hy] at this
              omega
            · omega
        have C1 := Lib.hid (cmp_any y x wr)
        rw [hwr] at C1
        clear hyk hy hwr
        go_wp2_with fail
        refine C1.out.mono ?_
        rintro e w2 ⟨rfl, hb2⟩
        have HB2 : Hid (Below w.heap.size w w2) := hb.out.trans (hb2.mono hb.out.size)
        clear hb2 C1
        by_cases hlt2 : y.inn - x < 0
        · have h1 := HD.out.1 hlt2
          have d : decide (y.inn - x < 0) = true := by simp; omega
          go_wp2
          go_roundw
          case rel => exact ⟨h + 1, j, h1, hj, hjn, by go_num, rfl, HB2⟩
          case measure => simp [intOf]; omega
        · have h1 := HD.out.2 (by omega)
          have d : decide (y.inn - x < 0) = false := by simp; omega
          go_wp2
          go_roundw
          case rel => exact ⟨i, h, hi, h1, by omega, rfl, by go_num, HB2⟩
          case measure => simp [intOf]; omega
      · obtain rfl : i = p := by omega
        obtain rfl : j = i := by omega
        obtain ⟨b, o, y, rfl, hbB, hyk, _, c0, c1⟩ := (HX.out.below (hb.out.mono hB)).get (j := j) (by omega)
        have hy := inn_of hyk
        rw [HPX.out] at hy
        have hbw : b < wr.heap.size := by have := hb.out.size; omega
        have C1 := Lib.hid (cmp_any y x wr)
        rw [show y.inn - x = 0 by omega, show wrap64 0 = 0 from IntWalk.wrap64_in _ (by omega)] at C1
        clear hyk hy
        go_wp2_with fail
        refine C1.out.mono ?_
        rintro e w2 ⟨rfl, hb2⟩
        have HB2 : Hid (Below w.heap.size w w2) := hb.out.trans (hb2.mono hb.out.size)
        clear hb2 C1
        go_wp2
        go_ret2
        exact ⟨j, true, rfl, fun _ => ⟨by rw [hl.out]; exact hpn, HPX.out⟩, fun h => (by cases h), HB2.out⟩
  · have HNP : Hid (∀ j, j < n → innAt es j ≠ x) := fun j hj he => hp ⟨j, hj, he⟩
    have HS := Lib.hid hs
    clear hs hp
    go_enter Try.func33, Try.ntmps33
    go_wp2
    go_loopw [9, 10] (fun u v wr => ∃ i j : Nat, i ≤ j ∧ j ≤ n ∧ u = .int .i64 i ∧ v = .int .i64 j ∧ Hid (Below w.heap.size w wr)) (fun u v _ => (intOf v).toNat - (intOf u).toNat)
    case atStart => exact ⟨0, n, Nat.zero_le _, Nat.le_refl _, rfl, rfl, Below.refl _ _⟩
    case round =>
      obtain ⟨i, j, hij, hjn, rfl, rfl, hb⟩ := hrel
      by_cases hlt : i < j
      · obtain ⟨h, hh⟩ : ∃ h, (i + j) / 2 = h := ⟨_, rfl⟩
        have hh' : ((i : Int) + (j : Int)) / 2 = (h : Int) := by omega
        have hhj : h < j := by omega
        have hih : i ≤ h := by omega
        clear hh
        obtain ⟨b, o, y, rfl, hbB, hyk, _, c0, c1⟩ := (HX.out.below (hb.out.mono hB)).get (j := h) (by omega)
        have hbw : b < wr.heap.size := by have := hb.out.size; omega
        obtain ⟨d, hd⟩ : ∃ d, wrap64 (y.inn - x) = d := ⟨_, rfl⟩
        have C1 := Lib.hid (cmp_any y x wr)
        rw [hd] at C1
        clear hyk hd
        go_wp2_with fail
        refine C1.out.mono ?_
        rintro e w2 ⟨rfl, hb2⟩
        have HB2 : Hid (Below w.heap.size w w2) := hb.out.trans (hb2.mono hb.out.size)
        clear hb2 C1
        by_cases hlt2 : d < 0
        · go_wp2
          go_roundw
          case rel => exact ⟨h + 1, j, by omega, hjn, by go_num, rfl, HB2⟩
          case measure => simp [intOf]; omega
        · go_wp2
          go_roundw
          case rel => exact ⟨i, h, by omega, by omega, rfl, by go_num, HB2⟩
          case measure => simp [intOf]; omega
      · obtain rfl : j = i := by omega
        by_cases hjn2 : j < n
        · obtain ⟨b, o, y, rfl, hbB, hyk, _, c0, c1⟩ := (HX.out.below (hb.out.mono hB)).get (j := j) hjn2
          have hy := inn_of hyk
          have hbw : b < wr.heap.size := by have := hb.out.size; omega
          have hr1 := HS.out.rg j (by rw [hl.out]; omega)
          have hne := HNP.out j hjn2
          rw [hy] at hr1 hne
          obtain ⟨d, hd⟩ : ∃ d, wrap64 (y.inn - x) = d := ⟨_, rfl⟩
          have hd0 : d ≠ 0 := by
            rw [← hd]
            unfold wrap64
            omega
          have C1 := Lib.hid (cmp_any y x wr)
          rw [hd] at C1
          have dd : (d == 0) = false := by simp [hd0]
          clear hyk hd hy hd0 hne
          go_wp2_with fail
          refine C1.out.mono ?_
          rintro e w2 ⟨rfl, hb2⟩
          have HB2 : Hid (Below w.heap.size w w2) := hb.out.trans (hb2.mono hb.out.size)
          clear hb2 C1
          go_wp2
          go_ret2
          exact ⟨j, false, rfl, fun h => (by cases h), fun _ k hk => HNP.out k (by rw [← hl.out]; exact hk), HB2.out⟩
        · go_wp2
          go_ret2
          exact ⟨j, false, rfl, fun h => (by cases h), fun _ k hk => HNP.out k (by rw [← hl.out]; exact hk), hb.out⟩
end Go.Proofs.Ytkgfcekcjehkdaa
