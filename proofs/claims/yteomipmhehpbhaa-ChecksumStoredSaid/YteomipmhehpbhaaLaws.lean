/- The seven laws of layer 4, each by the contracts of what it calls. -/
import Derived.Test.YteomipmhehpbhaaLives
import Derived.Test.YteomipmhehpbhaaOpen
import Derived.Test.YteomipmhehpbhaaLawMath
namespace Go.Proofs.Yteomipmhehpbhaa
open Go.RowKit

theorem below3 {w w1 w2 : World} (h1 : Below w.heap.size w w1) (h2 : Below w1.heap.size w1 w2) : Below w.heap.size w w2 := h1.trans (h2.mono h1.size)
theorem bytes_wf {xs : List Int} (h : ∀ x ∈ xs, (Lit.int .u8 x).wf = true) : Bytes xs := bytes_of_wf h

theorem checksumInternet_walk (A : Option Addr) (n c : Nat) (xs : List Int) (w : World) (hx : Ints w w.heap.size .u8 A n c xs) (hwf : ∀ x ∈ xs, (Lit.int .u8 x).wf = true) (hr : c * 1 ≤ 140737488351232) :
    Calls Try.prog 3 #[.slice A n c] w fun e w' => e = .returned (.bool true) ∧ Below w.heap.size w w' := by
  have hn : n ≤ 140737488355328 := by have := hx.1; omega
  have hb := bytes_wf hwf
  have H1 := Lib.hid (internet_any A n c _ xs w hx hb hn)
  have H2 := Lib.hid (refInternet_any A n c _ xs w hx hb hn)
  obtain ⟨y, hy⟩ : ∃ y, inet (wsum xs n) = y := ⟨_, rfl⟩
  rw [hy] at H1 H2
  clear hx hwf hb hy
  go_enter Try.func3, Try.ntmps3
  go_wp2_with fail
  refine H1.out.mono ?_
  rintro e w1 ⟨rfl, rfl⟩
  go_wp2_with fail
  refine H2.out.mono ?_
  rintro e w1 ⟨rfl, rfl⟩
  go_wp2_with fail
  refine (lives_any _).mono ?_
  rintro e w1 ⟨rfl, hb1⟩
  have HB := Lib.hid hb1
  clear hb1
  go_wp2
  go_ret
  exact ⟨rfl, HB.out⟩

theorem checksumHash_walk (A : Option Addr) (n c : Nat) (xs : List Int) (w : World) (hx : Ints w w.heap.size .u8 A n c xs) (_hwf : ∀ x ∈ xs, (Lit.int .u8 x).wf = true) (hr : c * 1 ≤ 140737488351232) :
    Calls Try.prog 6 #[.slice A n c] w fun e w' => e = .returned (.bool true) ∧ Below w.heap.size w w' := by
  have hn : n ≤ 140737488355328 := by have := hx.1; omega
  have H1 := Lib.hid (hash_any A n c _ xs w hx hn)
  have H2 := Lib.hid (refHash_any A n c _ xs w hx hn)
  obtain ⟨y, hy⟩ : ∃ y, hash xs n = y := ⟨_, rfl⟩
  rw [hy] at H1 H2
  clear hx hy
  go_enter Try.func6, Try.ntmps6
  go_wp2_with fail
  refine H1.out.mono ?_
  rintro e w1 ⟨rfl, rfl⟩
  go_wp2_with fail
  refine H2.out.mono ?_
  rintro e w1 ⟨rfl, rfl⟩
  go_wp2_with fail
  refine (lives_any _).mono ?_
  rintro e w1 ⟨rfl, hb1⟩
  have HB := Lib.hid hb1
  clear hb1
  go_wp2
  go_ret
  exact ⟨rfl, HB.out⟩

theorem checksumValid_walk (A : Option Addr) (n c : Nat) (xs : List Int) (w : World) (hx : Ints w w.heap.size .u8 A n c xs) (hwf : ∀ x ∈ xs, (Lit.int .u8 x).wf = true) (hr : c * 1 ≤ 140737488351232) :
    Calls Try.prog 5 #[.slice A n c] w fun e w' => e = .returned (.bool true) ∧ Below w.heap.size w w' := by
  have hn : n ≤ 140737488355328 := by have := hx.1; omega
  have hb := bytes_wf hwf
  have H1 := Lib.hid (valid_any A n c xs w hx hb hn)
  have H2 : Hid (∀ w1, Below w.heap.size w w1 → Calls Try.prog 16 #[.slice A n c] w1 fun e w' => e = .returned (.bool (valid xs n)) ∧ w1 = w') :=
    fun w1 h => refValid_any A n c w.heap.size xs w1 (hx.below h) hb hn
  obtain ⟨y, hy⟩ : ∃ y, valid xs n = y := ⟨_, rfl⟩
  rw [hy] at H1 H2
  clear hx hwf hb hy
  go_enter Try.func5, Try.ntmps5
  go_wp2_with fail
  refine H1.out.mono ?_
  rintro e w1 ⟨rfl, hb1⟩
  have HB := Lib.hid hb1
  clear hb1
  go_wp2_with fail
  refine (H2.out _ HB.out).mono ?_
  rintro e w2 ⟨rfl, rfl⟩
  go_wp2_with fail
  refine (lives_any _).mono ?_
  rintro e w2 ⟨rfl, hb2⟩
  have HB2 := Lib.hid hb2
  clear hb2
  go_wp2
  go_ret
  exact ⟨rfl, below3 HB.out HB2.out⟩

theorem checksumFletcher_walk (A : Option Addr) (n c : Nat) (xs : List Int) (i : Int) (w : World) (hx : Ints w w.heap.size .u8 A n c xs) (hwf : ∀ x ∈ xs, (Lit.int .u8 x).wf = true) (hr : c * 1 ≤ 140737488351232) (hi : (Lit.int .i64 i).wf = true) :
    Calls Try.prog 4 #[.slice A n c, .int .i64 i] w fun e w' => e = .returned (.bool true) ∧ Below w.heap.size w w' := by
  have hn : n ≤ 140737488355328 := by have := hx.1; omega
  have hb := bytes_wf hwf
  have H : Hid (∃ (v : Int) (b : Bool), (∀ w1, Below w.heap.size w w1 → Calls Try.prog 13 #[.slice A n c, .int .i64 i] w1 fun e w' => e = .returned (.tuple #[.int .i64 v, .bool b]) ∧ Below w1.heap.size w1 w') ∧
      (∀ w1, Below w.heap.size w w1 → Calls Try.prog 14 #[.slice A n c, .int .i64 i] w1 fun e w' => e = .returned (.tuple #[.int .i64 v, .bool b]) ∧ Below w1.heap.size w1 w')) := by
    by_cases h : i < 0 ∨ (n : Int) - 1 ≤ i
    · exact ⟨0, false, fun w1 _ => (fletcher_bad A n c i w1 hn h).mono fun e w' ⟨h1, h2⟩ => ⟨h1, by subst h2; exact Below.refl _ _⟩,
        fun w1 _ => (refFletcher_bad A n c i w1 hn h).mono fun e w' ⟨h1, h2⟩ => ⟨h1, by subst h2; exact Below.refl _ _⟩⟩
    · obtain ⟨m, rfl⟩ := Int.eq_ofNat_of_zero_le (show 0 ≤ i by omega)
      exact ⟨_, true, fun w1 h1 => fletcher_ok A n c m xs w1 ((hx.below h1).more h1.size) hb hn (by omega), fun w1 h1 => refFletcher_ok A n c m xs w1 ((hx.below h1).more h1.size) hb hn (by omega)⟩
  obtain ⟨v, b, h1, h2⟩ := H.out
  have H1 := Lib.hid h1
  have H2 := Lib.hid h2
  clear H h1 h2 hx hwf hb hi
  go_enter Try.func4, Try.ntmps4
  go_wp2_with fail
  refine (H1.out _ (Below.refl _ _)).mono ?_
  rintro e w1 ⟨rfl, hb1⟩
  have HB := Lib.hid hb1
  clear hb1
  go_wp2_with fail
  refine (H2.out _ HB.out).mono ?_
  rintro e w2 ⟨rfl, hb2⟩
  have HB2 := Lib.hid hb2
  clear hb2
  go_wp2_with fail
  refine (lives_any _).mono ?_
  rintro e w3 ⟨rfl, hb3⟩
  have HB3 := Lib.hid hb3
  clear hb3
  go_wp2
  go_ret
  exact ⟨rfl, below3 (below3 HB.out HB2.out) HB3.out⟩

theorem checksumStored_walk (A : Option Addr) (n c : Nat) (xs : List Int) (i : Int) (w : World) (hx : Ints w w.heap.size .u8 A n c xs) (hwf : ∀ x ∈ xs, (Lit.int .u8 x).wf = true) (hr : c * 1 ≤ 140737488351232) (_hi : (Lit.int .i64 i).wf = true) :
    Calls Try.prog 7 #[.slice A n c, .int .i64 i] w fun e w' => e = .returned (.bool true) ∧ Below w.heap.size w w' := by
  have hn : n ≤ 140737488355328 := by have := hx.1; omega
  have hb := bytes_wf hwf
  have hl := hx.len
  by_cases h : i < 0 ∨ (n : Int) - 1 ≤ i
  · have H1 := Lib.hid (sealed_bad A n c i w hn h)
    clear hx hwf hb
    by_cases h1 : i < 0
    · have d0 : decide (i < 0) = true := by simp [h1]
      clear h h1
      go_enter Try.func7, Try.ntmps7
      go_wp2_with fail
      refine H1.out.mono ?_
      rintro e w1 ⟨rfl, rfl⟩
      go_wp2_with fail
      refine (lives_any _).mono ?_
      rintro e w1 ⟨rfl, hb1⟩
      have HB := Lib.hid hb1
      clear hb1
      go_wp2
      go_ret
      exact ⟨rfl, HB.out⟩
    · have d0 : decide (i < 0) = false := by simp; omega
      have d1 : decide ((n : Int) - 1 ≤ i) = true := by simp; omega
      clear h h1
      go_enter Try.func7, Try.ntmps7
      go_wp2_with fail
      refine H1.out.mono ?_
      rintro e w1 ⟨rfl, rfl⟩
      go_wp2_with fail
      refine (lives_any _).mono ?_
      rintro e w1 ⟨rfl, hb1⟩
      have HB := Lib.hid hb1
      clear hb1
      go_wp2
      go_ret
      exact ⟨rfl, HB.out⟩
  · obtain ⟨m, rfl⟩ := Int.eq_ofNat_of_zero_le (show 0 ≤ i by omega)
    have hm : m + 1 < n := by omega
    have H1 := Lib.hid (sealed_ok A n c m xs w hx hb hn hm)
    have HV := Lib.hid (valid_sealed hl hm)
    have bd := cXY_bd xs n m
    have HY := Lib.hid (hb.with2 (v := 256 * cX xs n m + cY xs n m) (show m + 1 < xs.length by omega) (by omega) (by omega))
    clear hx hwf hb h bd hl
    go_enter Try.func7, Try.ntmps7
    go_wp2_with fail
    refine H1.out.mono ?_
    rintro e w1 ⟨A1, c1, rfl, ho, hb1⟩
    have HO := Lib.hid ho
    have HB := Lib.hid hb1
    clear ho hb1
    go_wp2_with fail
    refine (valid_any A1 n c1 _ w1 HO.out.ints HY.out hn).mono ?_
    rintro e w2 ⟨rfl, hb2⟩
    have HB2 := Lib.hid hb2
    clear hb2
    rw [HV.out]
    go_wp2_with fail
    refine (lives_any _).mono ?_
    rintro e w3 ⟨rfl, hb3⟩
    have HB3 := Lib.hid hb3
    clear hb3
    go_wp2
    go_ret
    exact ⟨rfl, below3 (below3 HB.out HB2.out) HB3.out⟩

/-- a copy of a slice of bytes, in new memory -/
theorem copy_bytes {w : World} {B n c : Nat} {A : Option Addr} {xs : List Int} (hx : Ints w B .u8 A n c xs) (hB : B ≤ w.heap.size) (hn : n ≤ 140737488355328) :
    ∃ v1 w1, Hid ((Builtin.append_ #[22, 22] 22 #[.slice (some ⟨w.heap.size, 0, none⟩) 0 0, .slice A n c]).run Try.prog (w.alloc (.cells #[] 5)) = .ok v1 w1) ∧ Own w1 w.heap.size 5 .u8 v1 n xs ∧ Below w.heap.size w w1 := by
  have hown : Own (w.alloc (.cells #[] 5)) w.heap.size 5 .u8 (.slice (some ⟨w.heap.size, 0, none⟩) 0 0) 0 [] := World.ownsRow_lit w #[] 0 (Nat.le_refl _) (by simp [maxLen]) rfl
  have hx1 : Ints (w.alloc (.cells #[] 5)) B .u8 A n c xs := hx.keep fun p hp => World.cell?_alloc_lt w _ p (by omega)
  obtain ⟨v1, w1, hrun, ho1, hg1, hat⟩ := Ints.append (P := Try.prog) (t := 22) (ty := 22) Try.underlying22 u8_info rfl hown hx1 (by simp only [maxLen]; omega) (by omega) (by simp)
  rw [Nat.zero_add, List.nil_append] at ho1
  exact ⟨v1, w1, hrun, ho1, ((Below.refl _ _).alloc (Nat.le_refl _) _).grown hg1 (by simp) (by simp [Value.ownBlock])⟩

set_option maxHeartbeats 2000000 in
theorem checksumDetects_walk (A : Option Addr) (n c : Nat) (xs : List Int) (pl i x : Int) (w : World) (hx : Ints w w.heap.size .u8 A n c xs) (hwf : ∀ x ∈ xs, (Lit.int .u8 x).wf = true) (hr : c * 1 ≤ 140737488351232) (_hi : (Lit.int .i64 pl).wf = true) (_hi2 : (Lit.int .i64 i).wf = true) (hxw : (Lit.int .u8 x).wf = true) :
    Calls Try.prog 8 #[.slice A n c, .int .i64 pl, .int .i64 i, .int .u8 x] w fun e w' => e = .returned (.bool true) ∧ Below w.heap.size w w' := by
  have hn : n ≤ 140737488355328 := by have := hx.1; omega
  have hb := bytes_wf hwf
  have hl := hx.len
  have hxb := bounds_u8 hxw
  by_cases h : pl < 0 ∨ (n : Int) - 1 ≤ pl
  · have H1 := Lib.hid (sealed_bad A n c pl w hn h)
    clear hx hwf hb
    by_cases h1 : pl < 0
    · have d0 : decide (pl < 0) = true := by simp [h1]
      clear h h1
      go_enter Try.func8, Try.ntmps8
      go_wp2_with fail
      refine (H1.out).mono ?_
      rintro e w1 ⟨rfl, rfl⟩
      go_wp2_with fail
      refine (lives_any _).mono ?_
      rintro e w1 ⟨rfl, hb1⟩
      have HB1 := Lib.hid hb1
      clear hb1
      go_wp2
      go_ret
      exact ⟨rfl, HB1.out⟩
    · have d0 : decide (pl < 0) = false := by simp; omega
      have d1 : decide ((n : Int) - 1 ≤ pl) = true := by simp; omega
      clear h h1
      go_enter Try.func8, Try.ntmps8
      go_wp2_with fail
      refine (H1.out).mono ?_
      rintro e w1 ⟨rfl, rfl⟩
      go_wp2_with fail
      refine (lives_any _).mono ?_
      rintro e w1 ⟨rfl, hb1⟩
      have HB1 := Lib.hid hb1
      clear hb1
      go_wp2
      go_ret
      exact ⟨rfl, HB1.out⟩
  · obtain ⟨m, rfl⟩ := Int.eq_ofNat_of_zero_le (show 0 ≤ pl by omega)
    have hm : m + 1 < n := by omega
    have H1 := Lib.hid (sealed_ok A n c m xs w hx hb hn hm)
    have HV := Lib.hid (valid_sealed hl hm)
    have bd := cXY_bd xs n m
    have HY : Hid (Bytes (sealedXs xs n m)) := hb.with2 (v := 256 * cX xs n m + cY xs n m) (show m + 1 < xs.length by omega) (by omega) (by omega)
    have hly : (sealedXs xs n m).length = n := by rw [sealedXs, with2_len, hl]
    obtain ⟨ys, hys⟩ : ∃ ys, sealedXs xs n m = ys := ⟨_, rfl⟩
    rw [hys] at H1 HV HY hly
    have HL := Lib.hid hly
    clear hx hwf hb h bd hl hys hly
    by_cases hin : i < 0 ∨ (n : Int) ≤ i
    · by_cases h1 : i < 0
      · have d0 : decide (i < 0) = true := by simp [h1]
        clear hin h1
        go_enter Try.func8, Try.ntmps8
        go_wp2_with fail
        refine (H1.out).mono ?_
        rintro e w1 ⟨A1, c1, rfl, ho, hb1⟩
        have HO := Lib.hid ho
        have HB1 := Lib.hid hb1
        clear ho hb1
        go_wp2_with fail
        refine (valid_any A1 n c1 _ w1 HO.out.ints HY.out hn).mono ?_
        rintro e w2 ⟨rfl, hb2⟩
        have HB2 := Lib.hid hb2
        clear hb2
        rw [HV.out]
        go_wp2_with fail
        refine (lives_any _).mono ?_
        rintro e w3 ⟨rfl, hb3⟩
        have HB3 := Lib.hid hb3
        clear hb3
        go_wp2
        go_ret
        exact ⟨rfl, below3 (below3 HB1.out HB2.out) HB3.out⟩
      · have d0 : decide (i < 0) = false := by simp; omega
        have d1 : decide ((n : Int) ≤ i) = true := by simp; omega
        clear hin h1
        go_enter Try.func8, Try.ntmps8
        go_wp2_with fail
        refine (H1.out).mono ?_
        rintro e w1 ⟨A1, c1, rfl, ho, hb1⟩
        have HO := Lib.hid ho
        have HB1 := Lib.hid hb1
        clear ho hb1
        go_wp2_with fail
        refine (valid_any A1 n c1 _ w1 HO.out.ints HY.out hn).mono ?_
        rintro e w2 ⟨rfl, hb2⟩
        have HB2 := Lib.hid hb2
        clear hb2
        rw [HV.out]
        go_wp2_with fail
        refine (lives_any _).mono ?_
        rintro e w3 ⟨rfl, hb3⟩
        have HB3 := Lib.hid hb3
        clear hb3
        go_wp2
        go_ret
        exact ⟨rfl, below3 (below3 HB1.out HB2.out) HB3.out⟩
    · obtain ⟨j, rfl⟩ := Int.eq_ofNat_of_zero_le (show 0 ≤ i by omega)
      have hj : j < n := by omega
      have d0 : decide ((j : Int) < 0) = false := by simp
      have d1 : decide ((n : Int) ≤ (j : Int)) = false := by simp; omega
      obtain ⟨y, hy⟩ : ∃ y, ys.getD j 0 = y := ⟨_, rfl⟩
      have HYJ := Lib.hid hy
      have hyb := HY.out j
      rw [hy] at hyb
      clear hin hy
      by_cases hxy : y = x
      · have d2 : (y == x) = true := by simp [hxy]
        clear hxy
        go_enter Try.func8, Try.ntmps8
        go_wp2_with fail
        refine (H1.out).mono ?_
        rintro e w1 ⟨A1, c1, rfl, ho, hb1⟩
        obtain ⟨g, cap, hv, hbg, hlt⟩ := ho.form (by omega)
        simp only [Value.slice.injEq, true_and] at hv
        obtain ⟨rfl, rfl⟩ := hv
        have hc := ho.cell hj
        rw [HYJ.out] at hc
        have HO := Lib.hid ho
        have HB1 := Lib.hid hb1
        clear ho hb1
        go_wp2_with fail
        refine (valid_any _ n c1 _ w1 HO.out.ints HY.out hn).mono ?_
        rintro e w2 ⟨rfl, hb2⟩
        have HB2 := Lib.hid hb2
        clear hb2
        rw [HV.out]
        go_wp2_with fail
        refine (lives_any _).mono ?_
        rintro e w3 ⟨rfl, hb3⟩
        have HB3 := Lib.hid hb3
        clear hb3
        go_wp2
        go_ret
        exact ⟨rfl, below3 (below3 HB1.out HB2.out) HB3.out⟩
      · have d2 : (y == x) = false := by simp [hxy]
        have HN1 := Lib.hid (inet_set HY.out HL.out hj (by rw [HYJ.out]; exact hxy) hxb.1 hxb.2)
        have HN2 : Hid (¬ (y = 0 ∧ x = 255 ∨ y = 255 ∧ x = 0) → valid (ys.set j x) n = false) := fun h => not_valid HY.out HL.out hj HV.out (by rw [HYJ.out]; exact hxy) hxb.1 hxb.2 (by rw [HYJ.out]; exact h)
        obtain ⟨p, hp⟩ : ∃ p, inet (wsum ys n) = p := ⟨_, rfl⟩
        obtain ⟨q, hq⟩ : ∃ q, inet (wsum (ys.set j x) n) = q := ⟨_, rfl⟩
        have HY2 := Lib.hid (HY.out.set (i := j) (by rw [HL.out]; exact hj) hxb.1 hxb.2)
        have I1 : Hid (∀ A' c' B w', Ints w' B .u8 A' n c' ys → Calls Try.prog 10 #[.slice A' n c'] w' fun e w'' => e = .returned (.int .i64 p) ∧ w' = w'') := by
          intro A' c' B w' h
          rw [← hp]
          exact internet_any A' n c' B ys w' h HY.out hn
        have I2 : Hid (∀ A' c' B w', Ints w' B .u8 A' n c' (ys.set j x) → Calls Try.prog 10 #[.slice A' n c'] w' fun e w'' => e = .returned (.int .i64 q) ∧ w' = w'') := by
          intro A' c' B w' h
          rw [← hq]
          exact internet_any A' n c' B _ w' h HY2.out hn
        have dpq : (p == q) = false := by rw [← hp, ← hq]; simpa using HN1.out
        clear hxy hp hq HN1
        go_enter Try.func8, Try.ntmps8
        go_wp2_with fail
        refine (H1.out).mono ?_
        rintro e w1 ⟨A1, c1, rfl, ho, hb1⟩
        obtain ⟨g, cap, hv, hbg, hlt⟩ := ho.form (by omega)
        simp only [Value.slice.injEq, true_and] at hv
        obtain ⟨rfl, rfl⟩ := hv
        have hc := ho.cell hj
        rw [HYJ.out] at hc
        obtain ⟨v2, w2, HR, ho2, hb2⟩ := copy_bytes ho.ints (Nat.le_refl _) hn
        obtain ⟨g2, cap2, rfl, hbg2, hlt2⟩ := ho2.form (by omega)
        have hc2 := ho2.cell hj
        rw [HYJ.out] at hc2
        have f2 := ho2.frozen j
        have hcg : w2.cell? ⟨g, j, none⟩ = some (.int .u8 y) := (hb2.cell (p := ⟨g, j, none⟩) hlt).trans hc
        have hne : g ≠ g2 := by omega
        have HB1 := Lib.hid hb1
        have HB2 := Lib.hid (hb2.setCell (p := ⟨g2, j, none⟩) hbg2 (.int .u8 x))
        have HO2 := Lib.hid (ho2.set j x)
        have HC := Lib.hid (ho.ints.below HB2.out)
        clear ho hb1 ho2 hb2
        go_wp2_with (at_builtin; refine wpList_append_run rfl _ _ _ rfl rfl rfl HR.out ?_)
        refine (I1.out _ _ _ _ HC.out).mono ?_
        rintro e w' ⟨rfl, rfl⟩
        go_wp2_with fail
        refine (I2.out _ _ _ _ HO2.out.ints).mono ?_
        rintro e w' ⟨rfl, rfl⟩
        by_cases y0 : y = 0
        · have e0 : (y == 0) = true := by simp [y0]
          have e0' : (y == 255) = false := by simp; omega
          by_cases x1 : x = 255
          · have e1 : (x == 255) = true := by simp [x1]
            clear y0 x1
            go_wp2_with fail
            refine (lives_any _).mono ?_
            rintro e w5 ⟨rfl, hb5⟩
            have HB5 := Lib.hid hb5
            clear hb5
            go_wp2
            go_ret
            exact ⟨rfl, below3 (below3 HB1.out HB2.out) HB5.out⟩
          · have e1 : (x == 255) = false := by simp [x1]
            have HW : valid (ys.set j x) n = false := HN2.out (by omega)
            clear y0 x1
            go_wp2_with fail
            refine (valid_any _ n _ _ _ (HC.out.more HB2.out.size) HY.out hn).mono ?_
            rintro e w3 ⟨rfl, hb3⟩
            rw [HV.out]
            have HB3 := Lib.hid hb3
            clear hb3
            go_wp2_with fail
            refine (valid_any _ n _ _ w3 ((HO2.out.ints.below HB3.out).more HB3.out.size) HY2.out hn).mono ?_
            rintro e w4 ⟨rfl, hb4⟩
            rw [HW]
            clear HW
            have HB4 := Lib.hid hb4
            clear hb4
            go_wp2_with fail
            refine (lives_any _).mono ?_
            rintro e w5 ⟨rfl, hb5⟩
            have HB5 := Lib.hid hb5
            clear hb5
            go_wp2
            go_ret
            exact ⟨rfl, below3 (below3 (below3 (below3 HB1.out HB2.out) HB3.out) HB4.out) HB5.out⟩
        · have e0 : (y == 0) = false := by simp [y0]
          by_cases y1 : y = 255
          · have e2 : (y == 255) = true := by simp [y1]
            by_cases x0 : x = 0
            · have e3 : (x == 0) = true := by simp [x0]
              clear y0 y1 x0
              go_wp2_with fail
              refine (lives_any _).mono ?_
              rintro e w5 ⟨rfl, hb5⟩
              have HB5 := Lib.hid hb5
              clear hb5
              go_wp2
              go_ret
              exact ⟨rfl, below3 (below3 HB1.out HB2.out) HB5.out⟩
            · have e3 : (x == 0) = false := by simp [x0]
              have HW : valid (ys.set j x) n = false := HN2.out (by omega)
              clear y0 y1 x0
              go_wp2_with fail
              refine (valid_any _ n _ _ _ (HC.out.more HB2.out.size) HY.out hn).mono ?_
              rintro e w3 ⟨rfl, hb3⟩
              rw [HV.out]
              have HB3 := Lib.hid hb3
              clear hb3
              go_wp2_with fail
              refine (valid_any _ n _ _ w3 ((HO2.out.ints.below HB3.out).more HB3.out.size) HY2.out hn).mono ?_
              rintro e w4 ⟨rfl, hb4⟩
              rw [HW]
              clear HW
              have HB4 := Lib.hid hb4
              clear hb4
              go_wp2_with fail
              refine (lives_any _).mono ?_
              rintro e w5 ⟨rfl, hb5⟩
              have HB5 := Lib.hid hb5
              clear hb5
              go_wp2
              go_ret
              exact ⟨rfl, below3 (below3 (below3 (below3 HB1.out HB2.out) HB3.out) HB4.out) HB5.out⟩
          · have e2 : (y == 255) = false := by simp [y1]
            have HW : valid (ys.set j x) n = false := HN2.out (by omega)
            clear y0 y1
            go_wp2_with fail
            refine (valid_any _ n _ _ _ (HC.out.more HB2.out.size) HY.out hn).mono ?_
            rintro e w3 ⟨rfl, hb3⟩
            rw [HV.out]
            have HB3 := Lib.hid hb3
            clear hb3
            go_wp2_with fail
            refine (valid_any _ n _ _ w3 ((HO2.out.ints.below HB3.out).more HB3.out.size) HY2.out hn).mono ?_
            rintro e w4 ⟨rfl, hb4⟩
            rw [HW]
            clear HW
            have HB4 := Lib.hid hb4
            clear hb4
            go_wp2_with fail
            refine (lives_any _).mono ?_
            rintro e w5 ⟨rfl, hb5⟩
            have HB5 := Lib.hid hb5
            clear hb5
            go_wp2
            go_ret
            exact ⟨rfl, below3 (below3 (below3 (below3 HB1.out HB2.out) HB3.out) HB4.out) HB5.out⟩
end Go.Proofs.Yteomipmhehpbhaa
