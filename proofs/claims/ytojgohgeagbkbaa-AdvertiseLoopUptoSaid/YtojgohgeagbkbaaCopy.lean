/- Copies: slices.Clone of numbers, of segments, of fields; duplicate. -/
import Derived.Test.YtojgohgeagbkbaaU32
import Derived.Test.YtojgohgeagbkbaaSeqs
import Derived.OwnWalk
namespace Go.Proofs.Ytojgohgeagbkbaa
open Go.RowKit

theorem byte_info : (Try.prog.info? 5).map (fun i => (i.zero, i.size, i.bytes)) = some (some (.int .u8 0), 1, 1) := by kernel_rfl
theorem tlv_info : (Try.prog.info? 88).map (fun i => (i.zero, i.size, i.bytes)) = some (some (.agg #[.int .i64 0, .slice none 0 0]), 2, 32) := by kernel_rfl
/-- the numbers of a slice lie from block lo on -/
def Above (lo : Nat) (A : Option Addr) (n : Nat) : Prop := 0 < n → ∀ ad, A = some ad → lo ≤ ad.block
/-- the call returns a slice in new memory that reads as xs -/
def GivesNew (k : IntKind) (n : Nat) (xs : List Int) (w : World) (e : Ending) (w' : World) : Prop :=
  ∃ A c, e = .returned (.slice A n c) ∧ Ints w' w'.heap.size k A n c xs ∧ Above w.heap.size A n ∧ Below w.heap.size w w'
theorem above_own {w : World} {base n c : Nat} {e : TypeId} {k : IntKind} {A : Option Addr} {xs : List Int} (h : Own w base e k (.slice A n c) n xs) : Above base A n := by
  intro hn ad ha
  exact (World.ownsRow.lt h ad.block (by rw [ha]; rfl)).1
theorem above_row {w : World} {base size n c : Nat} {e : TypeId} {A : Option Addr} {xs : List Value} (h : w.ownsRow base e size (.slice A n c) n xs) : Above base A n := by
  intro hn ad ha
  exact (World.ownsRow.lt h ad.block (by rw [ha]; rfl)).1
set_option maxHeartbeats 400000 in
theorem cloneInts_any (A : Option Addr) (n c B : Nat) (xs : List Int) (w : World) (hx : Ints w B .i64 A n c xs) (hB : B ≤ w.heap.size) (hn : n ≤ 17592186044416) :
    Calls Try.prog 79 #[.slice A n c] w (GivesNew .i64 n xs w) := by
  rcases A with _ | ad
  · have h0 : n = 0 := by
      rcases Nat.eq_zero_or_pos n with h | h
      · exact h
      · obtain ⟨_, _, h, _⟩ := hx.2.2.2 h
        cases h
    subst h0
    obtain rfl : xs = [] := List.eq_nil_of_length_eq_zero hx.len
    have he := Lib.run_eql_slice_nil (P := Try.prog) w 52 3 none 0 c 0 0 Try.underlying52
    clear hx
    go_enter Try.func79, Try.ntmps79
    go_wp2
    go_ret
    exact ⟨none, 0, rfl, Ints.nil _ _ _, fun h => absurd h (by omega), Below.refl _ _⟩
  · have he := Lib.run_eql_slice_nil (P := Try.prog) w 52 3 (some ad) n c 0 0 Try.underlying52
    have hown : Own (w.alloc (.cells #[] 3)) w.heap.size 3 .i64 (.slice (some ⟨w.heap.size, 0, none⟩) 0 0) 0 [] := World.ownsRow_lit (base := w.heap.size) (size := 1) w #[] 0 (Nat.le_refl _) (by simp [maxLen]) rfl
    have hba := belowA w (.cells #[] 3)
    have hx1 : Ints (w.alloc (.cells #[] 3)) B .i64 (some ad) n c xs := hx.below (hba.mono hB)
    obtain ⟨v1, w1, hrun, ho1, hg1, hat⟩ := Ints.append (P := Try.prog) (t := 52) (ty := 52) Try.underlying52 int_info rfl hown hx1 (by simp only [maxLen]; omega) (by omega) hba.size
    rw [Nat.zero_add, List.nil_append] at ho1
    have HR := Lib.hid hrun
    have HB := Lib.hid (hba.grown hg1 hba.size (by simp [Value.ownBlock]))
    obtain ⟨A2, c2, rfl⟩ := own_form ho1
    have HO := Lib.hid ho1
    clear hrun hg1 hat ho1 hown hx1 hx hba
    go_enter Try.func79, Try.ntmps79
    go_wp2_with (at_builtin; refine wpList_append_run rfl _ _ _ rfl rfl rfl HR.out ?_)
    go_ret
    exact ⟨A2, c2, rfl, HO.out.ints, above_own HO.out, HB.out⟩
set_option maxHeartbeats 400000 in
theorem cloneU32_any (A : Option Addr) (n c B : Nat) (xs : List Int) (w : World) (hx : Ints w B .u32 A n c xs) (hB : B ≤ w.heap.size) (hn : n ≤ 17592186044416) :
    Calls Try.prog 80 #[.slice A n c] w (GivesNew .u32 n xs w) := by
  rcases A with _ | ad
  · have h0 : n = 0 := by
      rcases Nat.eq_zero_or_pos n with h | h
      · exact h
      · obtain ⟨_, _, h, _⟩ := hx.2.2.2 h
        cases h
    subst h0
    obtain rfl : xs = [] := List.eq_nil_of_length_eq_zero hx.len
    have he := Lib.run_eql_slice_nil (P := Try.prog) w 37 22 none 0 c 0 0 Try.underlying37
    clear hx
    go_enter Try.func80, Try.ntmps80
    go_wp2
    go_ret
    exact ⟨none, 0, rfl, Ints.nil _ _ _, fun h => absurd h (by omega), Below.refl _ _⟩
  · have he := Lib.run_eql_slice_nil (P := Try.prog) w 37 22 (some ad) n c 0 0 Try.underlying37
    have hown : Own (w.alloc (.cells #[] 22)) w.heap.size 22 .u32 (.slice (some ⟨w.heap.size, 0, none⟩) 0 0) 0 [] := World.ownsRow_lit (base := w.heap.size) (size := 1) w #[] 0 (Nat.le_refl _) (by simp [maxLen]) rfl
    have hba := belowA w (.cells #[] 22)
    have hx1 : Ints (w.alloc (.cells #[] 22)) B .u32 (some ad) n c xs := hx.below (hba.mono hB)
    obtain ⟨v1, w1, hrun, ho1, hg1, hat⟩ := Ints.append (P := Try.prog) (t := 37) (ty := 37) Try.underlying37 u32_info rfl hown hx1 (by simp only [maxLen]; omega) (by omega) hba.size
    rw [Nat.zero_add, List.nil_append] at ho1
    have HR := Lib.hid hrun
    have HB := Lib.hid (hba.grown hg1 hba.size (by simp [Value.ownBlock]))
    obtain ⟨A2, c2, rfl⟩ := own_form ho1
    have HO := Lib.hid ho1
    clear hrun hg1 hat ho1 hown hx1 hx hba
    go_enter Try.func80, Try.ntmps80
    go_wp2_with (at_builtin; refine wpList_append_run rfl _ _ _ rfl rfl rfl HR.out ?_)
    go_ret
    exact ⟨A2, c2, rfl, HO.out.ints, above_own HO.out, HB.out⟩
set_option maxHeartbeats 400000 in
theorem cloneBytes_any (A : Option Addr) (n c B : Nat) (xs : List Int) (w : World) (hx : Ints w B .u8 A n c xs) (hB : B ≤ w.heap.size) (hn : n ≤ 17592186044416) :
    Calls Try.prog 82 #[.slice A n c] w (GivesNew .u8 n xs w) := by
  rcases A with _ | ad
  · have h0 : n = 0 := by
      rcases Nat.eq_zero_or_pos n with h | h
      · exact h
      · obtain ⟨_, _, h, _⟩ := hx.2.2.2 h
        cases h
    subst h0
    obtain rfl : xs = [] := List.eq_nil_of_length_eq_zero hx.len
    have he := Lib.run_eql_slice_nil (P := Try.prog) w 86 5 none 0 c 0 0 Try.underlying86
    clear hx
    go_enter Try.func82, Try.ntmps82
    go_wp2
    go_ret
    exact ⟨none, 0, rfl, Ints.nil _ _ _, fun h => absurd h (by omega), Below.refl _ _⟩
  · have he := Lib.run_eql_slice_nil (P := Try.prog) w 86 5 (some ad) n c 0 0 Try.underlying86
    have hown : Own (w.alloc (.cells #[] 5)) w.heap.size 5 .u8 (.slice (some ⟨w.heap.size, 0, none⟩) 0 0) 0 [] := World.ownsRow_lit (base := w.heap.size) (size := 1) w #[] 0 (Nat.le_refl _) (by simp [maxLen]) rfl
    have hba := belowA w (.cells #[] 5)
    have hx1 : Ints (w.alloc (.cells #[] 5)) B .u8 (some ad) n c xs := hx.below (hba.mono hB)
    obtain ⟨v1, w1, hrun, ho1, hg1, hat⟩ := Ints.append (P := Try.prog) (t := 86) (ty := 86) Try.underlying86 byte_info rfl hown hx1 (by simp only [maxLen]; omega) (by omega) hba.size
    rw [Nat.zero_add, List.nil_append] at ho1
    have HR := Lib.hid hrun
    have HB := Lib.hid (hba.grown hg1 hba.size (by simp [Value.ownBlock]))
    obtain ⟨A2, c2, rfl⟩ := own_form ho1
    have HO := Lib.hid ho1
    clear hrun hg1 hat ho1 hown hx1 hx hba
    go_enter Try.func82, Try.ntmps82
    go_wp2_with (at_builtin; refine wpList_append_run rfl _ _ _ rfl rfl rfl HR.out ?_)
    go_ret
    exact ⟨A2, c2, rfl, HO.out.ints, above_own HO.out, HB.out⟩
theorem vals_one (fs : List SV) : ∀ u ∈ fs.flatMap SV.vals, u.oneCell' = true := by
  intro u hu
  obtain ⟨t, _, ht⟩ := List.mem_flatMap.1 hu
  simp only [SV.vals, List.mem_cons, List.not_mem_nil, or_false] at ht
  rcases ht with rfl | rfl <;> rfl
/-- a row of records of the call's own, or an empty slice -/
def GivesRow (T : TypeId) (n : Nat) (fs : List SV) (w : World) (e : Ending) (w' : World) : Prop :=
  ∃ A c, e = .returned (.slice A n c) ∧ (0 < n → ∃ g, A = some ⟨g, 0, none⟩ ∧ w'.ownsRow w.heap.size T 2 (.slice (some ⟨g, 0, none⟩) n c) n (fs.flatMap SV.vals)) ∧ n ≤ c ∧ c ≤ maxLen ∧ Below w.heap.size w w'
set_option maxHeartbeats 400000 in
theorem cloneSegs_any (A : Option Addr) (n c B : Nat) (fs : List SV) (w : World) (hx : Recs w B 2 A n c SV.vals fs) (hB : B ≤ w.heap.size) (hn : n ≤ 1000000000) :
    Calls Try.prog 78 #[.slice A n c] w (GivesRow 75 n fs w) := by
  rcases A with _ | ad
  · have h0 : n = 0 := by
      rcases Nat.eq_zero_or_pos n with h | h
      · exact h
      · obtain ⟨_, _, h, _⟩ := hx.1.2.2.2 h
        cases h
    subst h0
    have he := Lib.run_eql_slice_nil (P := Try.prog) w 35 75 none 0 c 0 0 Try.underlying35
    clear hx
    go_enter Try.func78, Try.ntmps78
    go_wp2
    go_ret
    exact ⟨none, 0, rfl, fun h => absurd h (by omega), Nat.le_refl _, by simp [maxLen], Below.refl _ _⟩
  · have he := Lib.run_eql_slice_nil (P := Try.prog) w 35 75 (some ad) n c 0 0 Try.underlying35
    have hown : (w.alloc (.cells #[] 75)).ownsRow w.heap.size 75 2 (.slice (some ⟨w.heap.size, 0, none⟩) 0 0) 0 [] := World.ownsRow_lit w #[] 0 (Nat.le_refl _) (by simp [maxLen]) rfl
    have hba := belowA w (.cells #[] 75)
    have hx1 : Cells (w.alloc (.cells #[] 75)) B 2 (some ad) n c (fs.flatMap SV.vals) := hx.1.below (hba.mono hB)
    obtain ⟨v1, w1, hrun, ho1, hg1, hat⟩ := Cells.append (P := Try.prog) (t := 35) (ty := 35) Try.underlying35 seg_info rfl (by omega) hown hx1 (vals_one fs) (by simp only [maxLen]; omega) (by omega) hba.size
    rw [Nat.zero_add, List.nil_append] at ho1
    have HR := Lib.hid hrun
    have HB := Lib.hid (hba.grown hg1 hba.size (by simp [Value.ownBlock]))
    obtain ⟨A2, c2, rfl⟩ := own_form ho1
    have HO := Lib.hid ho1
    clear hrun hg1 hat ho1 hown hx1 hx hba
    go_enter Try.func78, Try.ntmps78
    go_wp2_with (at_builtin; refine wpList_append_run rfl _ _ _ rfl rfl rfl HR.out ?_)
    go_ret
    have hc := Cells.of_own HO.out
    refine ⟨A2, c2, rfl, fun h => ?_, hc.1, hc.2.1, HB.out⟩
    obtain ⟨g, cap, hv, hg⟩ := World.ownsRow.form HO.out h
    simp only [Value.slice.injEq, true_and] at hv
    obtain ⟨rfl, rfl⟩ := hv
    exact ⟨g, rfl, HO.out⟩
set_option maxHeartbeats 400000 in
theorem cloneTlvs_any (A : Option Addr) (n c B : Nat) (fs : List SV) (w : World) (hx : Recs w B 2 A n c SV.vals fs) (hB : B ≤ w.heap.size) (hn : n ≤ 1000000000) :
    Calls Try.prog 81 #[.slice A n c] w (GivesRow 88 n fs w) := by
  rcases A with _ | ad
  · have h0 : n = 0 := by
      rcases Nat.eq_zero_or_pos n with h | h
      · exact h
      · obtain ⟨_, _, h, _⟩ := hx.1.2.2.2 h
        cases h
    subst h0
    have he := Lib.run_eql_slice_nil (P := Try.prog) w 38 88 none 0 c 0 0 Try.underlying38
    clear hx
    go_enter Try.func81, Try.ntmps81
    go_wp2
    go_ret
    exact ⟨none, 0, rfl, fun h => absurd h (by omega), Nat.le_refl _, by simp [maxLen], Below.refl _ _⟩
  · have he := Lib.run_eql_slice_nil (P := Try.prog) w 38 88 (some ad) n c 0 0 Try.underlying38
    have hown : (w.alloc (.cells #[] 88)).ownsRow w.heap.size 88 2 (.slice (some ⟨w.heap.size, 0, none⟩) 0 0) 0 [] := World.ownsRow_lit w #[] 0 (Nat.le_refl _) (by simp [maxLen]) rfl
    have hba := belowA w (.cells #[] 88)
    have hx1 : Cells (w.alloc (.cells #[] 88)) B 2 (some ad) n c (fs.flatMap SV.vals) := hx.1.below (hba.mono hB)
    obtain ⟨v1, w1, hrun, ho1, hg1, hat⟩ := Cells.append (P := Try.prog) (t := 38) (ty := 38) Try.underlying38 tlv_info rfl (by omega) hown hx1 (vals_one fs) (by simp only [maxLen]; omega) (by omega) hba.size
    rw [Nat.zero_add, List.nil_append] at ho1
    have HR := Lib.hid hrun
    have HB := Lib.hid (hba.grown hg1 hba.size (by simp [Value.ownBlock]))
    obtain ⟨A2, c2, rfl⟩ := own_form ho1
    have HO := Lib.hid ho1
    clear hrun hg1 hat ho1 hown hx1 hx hba
    go_enter Try.func81, Try.ntmps81
    go_wp2_with (at_builtin; refine wpList_append_run rfl _ _ _ rfl rfl rfl HR.out ?_)
    go_ret
    have hc := Cells.of_own HO.out
    refine ⟨A2, c2, rfl, fun h => ?_, hc.1, hc.2.1, HB.out⟩
    obtain ⟨g, cap, hv, hg⟩ := World.ownsRow.form HO.out h
    simp only [Value.slice.injEq, true_and] at hv
    obtain ⟨rfl, rfl⟩ := hv
    exact ⟨g, rfl, HO.out⟩
end Go.Proofs.Ytojgohgeagbkbaa
