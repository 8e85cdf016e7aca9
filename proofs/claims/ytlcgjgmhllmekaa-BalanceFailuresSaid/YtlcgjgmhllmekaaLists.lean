/- The references' functions on lists of numbers, and slices.Clone of a list of numbers. -/
import Derived.Test.YtlcgjgmhllmekaaBase
namespace Go.Proofs.Ytlcgjgmhllmekaa
open Go.RowKit

theorem ints_info : (Try.prog.info? 3).map (fun i => (i.zero, i.size, i.bytes)) = some (some (.int .i64 0), 1, 8) := by kernel_rfl

set_option maxHeartbeats 400000 in
theorem copyInts_any (A B : Option Addr) (n c m d : Nat) (xs ys : List Int) (w : World) (hx : Ints w w.heap.size .i64 A n c xs) (hy : Ints w w.heap.size .i64 B m d ys) (hn : n + m ≤ 17592186044416) :
    Calls Try.prog 18 #[.slice A n c, .slice B m d] w (GivesInts 3 .i64 (n + m) (xs ++ ys) w) := by
  obtain ⟨v1, w1, hr1, ho1, hg1, hat1⟩ := Ints.append (P := Try.prog) (t := 33) (ty := 33) Try.underlying33 ints_info rfl (Own.nil w w.heap.size _ _) hx (by simp only [maxLen]; omega) (by omega) (Nat.le_refl _)
  rw [Nat.zero_add, List.nil_append] at ho1
  have hb1 : Below w.heap.size w w1 := (Below.refl w.heap.size w).grown hg1 (Nat.le_refl _) (by simp [Value.ownBlock])
  obtain ⟨v2, w2, hr2, ho2, hg2, hat2⟩ := Ints.append (P := Try.prog) (t := 33) (ty := 33) Try.underlying33 ints_info rfl ho1 (hy.below hb1) (by simp only [maxLen]; omega) (by omega) hb1.size
  have hb2 : Below w.heap.size w w2 := hb1.grown hg2 hb1.size (fun k hk => (World.ownsRow.lt ho1 k hk).1)
  obtain ⟨A2, c2, rfl⟩ := own_form ho2
  have HR1 := Lib.hid hr1
  have HR2 := Lib.hid hr2
  have HO := Lib.hid ho2
  have HB := Lib.hid hb2
  clear hr1 hr2 ho1 ho2 hb1 hb2 hg1 hg2 hat1 hat2 hx hy
  go_enter Try.func18, Try.ntmps18
  go_wp2_with (first | (at_builtin; refine wpList_append_run rfl (.tmp 6) (.tmp 7) _ rfl rfl rfl HR1.out ?_) | (at_builtin; refine wpList_append_run rfl (.tmp 9) (.tmp 10) _ rfl rfl rfl HR2.out ?_))
  go_ret
  exact ⟨A2, c2, rfl, HO.out, HB.out⟩

theorem eq_of_each {xs ys : List Int} {n : Nat} (h1 : xs.length = n) (h2 : ys.length = n) (h : ∀ j, j < n → xs.getD j 0 = ys.getD j 0) : xs = ys := by
  refine List.ext_getElem (by omega) fun j h3 h4 => ?_
  have := h j (by omega)
  rw [List.getD_eq_getElem?_getD, List.getD_eq_getElem?_getD, List.getElem?_eq_getElem h3, List.getElem?_eq_getElem h4] at this
  exact this

set_option maxHeartbeats 400000 in
theorem sameInts_any (A B : Option Addr) (n c m d N M : Nat) (xs ys : List Int) (w : World) (hx : Ints w N .i64 A n c xs) (hy : Ints w M .i64 B m d ys) (hn : n ≤ 17592186044416) (hm : m ≤ 17592186044416) :
    Calls Try.prog 28 #[.slice A n c, .slice B m d] w fun e w' => e = .returned (.bool (decide (xs = ys))) ∧ w = w' := by
  have hl1 := hx.len
  have hl2 := hy.len
  by_cases hnm : n = m
  · subst hnm
    have HL := Lib.hid (show xs.length = n ∧ ys.length = n from ⟨hl1, hl2⟩)
    clear hl1 hl2
    go_enter Try.func28, Try.ntmps28
    go_wp2
    go_loop [14] (fun k => ∃ q : Nat, q ≤ n ∧ k = .int .i64 q ∧ Hid (∀ j, j < q → xs.getD j 0 = ys.getD j 0)) (fun k => n - (intOf k).toNat)
    case atStart => exact ⟨0, Nat.zero_le _, rfl, fun j hj => absurd hj (by omega)⟩
    case round =>
      obtain ⟨q, hq, rfl, hall⟩ := hrel
      by_cases hlt : q < n
      · obtain ⟨b, o, x, rfl, _, hc, HX⟩ := hx.cell hlt
        obtain ⟨b', o', y, rfl, _, hc', HY⟩ := hy.cell hlt
        clear hx hy
        by_cases hxy : x = y
        · subst hxy
          have HN : Hid (∀ j, j < q + 1 → xs.getD j 0 = ys.getD j 0) := by
            intro j hj
            rcases Nat.lt_or_ge j q with h | h
            · exact hall.out j h
            · obtain rfl : j = q := by omega
              rw [HX.out, HY.out]
          go_wp2
          go_round
          case rel => exact ⟨q + 1, by omega, by go_num, HN⟩
          case measure => simp [intOf]; omega
        · have d0 : (x != y) = true := by simp [hxy]
          have HF : Hid (decide (xs = ys) = false) := by
            refine decide_eq_false fun h => hxy ?_
            rw [← HX.out, ← HY.out, h]
          clear hxy
          go_wp2
          go_ret
          exact ⟨ret_bool HF.out.symm, rfl⟩
      · obtain rfl : q = n := by omega
        have HF : Hid (decide (xs = ys) = true) := decide_eq_true (eq_of_each HL.out.1 HL.out.2 hall.out)
        clear hx hy
        go_wp2
        go_ret
        exact ⟨ret_bool HF.out.symm, rfl⟩
  · have d0 : ((n : Int) != (m : Int)) = true := by simp; omega
    have HF : Hid (decide (xs = ys) = false) := decide_eq_false fun h => hnm (by rw [← hl1, ← hl2, h])
    clear hx hy hl1 hl2 hnm
    go_enter Try.func28, Try.ntmps28
    go_wp2
    go_ret
    exact ⟨ret_bool HF.out.symm, rfl⟩

/-- A slice of the call's own, or an empty one. -/
def GivesFresh (n : Nat) (xs : List Int) (w : World) (e : Ending) (w' : World) : Prop :=
  ∃ A c, e = .returned (.slice A n c) ∧ Ints w' w'.heap.size .i64 A n c xs ∧ (0 < n → ∀ ad, A = some ad → w.heap.size ≤ ad.block) ∧ Below w.heap.size w w'

set_option maxHeartbeats 400000 in
theorem cloneInts_any (A : Option Addr) (n c : Nat) (xs : List Int) (w : World) (hx : Ints w w.heap.size .i64 A n c xs) (hn : n ≤ 17592186044416) :
    Calls Try.prog 30 #[.slice A n c] w (GivesFresh n xs w) := by
  rcases A with _ | ad
  · have h0 : n = 0 := by
      rcases Nat.eq_zero_or_pos n with h | h
      · exact h
      · obtain ⟨_, _, h, _⟩ := hx.2.2.2 h
        cases h
    subst h0
    obtain rfl : xs = [] := List.eq_nil_of_length_eq_zero hx.len
    have he := Lib.run_eql_slice_nil (P := Try.prog) w 33 3 none 0 c 0 0 Try.underlying33
    clear hx
    go_enter Try.func30, Try.ntmps30
    go_wp2
    go_ret
    exact ⟨none, 0, rfl, Ints.nil _ _ _, fun h => absurd h (by omega), Below.refl _ _⟩
  · have he := Lib.run_eql_slice_nil (P := Try.prog) w 33 3 (some ad) n c 0 0 Try.underlying33
    have hown : Own (w.alloc (.cells #[] 3)) w.heap.size 3 .i64 (.slice (some ⟨w.heap.size, 0, none⟩) 0 0) 0 [] := World.ownsRow_lit w #[] 0 (Nat.le_refl _) (by simp [maxLen]) rfl
    have hx1 : Ints (w.alloc (.cells #[] 3)) w.heap.size .i64 (some ad) n c xs := hx.keep fun p hp => World.cell?_alloc_lt w _ p (by omega)
    obtain ⟨v1, w1, hrun, ho1, hg1, hat⟩ := Ints.append (P := Try.prog) (t := 33) (ty := 33) Try.underlying33 ints_info rfl hown hx1 (by simp only [maxLen]; omega) (by omega) (by simp)
    rw [Nat.zero_add, List.nil_append] at ho1
    have HR := Lib.hid hrun
    have HB := Lib.hid (((Below.refl w.heap.size w).alloc (Nat.le_refl _) _).grown hg1 (by simp) (by simp [Value.ownBlock]))
    obtain ⟨A2, c2, rfl⟩ := own_form ho1
    have HO := Lib.hid ho1
    clear hrun hg1 hat ho1 hown hx1 hx
    go_enter Try.func30, Try.ntmps30
    go_wp2_with (at_builtin; refine wpList_append_run rfl _ _ _ rfl rfl rfl HR.out ?_)
    go_ret
    refine ⟨A2, c2, rfl, HO.out.ints, fun _ ad' h => ?_, HB.out⟩
    exact (World.ownsRow.lt HO.out ad'.block (by rw [h]; rfl)).1
end Go.Proofs.Ytlcgjgmhllmekaa
