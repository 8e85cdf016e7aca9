/- The chapter's examples. -/
import Derived.Test.YtonckpcbehobhaaDoorWords
import Derived.Test.YtonckpcbehobhaaDoorNumber2
import Derived.Test.YtonckpcbehobhaaDoorRefGet
import Derived.Test.YtonckpcbehobhaaDoorJoin
namespace Go.Proofs.YtonckpcbehobhaaDoor
open Go.RowKit

theorem belowA (w : World) (o : Obj) : Below w.heap.size w (w.alloc o) := (Below.refl _ _).alloc (Nat.le_refl _) _
theorem below3 {w W W' : World} (h : Below w.heap.size w W) (hb : Below W.heap.size W W') : Below w.heap.size w W' := h.trans (hb.mono h.size)
theorem tlvs_short (A : Option Addr) (c B : Nat) (w : World) (hx : Ints w B .u8 A 3 c [5, 0, 1]) :
    Calls Tryd.prog 26 #[.slice A 3 c] w fun e w' => e = .returned (.tuple #[.slice none 0 0, .int .i64 3]) ∧ w = w' := by
  have HG := Lib.hid (get_ok A 3 c B [5, 0, 1] w hx (fun j => by
    match j with
    | 0 => simp
    | 1 => simp
    | 2 => simp
    | j + 3 => simp) 1 2 (by omega) (by omega) (by omega))
  rw [show num [5, 0, 1] 1 2 = 1 by decide] at HG
  clear hx
  go_enter Tryd.func26, Tryd.ntmps26
  go_wp2
  go_loop [0, 4] (fun b o => b = .slice A 3 c ∧ o = .slice none 0 0) (fun _ _ => 0)
  case atStart => exact ⟨rfl, rfl⟩
  case round =>
    obtain ⟨rfl, rfl⟩ := hrel
    go_wp2_with fail
    refine HG.out.mono ?_
    rintro e w1 ⟨rfl, rfl⟩
    go_wp2
    go_ret2
    exact ⟨rfl, rfl⟩
theorem bytes112 : Bytes [1, 1, 2] := fun j => by
  match j with
  | 0 => simp
  | 1 => simp
  | 2 => simp
  | j + 3 => simp
theorem u8lit (w : World) (N : Nat) (hN : N = w.heap.size) (n : Nat) (xs : List Int) (hn : xs.length = n) (hm : n ≤ maxLen) (B : Nat) (hB : N < B) : Ints (w.alloc (.cells (xs.map (Value.int .u8)).toArray 5)) B .u8 (some ⟨N, 0, none⟩) n n xs := by
  subst hN
  have h := Cells.of_own (World.ownsRow_lit (base := w.heap.size) (e := 5) (size := 1) w (xs.map (Value.int .u8)).toArray n (Nat.le_refl _) hm (by simp [hn]))
  refine Cells.more (B := w.heap.size + 1) ?_ (by omega)
  refine Cells.more ?_ (Nat.le_refl _)
  simpa using h
theorem num012 : numR (byts ⟨#[48, 49, 50]⟩) 99 = (0, 2) := numR_bad (fun h => h.2.1 (by decide))
theorem num99 : numR (byts ⟨#[57, 57]⟩) 99 = (99, 0) := by
  have h : Canon (byts ⟨#[57, 57]⟩) := ⟨by decide, by decide, fun j hj => by
    match j, hj with
    | 0, _ => exact ⟨by decide, by decide⟩
    | 1, _ => exact ⟨by decide, by decide⟩⟩
  rw [numR_ok h (by decide)]
  rfl
theorem pieces_ab : pieces ⟨#[97, 32, 98]⟩ = [⟨#[97]⟩, ⟨#[98]⟩] := by decide
theorem words_ab : wordsR ⟨#[97, 32, 98]⟩ = ([⟨#[97]⟩, ⟨#[98]⟩], 0) := by
  rw [← pieces_ab]
  refine wordsR_ok (by decide) (by decide) ?_
  rw [pieces_ab]
  decide
theorem itoa_m7 : Lib.itoa (-7) = [45, 55] := by
  unfold Lib.itoa
  rw [if_pos (by decide), show (-7 : Int).natAbs = 7 by decide, Lib.decDigits, dif_pos (by decide)]
  rfl
theorem put258 : ([1] : List Int) ++ pb 258 (clamp8 2) = [1, 1, 2] := by decide
theorem clamp2 : clamp8 2 = 2 := by decide
set_option maxRecDepth 100000 in
set_option maxHeartbeats 2000000 in
theorem awake_any (w : World) (henv : Env w) : Calls Tryd.prog 12 #[] w fun e w' => e = .returned (.bool true) ∧ Below w.heap.size w w' := by
  have HENV := Lib.hid henv
  have HI1 : Hid (Ints (w.alloc (.cells #[.int .u8 1, .int .u8 1, .int .u8 2] 5)) (w.heap.size + 1) .u8 (some ⟨w.heap.size, 0, none⟩) 3 3 [1, 1, 2]) := u8lit w w.heap.size rfl 3 [1, 1, 2] rfl (by simp [maxLen]) (w.heap.size + 1) (by omega)
  have HB1 := Lib.hid (belowA w (.cells #[.int .u8 1, .int .u8 1, .int .u8 2] 5))
  clear henv
  go_enter Tryd.func12, Tryd.ntmps12
  go_wp2_with fail
  refine (get_ok _ 3 3 _ [1, 1, 2] _ HI1.out bytes112 1 2 (by omega) (by omega) (by omega)).mono ?_
  rintro e w1 ⟨rfl, rfl⟩
  rw [show num [1, 1, 2] 1 2 = 258 by decide]
  obtain ⟨W1, hW1⟩ : ∃ W, w.alloc (.cells #[.int .u8 1, .int .u8 1, .int .u8 2] 5) = W := ⟨_, rfl⟩
  rw [hW1] at HB1 ⊢
  clear HI1 hW1
  have HI2 : Hid (Ints (W1.alloc (.cells #[.int .u8 5, .int .u8 0, .int .u8 1] 5)) (W1.heap.size + 1) .u8 (some ⟨W1.heap.size, 0, none⟩) 3 3 [5, 0, 1]) := u8lit W1 W1.heap.size rfl 3 [5, 0, 1] rfl (by simp [maxLen]) (W1.heap.size + 1) (by omega)
  have HB2 := Lib.hid (below3 HB1.out (belowA W1 (.cells #[.int .u8 5, .int .u8 0, .int .u8 1] 5)))
  go_wp2_with fail
  refine (tlvs_short _ 3 _ _ HI2.out).mono ?_
  rintro e w2 ⟨rfl, rfl⟩
  obtain ⟨W2, hW2⟩ : ∃ W, W1.alloc (.cells #[.int .u8 5, .int .u8 0, .int .u8 1] 5) = W := ⟨_, rfl⟩
  rw [hW2] at HB2 ⊢
  clear HI2 hW2 HB1
  go_wp2_with fail
  refine (number_walk ⟨#[48, 49, 50]⟩ 99 W2 (by decide) (by omega)).mono ?_
  rintro e w2 ⟨rfl, rfl⟩
  rw [num012]
  go_wp2_with fail
  refine (number_walk ⟨#[57, 57]⟩ 99 _ (by decide) (by omega)).mono ?_
  rintro e w2 ⟨rfl, rfl⟩
  rw [num99]
  go_wp2_with fail
  refine (words_any ⟨#[97, 32, 98]⟩ _ (by decide) (HENV.out.below HB2.out)).mono ?_
  rintro e W3 ⟨A3, n3, c3, rfl, hst, hb3⟩
  rw [words_ab] at hst ⊢
  obtain rfl : n3 = 2 := by have := hst.len; simpa using this.symm
  have HB3 := Lib.hid (below3 HB2.out hb3)
  clear hst hb3 HB2
  have HI4 : Hid (Ints (W3.alloc (.cells #[.int .u8 1] 5)) (W3.heap.size + 1) .u8 (some ⟨W3.heap.size, 0, none⟩) 1 1 [1]) := u8lit W3 W3.heap.size rfl 1 [1] rfl (by simp [maxLen]) (W3.heap.size + 1) (by omega)
  have HB4 := Lib.hid (below3 HB3.out (belowA W3 (.cells #[.int .u8 1] 5)))
  go_wp2_with fail
  refine (put_any _ 1 1 2 258 [1] _ (HI4.out.more (by simp)) (by omega) (by omega) (by omega) (by omega)).mono ?_
  rintro e W5 ⟨A5, c5, rfl, ho5, hb5⟩
  rw [put258, clamp2] at ho5
  rw [clamp2]
  have HI5 := Lib.hid ho5.ints
  have HB5 := Lib.hid (below3 HB4.out hb5)
  clear ho5 hb5 HI4 HB4
  have HI6 : Hid (Ints (W5.alloc (.cells #[.int .u8 1, .int .u8 1, .int .u8 2] 5)) (W5.heap.size + 1) .u8 (some ⟨W5.heap.size, 0, none⟩) 3 3 [1, 1, 2]) := u8lit W5 W5.heap.size rfl 3 [1, 1, 2] rfl (by simp [maxLen]) (W5.heap.size + 1) (by omega)
  have HB6 := Lib.hid (below3 HB5.out (belowA W5 (.cells #[.int .u8 1, .int .u8 1, .int .u8 2] 5)))
  have HI5' := Lib.hid (HI5.out.below (belowA W5 (.cells #[.int .u8 1, .int .u8 1, .int .u8 2] 5)))
  go_wp2_with fail
  refine (sameBytes_any _ _ 3 c5 3 3 _ _ [1, 1, 2] [1, 1, 2] _ HI5'.out HI6.out (by omega) (by omega)).mono ?_
  rintro e w2 ⟨rfl, rfl⟩
  rw [show decide (([1, 1, 2] : List Int) = [1, 1, 2]) = true by decide]
  obtain ⟨W6, hW6⟩ : ∃ W, W5.alloc (.cells #[.int .u8 1, .int .u8 1, .int .u8 2] 5) = W := ⟨_, rfl⟩
  rw [hW6] at HB6 ⊢
  clear HI5 HI6 HI5' hW6 HB5
  go_wp2_with fail
  refine (decimal_any (-7) (by omega) (by omega) _ (HENV.out.below HB6.out)).mono ?_
  rintro e W7 ⟨rfl, hb7⟩
  rw [itoa_m7]
  have HB7 := Lib.hid (below3 HB6.out hb7)
  clear hb7
  go_wp2
  go_ret
  exact ⟨rfl, HB7.out⟩
end Go.Proofs.YtonckpcbehobhaaDoor
