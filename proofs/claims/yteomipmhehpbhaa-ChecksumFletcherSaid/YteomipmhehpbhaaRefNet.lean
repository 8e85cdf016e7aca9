/- routingref04.Internet returns the number that the words' sum gives. -/
import Derived.Test.YteomipmhehpbhaaGet
namespace Go.Proofs.Yteomipmhehpbhaa
open Go.RowKit

/-- the sum of the words, from the first k bytes -/
def wsum (xs : List Int) : Nat → Int
  | 0 => 0
  | k + 1 => wsum xs k + if k % 2 = 0 then xs.getD k 0 * 256 else xs.getD k 0
def inet (s : Int) : Int := if s = 0 then 65535 else 65535 - (s - 1) % 65535 - 1
theorem wsum_bd {xs : List Int} (h : Bytes xs) : ∀ k, 0 ≤ wsum xs k ∧ wsum xs k ≤ 65280 * k
  | 0 => by simp [wsum]
  | k + 1 => by
    have := wsum_bd h k
    have := h k
    simp only [wsum]
    split <;> omega

set_option maxHeartbeats 400000 in
theorem refInternet_any (A : Option Addr) (n c B : Nat) (xs : List Int) (w : World) (hx : Ints w B .u8 A n c xs) (hb : Bytes xs) (hn : n ≤ 140737488355328) :
    Calls Try.prog 11 #[.slice A n c] w fun e w' => e = .returned (.int .i64 (inet (wsum xs n))) ∧ w = w' := by
  go_enter Try.func11, Try.ntmps11
  go_wp2
  go_loop [3, 4] (fun s i => ∃ k : Nat, k ≤ n ∧ i = .int .i64 k ∧ s = .int .i64 (wsum xs k)) (fun _ i => n - (intOf i).toNat)
  case atStart => exact ⟨0, Nat.zero_le _, rfl, rfl⟩
  case round =>
    obtain ⟨k, hk, rfl, rfl⟩ := hrel
    have hbd := wsum_bd hb k
    have hbk := hb k
    by_cases hlt : k < n
    · obtain ⟨b, o, x, rfl, hbB, hc, HX⟩ := hx.cell hlt
      rw [HX.out] at hbk
      clear hx hb
      by_cases he : k % 2 = 0
      · have HS : Hid (wsum xs (k + 1) = wsum xs k + x * 256) := by
          show _ = _
          rw [wsum, if_pos he, HX.out]
        go_wp2
        go_round
        case rel => exact ⟨k + 1, by omega, by go_num, by rw [HS.out]⟩
        case measure => simp [intOf]; omega
      · have HS : Hid (wsum xs (k + 1) = wsum xs k + x) := by
          show _ = _
          rw [wsum, if_neg he, HX.out]
        go_wp2
        go_round
        case rel => exact ⟨k + 1, by omega, by go_num, by rw [HS.out]⟩
        case measure => simp [intOf]; omega
    · have hkn : k = n := by omega
      subst hkn
      by_cases h0 : wsum xs k = 0
      · have e : inet (wsum xs k) = 65535 := by simp [inet, h0]
        have HS := Lib.hid e
        clear e hx hb
        go_wp2
        go_ret
        exact ⟨ret_int (by simp [inet]), rfl⟩
      · have e : inet (wsum xs k) = 65535 - (wsum xs k - 1) % 65535 - 1 := by simp [inet, h0]
        have HS := Lib.hid e
        have h1 : 0 ≤ wsum xs k - 1 := by omega
        clear e hx hb
        go_wp2
        go_ret
        exact ⟨ret_int HS.out.symm, rfl⟩

/-- the word of two bytes -/
theorem get2_ok (A : Option Addr) (len c B : Nat) (xs : List Int) (w : World) (hx : Ints w B .u8 A len c xs) (hb : Bytes xs) (m : Nat) (hi : m + 2 ≤ len) (hlen : len ≤ 140737488355328) :
    Calls Try.prog 20 #[.slice A len c, .int .i64 m, .int .i64 2] w fun e w' => e = .returned (.tuple #[.int .u64 (xs.getD m 0 * 256 + xs.getD (m + 1) 0), .bool true]) ∧ w = w' := by
  have h := get_ok A len c B xs w hx hb m 2 hi (by omega) hlen
  have e : num xs m 2 = xs.getD m 0 * 256 + xs.getD (m + 1) 0 := by simp [num]
  rw [e] at h
  exact h

set_option maxHeartbeats 400000 in
theorem internet_any (A : Option Addr) (n c B : Nat) (xs : List Int) (w : World) (hx : Ints w B .u8 A n c xs) (hb : Bytes xs) (hn : n ≤ 140737488355328) :
    Calls Try.prog 10 #[.slice A n c] w fun e w' => e = .returned (.int .i64 (inet (wsum xs n))) ∧ w = w' := by
  go_enter Try.func10, Try.ntmps10
  go_wp2
  go_loop [3, 4] (fun s i => ∃ k : Nat, k ≤ n + 1 ∧ k % 2 = 0 ∧ i = .int .i64 k ∧ s = .int .u64 (wsum xs k)) (fun _ i => n + 1 - (intOf i).toNat)
  case atStart => exact ⟨0, Nat.zero_le _, rfl, rfl, rfl⟩
  case round =>
    obtain ⟨k, hk, hev, rfl, rfl⟩ := hrel
    have hbd := wsum_bd hb k
    have hbk := hb k
    have hbk1 := hb (k + 1)
    have HE := Lib.hid hev
    clear hev
    by_cases hlt : k < n
    · obtain ⟨b, o, x, rfl, hbB, hc, HX⟩ := hx.cell hlt
      rw [HX.out] at hbk
      by_cases h2 : k + 2 ≤ n
      · obtain ⟨y, hy⟩ : ∃ y, xs.getD (k + 1) 0 = y := ⟨_, rfl⟩
        rw [hy] at hbk1
        have HS : Hid (wsum xs (k + 2) = wsum xs k + (x * 256 + y)) := by
          show _ = _
          rw [wsum, wsum, if_pos HE.out, if_neg (by have := HE.out; omega), HX.out, hy]
          omega
        have hg := get2_ok _ n c B xs w hx hb k h2 hn
        rw [HX.out, hy] at hg
        have HG := Lib.hid hg
        clear hx hb hg hy HX
        go_wp2_with fail
        refine HG.out.mono ?_
        rintro e w' ⟨rfl, rfl⟩
        go_wp2
        go_round
        case rel => exact ⟨k + 2, by omega, by have := HE.out; omega, by go_num, by rw [HS.out]⟩
        case measure => simp [intOf]; omega
      · have hy : xs.getD (k + 1) 0 = 0 := by
          have := hx.len
          rw [List.getD_eq_getElem?_getD, List.getElem?_eq_none (by omega)]
          rfl
        have HS : Hid (wsum xs (k + 2) = wsum xs k + x * 256) := by
          show _ = _
          rw [wsum, wsum, if_pos HE.out, if_neg (by have := HE.out; omega), HX.out, hy]
          omega
        have HG := Lib.hid (get_bad (some ⟨b, o, none⟩) n c w k 2 (by omega) hn (by omega) (by omega))
        clear hx hb hy HX hbk1
        go_wp2_with fail
        refine HG.out.mono ?_
        rintro e w' ⟨rfl, rfl⟩
        go_wp2
        go_round
        case rel => exact ⟨k + 2, by omega, by have := HE.out; omega, by go_num, by rw [HS.out]⟩
        case measure => simp [intOf]; omega
    · have hkn : wsum xs k = wsum xs n := by
        rcases Nat.lt_or_ge n k with h | h
        · obtain rfl : k = n + 1 := by omega
          have := hx.len
          have hz : xs.getD n 0 = 0 := by
            rw [List.getD_eq_getElem?_getD, List.getElem?_eq_none (by omega)]
            rfl
          simp only [wsum, hz]
          split <;> omega
        · obtain rfl : k = n := by omega
          rfl
      have HK : Hid (inet (wsum xs n) = inet (wsum xs k)) := by
        show _ = _
        rw [hkn]
      clear hkn hx hb hbk hbk1
      by_cases h0 : wsum xs k = 0
      · rw [h0]
        go_wp2
        go_ret
        exact ⟨ret_int (by rw [HK.out, h0]; simp [inet]), rfl⟩
      · have e : inet (wsum xs k) = 65534 - (wsum xs k - 1) % 65535 := by simp [inet, h0]; omega
        have HS := Lib.hid e
        have h1 : 0 ≤ wsum xs k - 1 := by omega
        clear e
        go_wp2
        go_ret
        exact ⟨ret_int (by rw [HK.out, HS.out]), rfl⟩
end Go.Proofs.Yteomipmhehpbhaa
