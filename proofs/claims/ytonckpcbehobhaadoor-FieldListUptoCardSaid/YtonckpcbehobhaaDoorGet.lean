/- field.Get: the number that n bytes from an index hold, and whether they lie within the slice. -/
import Derived.Test.YtonckpcbehobhaaDoorBase
namespace Go.Proofs.YtonckpcbehobhaaDoor
open Go.RowKit

/-- the number that the m bytes from place i hold, the first one the most significant -/
def num (xs : List Int) (i : Nat) : Nat → Int
  | 0 => 0
  | m + 1 => num xs i m * 256 + xs.getD (i + m) 0
/-- every number is a byte -/
def Bytes (xs : List Int) : Prop := ∀ j, 0 ≤ xs.getD j 0 ∧ xs.getD j 0 ≤ 255
theorem num_bd {xs : List Int} (h : Bytes xs) (i : Nat) : ∀ m, 0 ≤ num xs i m ∧ num xs i m < 256 ^ m
  | 0 => by simp [num]
  | m + 1 => by
    have := num_bd h i m
    have := h (i + m)
    simp only [num, Int.pow_succ]
    omega

theorem pow_le {k : Nat} (h : k ≤ 7) : (256 : Int) ^ k ≤ 72057594037927936 := by
  have : k = 0 ∨ k = 1 ∨ k = 2 ∨ k = 3 ∨ k = 4 ∨ k = 5 ∨ k = 6 ∨ k = 7 := by omega
  rcases this with h | h | h | h | h | h | h | h <;> subst h <;> decide
theorem wrap_byte {x : Int} (h0 : 0 ≤ x) (h1 : x ≤ 255) : IntKind.u64.wrap x = x := by rw [IntKind.wrap_u64]; omega
theorem or_byte {x c : Int} (h0 : 0 ≤ x) (h1 : x < 72057594037927936) (hc0 : 0 ≤ c) (hc1 : c ≤ 255) : bits .or .u64 (IntKind.u64.wrap (x * 256)) (IntKind.u64.wrap c) = x * 256 + c := by
  rw [wrap_byte hc0 hc1]
  have e : IntKind.u64.wrap (x * 256) = x * 256 := by rw [IntKind.wrap_u64]; omega
  rw [e, u64_or _ _ (by omega) (by omega) hc0 (by omega), nat_join 8 _ _ (by omega) (by omega)]
  omega

theorem get_ok (A : Option Addr) (len c B : Nat) (xs : List Int) (w : World) (hx : Ints w B .u8 A len c xs) (hb : Bytes xs) (i n : Nat) (hi : i + n ≤ len) (hn : n ≤ 8) (hlen : len ≤ 140737488355328) :
    Calls Tryd.prog 10 #[.slice A len c, .int .i64 i, .int .i64 n] w fun e w' => e = .returned (.tuple #[.int .u64 (num xs i n), .bool true]) ∧ w = w' := by
  obtain ⟨A', c', hsl, hy⟩ := hx.slice (T := 22) (E := 5) Tryd.underlying22 (by kernel_rfl) (lo := i) (hi := i + n) (by omega) hi
  have e1 : ((i + n : Nat) : Int) = (i : Int) + (n : Int) := by omega
  have e2 : i + n - i = n := by omega
  rw [e1, e2] at hsl
  rw [e2] at hy
  have g1 : decide ((n : Int) < 0) = false := by simp
  have g2 : decide ((8 : Int) < (n : Int)) = false := by simp; omega
  have g3 : decide ((i : Int) < 0) = false := by simp
  have g4 : decide ((len : Int) - (n : Int) < (i : Int)) = false := by simp; omega
  clear e1 e2 hx
  go_enter Tryd.func10, Tryd.ntmps10
  go_wp2
  go_loop [8, 36] (fun x j => ∃ k : Nat, k ≤ n ∧ j = .int .i64 k ∧ x = .int .u64 (num xs i k)) (fun _ j => n - (intOf j).toNat)
  case atStart => exact ⟨0, Nat.zero_le _, rfl, rfl⟩
  case round =>
    obtain ⟨k, hk, rfl, rfl⟩ := hrel
    have hbk := hb (i + k)
    have hnk := num_bd hb i k
    by_cases hlt : k < n
    · obtain ⟨b, o, x, rfl, hbB, hc, HX⟩ := hy.cell hlt
      have hx := HX.out
      have hs : num xs i (k + 1) = bits .or .u64 (IntKind.u64.wrap (num xs i k * 256)) (IntKind.u64.wrap x) := by
        have e : xs.getD (i + k) 0 = x := by
          rw [← hx]
          simp [List.getD_eq_getElem?_getD, List.getElem?_drop, hlt]
        have hp := pow_le (show k ≤ 7 by omega)
        rw [e] at hbk
        rw [or_byte hnk.1 (by omega) hbk.1 hbk.2, num, e]
      have HS := Lib.hid hs
      clear hs hx hb hy hnk hbk HX
      go_wp2
      go_round
      case rel => exact ⟨k + 1, by omega, by go_num, by rw [HS.out]⟩
      case measure => simp [intOf]; omega
    · obtain rfl : k = n := by omega
      clear hbk hnk hy hb
      go_wp2
      go_ret2
      exact ⟨rfl, rfl⟩

/-- outside the slice, or more bytes than a number takes -/
theorem get_bad (A : Option Addr) (len c : Nat) (w : World) (i n : Int) (h : n < 0 ∨ 8 < n ∨ i < 0 ∨ (len : Int) - n < i) (hlen : len ≤ 140737488355328)
    (hn : -9223372036854775808 ≤ n ∧ n ≤ 9223372036854775807) (hi : -9223372036854775808 ≤ i ∧ i ≤ 9223372036854775807) :
    Calls Tryd.prog 10 #[.slice A len c, .int .i64 i, .int .i64 n] w fun e w' => e = .returned (.tuple #[.int .u64 0, .bool false]) ∧ w = w' := by
  by_cases h1 : n < 0
  · have g1 : decide (n < 0) = true := by simp [h1]
    clear h
    go_enter Tryd.func10, Tryd.ntmps10
    go_wp2
    go_ret2
    exact ⟨rfl, rfl⟩
  have g1 : decide (n < 0) = false := by simp; omega
  by_cases h2 : 8 < n
  · have g2 : decide (8 < n) = true := by simp [h2]
    clear h
    go_enter Tryd.func10, Tryd.ntmps10
    go_wp2
    go_ret2
    exact ⟨rfl, rfl⟩
  have g2 : decide (8 < n) = false := by simp; omega
  by_cases h3 : i < 0
  · have g3 : decide (i < 0) = true := by simp [h3]
    clear h
    go_enter Tryd.func10, Tryd.ntmps10
    go_wp2
    go_ret2
    exact ⟨rfl, rfl⟩
  have g3 : decide (i < 0) = false := by simp; omega
  have h4 : (len : Int) - n < i := by omega
  have g4 : decide ((len : Int) - n < i) = true := by simp [h4]
  clear h
  go_enter Tryd.func10, Tryd.ntmps10
  go_wp2
  go_ret2
  exact ⟨rfl, rfl⟩
end Go.Proofs.YtonckpcbehobhaaDoor
