/- The Fletcher sums, residue and With: what the two texts' helpers return. -/
import Derived.Test.YteomipmhehpbhaaGet
import Derived.Test.YteomipmhehpbhaaFletMath
import Derived.BigRegion
import Derived.RegionTactic
import Derived.ChangeAlike
namespace Go.Proofs.Yteomipmhehpbhaa
open Go.RowKit

/-- the byte at a place -/
def byte (xs : List Int) (j : Nat) : Int := xs.getD j 0
/-- the bytes, without the two from index skip on -/
def skipped (xs : List Int) (skip : Int) (j : Nat) : Int := if 0 ≤ skip ∧ ((j : Int) = skip ∨ (j : Int) = skip + 1) then 0 else byte xs j

theorem residue_any (n : Int) (w : World) (h0 : -9000000000000000000 ≤ n) (h1 : n ≤ 9000000000000000000) :
    Calls Try.prog 22 #[.int .i64 n] w fun e w' => e = .returned (.int .i64 (res n)) ∧ w = w' := by
  have b := tmod_parts (n - 1) (show (0 : Int) < 255 by omega)
  have HE : Hid (((n - 1).tmod 255 + 255) % 255 + 1 = res n) := by
    show _ = _
    unfold res
    omega
  have b1 : -255 ≤ (n - 1).tmod 255 := by omega
  have b2 : (n - 1).tmod 255 ≤ 255 := by omega
  clear b
  go_enter Try.func22, Try.ntmps22
  go_wp2
  go_ret
  exact ⟨ret_int (by rw [← HE.out]; omega), rfl⟩

theorem refSums_any (A : Option Addr) (n c B : Nat) (xs : List Int) (w : World) (hx : Ints w B .u8 A n c xs) (hb : Bytes xs) (hn : n ≤ 140737488355328) :
    Calls Try.prog 23 #[.slice A n c] w fun e w' => e = .returned (.tuple #[.int .i64 (fS (byte xs) n % 255), .int .i64 (fT (byte xs) n n % 255)]) ∧ w = w' := by
  go_enter Try.func23, Try.ntmps23
  go_wp2
  go_loop [4, 5, 6] (fun s t i => ∃ k : Nat, k ≤ n ∧ i = .int .i64 k ∧ s = .int .i64 (fS (byte xs) k % 255) ∧ t = .int .i64 (fT (byte xs) n k % 255)) (fun _ _ i => n - (intOf i).toNat)
  case atStart => exact ⟨0, Nat.zero_le _, rfl, rfl, rfl⟩
  case round =>
    obtain ⟨k, hk, rfl, rfl, rfl⟩ := hrel
    have hbk := hb k
    obtain ⟨s, hs⟩ : ∃ s, fS (byte xs) k % 255 = s := ⟨_, rfl⟩
    obtain ⟨t, ht⟩ : ∃ t, fT (byte xs) n k % 255 = t := ⟨_, rfl⟩
    have hs0 : 0 ≤ s ∧ s < 255 := by omega
    have ht0 : 0 ≤ t ∧ t < 255 := by omega
    by_cases hlt : k < n
    · obtain ⟨b, o, x, rfl, hbB, hc, HX⟩ := hx.cell hlt
      rw [HX.out] at hbk
      have HS : Hid (fS (byte xs) (k + 1) % 255 = (s + x) % 255) := by
        show _ = _
        rw [fS, show byte xs k = x from HX.out, ← hs, mod_add]
      have HT : Hid (fT (byte xs) n (k + 1) % 255 = (t + ((n : Int) - k) % 255 * x) % 255) := by
        show _ = _
        rw [fT, show byte xs k = x from HX.out, ← ht, mod_mul_add]
      have hp : 0 ≤ ((n : Int) - k) % 255 * x := Int.mul_nonneg (by omega) (by omega)
      have hq : ((n : Int) - k) % 255 * x ≤ 255 * 255 := Int.mul_le_mul (by omega) (by omega) (by omega) (by omega)
      rw [hs, ht]
      clear hx hb hs ht
      go_wp2
      go_round
      case rel => exact ⟨k + 1, by omega, by go_num, by rw [HS.out], by rw [HT.out]⟩
      case measure => simp [intOf]; omega
    · obtain rfl : k = n := by omega
      have HS := Lib.hid hs
      have HT := Lib.hid ht
      rw [hs, ht]
      clear hs ht
      go_wp2
      go_ret2
      exact ⟨ret_t2 (int_eq HS.out.symm) (int_eq HT.out.symm), rfl⟩
end Go.Proofs.Yteomipmhehpbhaa
