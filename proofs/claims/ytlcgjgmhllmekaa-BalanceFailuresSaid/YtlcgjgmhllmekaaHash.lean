/- checksum.Hash and routingref04.Hash both return the FNV-1a hash of the bytes. -/
import Derived.Test.YtlcgjgmhllmekaaBase
namespace Go.Proofs.Ytlcgjgmhllmekaa
open Go.RowKit

/-- one byte more -/
def hstep (h c : Int) : Int := bits .xor .u32 h (c % 4294967296) * 16777619 % 4294967296
/-- the hash of the first k bytes -/
def hash (xs : List Int) : Nat → Int
  | 0 => 2166136261
  | k + 1 => hstep (hash xs k) (xs.getD k 0)

theorem hash_any (A : Option Addr) (n c B : Nat) (xs : List Int) (w : World) (hx : Ints w B .u8 A n c xs) (hn : n ≤ 140737488355328) :
    Calls Try.prog 36 #[.slice A n c] w fun e w' => e = .returned (.int .u32 (hash xs n)) ∧ w = w' := by
  go_enter Try.func36, Try.ntmps36
  go_wp2
  go_loop [3, 8] (fun h i => ∃ k : Nat, k ≤ n ∧ i = .int .i64 k ∧ h = .int .u32 (hash xs k)) (fun _ i => n - (intOf i).toNat)
  case atStart => exact ⟨0, Nat.zero_le _, rfl, rfl⟩
  case round =>
    obtain ⟨k, hk, rfl, rfl⟩ := hrel
    by_cases hlt : k < n
    · obtain ⟨b, o, x, rfl, hbB, hc, HX⟩ := hx.cell hlt
      have hs : hash xs (k + 1) = bits .xor .u32 (hash xs k) (x % 4294967296) * 16777619 % 4294967296 := by rw [hash, HX.out, hstep]
      have HS := Lib.hid hs
      clear hs hx
      go_wp2
      go_round
      case rel => exact ⟨k + 1, by omega, by go_num, by rw [HS.out]⟩
      case measure => simp [intOf]; omega
    · obtain rfl : k = n := by omega
      go_wp2
      go_ret
      exact ⟨ret_int rfl, rfl⟩

theorem refHash_any (A : Option Addr) (n c B : Nat) (xs : List Int) (w : World) (hx : Ints w B .u8 A n c xs) (hn : n ≤ 140737488355328) :
    Calls Try.prog 33 #[.slice A n c] w fun e w' => e = .returned (.int .u32 (hash xs n)) ∧ w = w' := by
  go_enter Try.func33, Try.ntmps33
  go_wp2
  go_loop [3, 4] (fun h i => ∃ k : Nat, k ≤ n ∧ i = .int .i64 k ∧ h = .int .u32 (hash xs k)) (fun _ i => n - (intOf i).toNat)
  case atStart => exact ⟨0, Nat.zero_le _, rfl, rfl⟩
  case round =>
    obtain ⟨k, hk, rfl, rfl⟩ := hrel
    by_cases hlt : k < n
    · obtain ⟨b, o, x, rfl, hbB, hc, HX⟩ := hx.cell hlt
      have hs : hash xs (k + 1) = bits .xor .u32 (hash xs k) (x % 4294967296) * 16777619 % 4294967296 := by rw [hash, HX.out, hstep]
      have HS := Lib.hid hs
      clear hs hx
      go_wp2
      go_round
      case rel => exact ⟨k + 1, by omega, by go_num, by rw [HS.out]⟩
      case measure => simp [intOf]; omega
    · obtain rfl : k = n := by omega
      go_wp2
      go_ret
      exact ⟨ret_int rfl, rfl⟩
end Go.Proofs.Ytlcgjgmhllmekaa
