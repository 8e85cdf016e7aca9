/- The score of a member for a flow, and a packet's flow number: the program's and the reference's texts return the same. -/
import Derived.Test.YtlcgjgmhllmekaaJoin
import Derived.Test.YtlcgjgmhllmekaaHash
namespace Go.Proofs.Ytlcgjgmhllmekaa
open Go.RowKit

/-- the bytes of the first k numbers, four each -/
def cat4 (ps : List Int) : Nat → List Int
  | 0 => []
  | k + 1 => cat4 ps k ++ pb (ps.getD k 0) 4
theorem hash_bd (xs : List Int) : ∀ k, 0 ≤ hash xs k ∧ hash xs k < 4294967296
  | 0 => by simp [hash]
  | k + 1 => by simp only [hash, hstep]; omega

set_option maxHeartbeats 400000 in
theorem bhash_any (A : Option Addr) (k c B : Nat) (ps : List Int) (w : World) (hx : Ints w B .u32 A k c ps) (hB : B ≤ w.heap.size) (hk : k ≤ 1000) (hb : ∀ j, 0 ≤ ps.getD j 0 ∧ ps.getD j 0 < 4294967296) :
    Calls Try.prog 31 #[.slice A k c] w fun e w' => e = .returned (.int .u32 (hash (cat4 ps k) (4 * k))) ∧ Below w.heap.size w w' := by
  go_enter Try.func31, Try.ntmps31
  go_wp2
  go_loopw [3, 8] (fun v i wr => ∃ (q : Nat) (A' : Option Addr) (c' : Nat), q ≤ k ∧ i = .int .i64 q ∧ v = .slice A' (4 * q) c' ∧ Hid (Ints wr wr.heap.size .u8 A' (4 * q) c' (cat4 ps q)) ∧ Hid (Below w.heap.size w wr)) (fun _ i _ => k - (intOf i).toNat)
  case atStart => exact ⟨0, none, 0, Nat.zero_le _, rfl, rfl, Ints.nil _ _ _, Below.refl _ _⟩
  case round =>
    obtain ⟨q, A', c', hq, rfl, rfl, hi, hbel⟩ := hrel
    by_cases hlt : q < k
    · obtain ⟨b, o, x, rfl, hbB, hc, HX⟩ := (hx.below (hbel.out.mono hB)).cell hlt
      have hbq := hb q
      rw [HX.out] at hbq
      have HS : Hid (cat4 ps (q + 1) = cat4 ps q ++ pb x 4) := by
        show _ = _
        rw [cat4, HX.out]
      clear hx hb
      go_wp2_with fail
      refine (put_any A' (4 * q) c' 4 x _ wr hi.out (by omega) hbq.1 (by omega) (by omega)).mono ?_
      rintro e w2 ⟨A2, c2, rfl, ho2, hb2⟩
      have e4 : 4 * q + clamp8 4 = 4 * (q + 1) := by have : clamp8 4 = 4 := by decide
                                                     omega
      have e5 : clamp8 4 = 4 := by decide
      have HO2 : Hid (Ints w2 w2.heap.size .u8 A2 (4 * (q + 1)) c2 (cat4 ps (q + 1))) := by
        have := ho2.ints
        rw [HS.out, ← e4]
        rw [e5] at this ⊢
        exact this
      have HB2 : Hid (Below w.heap.size w w2) := hbel.out.trans (hb2.mono hbel.out.size)
      rw [e4]
      clear ho2 hb2 e4 e5 hi hbel
      go_wp2
      go_roundw
      case rel => exact ⟨q + 1, A2, c2, by omega, by go_num, rfl, HO2, HB2⟩
      case measure => simp [intOf]; omega
    · obtain rfl : q = k := by omega
      clear hx hb
      go_wp2_with fail
      refine (hash_any A' (4 * q) c' _ _ wr hi.out (by omega)).mono ?_
      rintro e w2 ⟨rfl, rfl⟩
      go_wp2
      go_ret
      exact ⟨rfl, hbel.out⟩

/-- the hash of two numbers, of three -/
def h2 (a b : Int) : Int := hash (pb a 4 ++ pb b 4) 8
def h3 (a b c : Int) : Int := hash (pb a 4 ++ pb b 4 ++ pb c 4) 12
theorem h2_bd (a b : Int) : 0 ≤ h2 a b ∧ h2 a b < 4294967296 := hash_bd _ _
theorem h3_bd (a b c : Int) : 0 ≤ h3 a b c ∧ h3 a b c < 4294967296 := hash_bd _ _
theorem bhash2 (a b : Int) (w : World) (ha : 0 ≤ a ∧ a < 4294967296) (hb : 0 ≤ b ∧ b < 4294967296) :
    Calls Try.prog 31 #[.slice (some ⟨w.heap.size, 0, none⟩) 2 2] (w.alloc (.cells #[.int .u32 a, .int .u32 b] 25)) fun e w' => e = .returned (.int .u32 (h2 a b)) ∧ Below w.heap.size w w' := by
  have hx : Ints (w.alloc (.cells #[.int .u32 a, .int .u32 b] 25)) (w.alloc (.cells #[.int .u32 a, .int .u32 b] 25)).heap.size .u32 (some ⟨w.heap.size, 0, none⟩) 2 2 [a, b] := ints_lit w 25 .u32 2 [a, b] rfl (by simp [maxLen]) _ (by simp)
  refine (bhash_any _ 2 2 _ [a, b] _ hx (Nat.le_refl _) (by omega) (fun j => ?_)).mono fun e w' ⟨h1, h2⟩ => ⟨h1, ((Below.refl w.heap.size w).alloc (Nat.le_refl _) _).trans (h2.mono (by simp))⟩
  match j with
  | 0 => exact ha
  | 1 => exact hb
  | j + 2 => simp
theorem bhash3 (a b c : Int) (w : World) (ha : 0 ≤ a ∧ a < 4294967296) (hb : 0 ≤ b ∧ b < 4294967296) (hc : 0 ≤ c ∧ c < 4294967296) :
    Calls Try.prog 31 #[.slice (some ⟨w.heap.size, 0, none⟩) 3 3] (w.alloc (.cells #[.int .u32 a, .int .u32 b, .int .u32 c] 25)) fun e w' => e = .returned (.int .u32 (h3 a b c)) ∧ Below w.heap.size w w' := by
  have hx : Ints (w.alloc (.cells #[.int .u32 a, .int .u32 b, .int .u32 c] 25)) (w.alloc (.cells #[.int .u32 a, .int .u32 b, .int .u32 c] 25)).heap.size .u32 (some ⟨w.heap.size, 0, none⟩) 3 3 [a, b, c] := ints_lit w 25 .u32 3 [a, b, c] rfl (by simp [maxLen]) _ (by simp)
  refine (bhash_any _ 3 3 _ [a, b, c] _ hx (Nat.le_refl _) (by omega) (fun j => ?_)).mono fun e w' ⟨h1, h2⟩ => ⟨h1, ((Below.refl w.heap.size w).alloc (Nat.le_refl _) _).trans (h2.mono (by simp))⟩
  match j with
  | 0 => exact ha
  | 1 => exact hb
  | 2 => exact hc
  | j + 3 => simp

/-- the score of member i with the weight v -/
def sc (flow i v : Int) : Int := (1 + h2 (i % 4294967296) flow) * (min (max v 0) 65535)
theorem sc_bd (flow i v : Int) : 0 ≤ sc flow i v ∧ sc flow i v ≤ 4294967296 * 65535 := by
  have := h2_bd (i % 4294967296) flow
  unfold sc
  exact ⟨Int.mul_nonneg (by omega) (by omega), Int.mul_le_mul (by omega) (by omega) (by omega) (by omega)⟩

set_option maxHeartbeats 400000 in
theorem score_any (flow i v : Int) (w : World) (hf : 0 ≤ flow ∧ flow < 4294967296) (hv : -9223372036854775808 ≤ v ∧ v ≤ 9223372036854775807) :
    Calls Try.prog 22 #[.int .u32 flow, .int .i64 i, .int .i64 v] w fun e w' => e = .returned (.int .u64 (sc flow i v)) ∧ Below w.heap.size w w' := by
  have hs := sc_bd flow i v
  have hh := h2_bd (i % 4294967296) flow
  have H1 := Lib.hid (bhash2 (i % 4294967296) flow w (by omega) hf)
  have HS : Hid (sc flow i v = (1 + h2 (i % 4294967296) flow) * (min (max v 0) 65535)) := rfl
  obtain ⟨h, hhh⟩ : ∃ h, h2 (i % 4294967296) flow = h := ⟨_, rfl⟩
  rw [hhh] at hh H1 HS
  rw [HS.out] at hs
  clear hhh
  have hcase : v < 0 ∨ (0 ≤ v ∧ v ≤ 65535) ∨ 65535 < v := by omega
  rcases hcase with h1 | ⟨h1, h2⟩ | h1
  · have e : min (max v 0) 65535 = 0 := by omega
    rw [e] at HS hs
    go_enter Try.func22, Try.ntmps22
    go_wp2_with fail
    refine H1.out.mono ?_
    rintro e w1 ⟨rfl, hb1⟩
    have HB := Lib.hid hb1
    clear hb1
    go_wp2
    go_ret
    exact ⟨ret_int (by rw [HS.out]; simp), HB.out⟩
  · have e : min (max v 0) 65535 = v := by omega
    rw [e] at HS hs
    clear e
    go_enter Try.func22, Try.ntmps22
    go_wp2_with fail
    refine H1.out.mono ?_
    rintro e w1 ⟨rfl, hb1⟩
    have HB := Lib.hid hb1
    clear hb1
    go_wp2
    go_ret
    exact ⟨ret_int (by rw [HS.out]), HB.out⟩
  · have e : min (max v 0) 65535 = 65535 := by omega
    rw [e] at HS hs
    clear e
    go_enter Try.func22, Try.ntmps22
    go_wp2_with fail
    refine H1.out.mono ?_
    rintro e w1 ⟨rfl, hb1⟩
    have HB := Lib.hid hb1
    clear hb1
    go_wp2
    go_ret
    exact ⟨ret_int (by rw [HS.out]), HB.out⟩
end Go.Proofs.Ytlcgjgmhllmekaa
