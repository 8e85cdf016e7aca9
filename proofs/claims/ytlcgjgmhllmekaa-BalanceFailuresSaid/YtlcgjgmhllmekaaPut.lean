/- field.Put and routingref03.Put append the same bytes of a number. -/
import Derived.Test.YtlcgjgmhllmekaaBase
namespace Go.Proofs.Ytlcgjgmhllmekaa
open Go.RowKit

theorem u8_info : (Try.prog.info? 5).map (fun i => (i.zero, i.size, i.bytes)) = some (some (.int .u8 0), 1, 1) := by kernel_rfl
/-- the lowest m bytes of x, the most significant first -/
def pb (x : Int) : Nat → List Int
  | 0 => []
  | m + 1 => (x / 2 ^ (8 * m)) % 256 :: pb x m
theorem pb_len (x : Int) : ∀ m, (pb x m).length = m
  | 0 => rfl
  | m + 1 => by simp [pb, pb_len x m]

set_option maxHeartbeats 400000 in
theorem number_any (m : Nat) (x : Int) (w : World) (hm : m ≤ 8) (_hx0 : 0 ≤ x) (hx1 : x < 18446744073709551616) :
    Calls Try.prog 38 #[.int .i64 m, .int .u64 x] w (GivesInts 5 .u8 m (pb x m) w) := by
  have HX : Hid (x < 18446744073709551616) := hx1
  clear hx1
  go_enter Try.func38, Try.ntmps38
  go_wp2
  go_loopw [5, 6] (fun v i wr => ∃ (k : Nat) (ys : List Int), k ≤ m ∧ i = .int .i64 ((k : Int) - 1) ∧ Hid (ys ++ pb x k = pb x m) ∧ Hid (Own wr w.heap.size 5 .u8 v (m - k) ys) ∧ Hid (Below w.heap.size w wr)) (fun _ i _ => (intOf i + 1).toNat)
  case atStart => exact ⟨m, [], Nat.le_refl _, rfl, by simp [Hid], by rw [Nat.sub_self]; exact World.ownsRow_nil _ _ _ _, Below.refl _ _⟩
  case round =>
    obtain ⟨k, ys, hk, rfl, he, ho, hb⟩ := hrel
    by_cases h0 : k = 0
    · subst h0
      rw [Nat.sub_zero] at ho
      have ho1 := ho.out
      rw [show ys = pb x m by simpa [pb] using he.out] at ho1
      obtain ⟨A, c, rfl⟩ := own_form ho.out
      have HO := Lib.hid ho1
      clear ho ho1 he
      go_wp2
      go_ret
      exact ⟨A, c, rfl, HO.out, hb.out⟩
    · obtain ⟨j, rfl⟩ : ∃ j, k = j + 1 := ⟨k - 1, by omega⟩
      have e1 : (((j + 1 : Nat) : Int) - 1) = (j : Int) := by omega
      rw [e1]
      clear e1
      go_wp2_with (at_builtin; refine wpList_append_int rfl _ _ rfl rfl rfl rfl Try.underlying56 u8_info rfl ho.out hb.out (Nat.le_refl _) hb.out.size (by omega) (by simp only [maxLen]; omega) ?_; intro v' w' h1 h2 _ _; have H1 := Lib.hid h1; have H2 := Lib.hid h2; clear h1 h2)
      go_roundw
      case rel => exact ⟨j, ys ++ [x / 2 ^ (8 * j) % 256], by omega, rfl, by show _ = _; rw [← he.out, pb, List.append_assoc]; rfl, by rw [show m - j = m - (j + 1) + 1 by omega]; exact H1.out, H2⟩
      case measure => simp [intOf]

/-- the number of bytes that Put appends -/
def clamp8 (n : Int) : Nat := (min (max n 0) 8).toNat
theorem clamp8_le (n : Int) : clamp8 n ≤ 8 := by unfold clamp8; omega
theorem clamp8_eq (n : Int) : ((clamp8 n : Nat) : Int) = min (max n 0) 8 := by unfold clamp8; omega

set_option maxHeartbeats 400000 in
theorem refPut_any (A : Option Addr) (n c : Nat) (k x : Int) (xs : List Int) (w : World) (hx : Ints w w.heap.size .u8 A n c xs) (hn : n ≤ 140737488351232) (_hx0 : 0 ≤ x) (hx1 : x < 18446744073709551616) (hk : -9223372036854775808 ≤ k ∧ k ≤ 9223372036854775807) :
    Calls Try.prog 32 #[.slice A n c, .int .i64 k, .int .u64 x] w (GivesInts 5 .u8 (n + clamp8 k) (xs ++ pb x (clamp8 k)) w) := by
  have hm := clamp8_le k
  have HM := Lib.hid (clamp8_eq k)
  obtain ⟨m, hmm⟩ : ∃ m, clamp8 k = m := ⟨_, rfl⟩
  rw [hmm] at hm HM
  rw [hmm]
  obtain ⟨v1, w1, hrun, ho1, hg1, hat⟩ := Ints.append (P := Try.prog) (t := 56) (ty := 56) Try.underlying56 u8_info rfl (Own.nil w w.heap.size _ _) hx (by simp only [maxLen]; omega) (by omega) (Nat.le_refl _)
  rw [Nat.zero_add, List.nil_append] at ho1
  have HB := Lib.hid ((Below.refl w.heap.size w).grown hg1 (Nat.le_refl _) (by simp [Value.ownBlock]))
  have HO := Lib.hid ho1
  have HR := Lib.hid hrun
  have HX : Hid (x < 18446744073709551616) := hx1
  clear hx1 hrun ho1 hg1 hat hx hmm
  go_enter Try.func32, Try.ntmps32
  go_wp2_with (at_builtin; refine wpList_append_run rfl _ _ _ rfl rfl rfl HR.out ?_)
  all_goals
    go_loopw [7, 8] (fun v i wr => ∃ (q : Nat) (ys : List Int), q ≤ m ∧ i = .int .i64 ((q : Int) - 1) ∧ Hid (ys ++ pb x q = xs ++ pb x m) ∧ Hid (Own wr w.heap.size 5 .u8 v (n + (m - q)) ys) ∧ Hid (Below w.heap.size w wr)) (fun _ i _ => (intOf i + 1).toNat)
    case atStart => exact ⟨m, xs, Nat.le_refl _, int_eq (by have := HM.out; omega), rfl, by rw [Nat.sub_self]; exact HO, HB⟩
    case round =>
      obtain ⟨q, ys, hq, rfl, he, ho, hb⟩ := hrel
      by_cases h0 : q = 0
      · subst h0
        rw [Nat.sub_zero] at ho
        have ho1 := ho.out
        rw [show ys = xs ++ pb x m by simpa [pb] using he.out] at ho1
        obtain ⟨A2, c2, rfl⟩ := own_form ho.out
        have HO2 := Lib.hid ho1
        clear ho ho1 he
        go_wp2
        go_ret
        exact ⟨A2, c2, rfl, HO2.out, hb.out⟩
      · obtain ⟨j, rfl⟩ : ∃ j, q = j + 1 := ⟨q - 1, by omega⟩
        have e1 : (((j + 1 : Nat) : Int) - 1) = (j : Int) := by omega
        rw [e1]
        clear e1
        go_wp2_with (at_builtin; refine wpList_append_int rfl _ _ rfl rfl rfl rfl Try.underlying56 u8_info rfl ho.out hb.out (Nat.le_refl _) hb.out.size (by omega) (by simp only [maxLen]; omega) ?_; intro v' w' h1 h2 _ _; have H1 := Lib.hid h1; have H2 := Lib.hid h2; clear h1 h2)
        go_roundw
        case rel => exact ⟨j, ys ++ [x / 2 ^ (8 * j) % 256], by omega, rfl, by show _ = _; rw [← he.out, pb, List.append_assoc]; rfl, by rw [show n + (m - j) = n + (m - (j + 1)) + 1 by omega]; exact H1.out, H2⟩
        case measure => simp [intOf]
end Go.Proofs.Ytlcgjgmhllmekaa
