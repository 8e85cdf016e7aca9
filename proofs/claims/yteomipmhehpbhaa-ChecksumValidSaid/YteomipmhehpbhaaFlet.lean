/- Valid and Fletcher of the program and of the reference return the same, in the words of the Fletcher sums. -/
import Derived.Test.YteomipmhehpbhaaSkip
import Derived.Test.YteomipmhehpbhaaWith
namespace Go.Proofs.Yteomipmhehpbhaa
open Go.RowKit

theorem bytes_slice {xs : List Int} (hb : Bytes xs) : ∀ j, 0 ≤ byte xs j ∧ byte xs j ≤ 255 := hb
/-- both sums are multiples of 255 -/
def valid (xs : List Int) (n : Nat) : Bool := (fS (byte xs) n % 255 == 0) && (fT (byte xs) n n % 255 == 0)
theorem skipped_none (xs : List Int) : skipped xs (-1) = byte xs := by
  funext j
  exact skip_no (fun h => absurd h (by omega))

theorem eql_pair (s t : Int) (w : World) : (Op.equalIn 10000 39 (.agg #[.int .i64 s, .int .i64 t]) (.agg #[.int .i64 0, .int .i64 0])).run Try.prog w = .ok ((s == 0) && (t == 0)) w := by
  have h2 : Try.prog.underlying 39 = some (.array 2 3) := by kernel_rfl
  have h3 : Try.prog.underlying 3 = some (.int .i64) := by kernel_rfl
  have hs : ∀ w, (sizeOf 3).run Try.prog w = .ok 1 w := fun _ => by kernel_rfl
  have p0 : ∀ w, (part 3 #[.int .i64 s, .int .i64 t] 0).run Try.prog w = .ok (.int .i64 s) w := fun _ => by kernel_rfl
  have p1 : ∀ w, (part 3 #[.int .i64 s, .int .i64 t] 1).run Try.prog w = .ok (.int .i64 t) w := fun _ => by kernel_rfl
  have q0 : ∀ w, (part 3 #[.int .i64 0, .int .i64 0] 0).run Try.prog w = .ok (.int .i64 0) w := fun _ => by kernel_rfl
  have q1 : ∀ w, (part 3 #[.int .i64 0, .int .i64 0] 1).run Try.prog w = .ok (.int .i64 0) w := fun _ => by kernel_rfl
  rw [Op.equalIn]
  simp only [Sem.run_bind, run_underlying h2, Result.andThen_ok, hs]
  simp [Std.Legacy.Range.forIn_eq_forIn_range', Std.Legacy.Range.size, List.range', Sem.run_bind, p0, p1, q0, q1, run_equalIn_int, h3]
  by_cases h1 : s = 0 <;> by_cases h2 : t = 0 <;> simp [h1, h2]

set_option maxHeartbeats 400000 in
theorem valid_any (A : Option Addr) (n c : Nat) (xs : List Int) (w : World) (hx : Ints w w.heap.size .u8 A n c xs) (hb : Bytes xs) (hn : n ≤ 140737488355328) :
    Calls Try.prog 15 #[.slice A n c] w fun e w' => e = .returned (.bool (valid xs n)) ∧ Below w.heap.size w w' := by
  have h := sums_any A n c (-1) xs w hx hb hn (by omega) (by omega)
  rw [skipped_none] at h
  have H := Lib.hid h
  have HV : Hid (valid xs n = ((fS (byte xs) n % 255 == 0) && (fT (byte xs) n n % 255 == 0))) := rfl
  obtain ⟨s, hs⟩ : ∃ s, fS (byte xs) n % 255 = s := ⟨_, rfl⟩
  obtain ⟨t, ht⟩ : ∃ t, fT (byte xs) n n % 255 = t := ⟨_, rfl⟩
  rw [hs, ht] at H HV
  clear h hx hs ht hb
  go_enter Try.func15, Try.ntmps15
  go_wp2_with fail
  refine H.out.mono ?_
  rintro e w' ⟨rfl, hbel⟩
  have HB := Lib.hid hbel
  clear hbel
  have he := eql_pair s t w'
  go_wp2
  go_ret
  exact ⟨ret_bool HV.out.symm, HB.out⟩

theorem refValid_any (A : Option Addr) (n c B : Nat) (xs : List Int) (w : World) (hx : Ints w B .u8 A n c xs) (hb : Bytes xs) (hn : n ≤ 140737488355328) :
    Calls Try.prog 16 #[.slice A n c] w fun e w' => e = .returned (.bool (valid xs n)) ∧ w = w' := by
  have H := Lib.hid (refSums_any A n c B xs w hx hb hn)
  have HV : Hid (valid xs n = ((fS (byte xs) n % 255 == 0) && (fT (byte xs) n n % 255 == 0))) := rfl
  obtain ⟨s, hs⟩ : ∃ s, fS (byte xs) n % 255 = s := ⟨_, rfl⟩
  obtain ⟨t, ht⟩ : ∃ t, fT (byte xs) n n % 255 = t := ⟨_, rfl⟩
  rw [hs, ht] at H HV
  clear hx hs ht hb
  by_cases h0 : s = 0
  · have d0 : (s == 0) = true := by simp [h0]
    clear h0
    go_enter Try.func16, Try.ntmps16
    go_wp2_with fail
    refine H.out.mono ?_
    rintro e w' ⟨rfl, rfl⟩
    go_wp2
    go_ret
    exact ⟨ret_bool (by rw [HV.out, d0]; simp), rfl⟩
  · have d0 : (s == 0) = false := by simp [h0]
    clear h0
    go_enter Try.func16, Try.ntmps16
    go_wp2_with fail
    refine H.out.mono ?_
    rintro e w' ⟨rfl, rfl⟩
    go_wp2
    go_ret
    exact ⟨ret_bool (by rw [HV.out, d0]; simp), rfl⟩

/-- the two bytes of the checksum for the place i -/
def cX (xs : List Int) (n i : Nat) : Int := fX (fS (skipped xs i) n % 255) (fT (skipped xs i) n n % 255) n i
def cY (xs : List Int) (n i : Nat) : Int := fY (fS (skipped xs i) n % 255) (cX xs n i)

set_option maxHeartbeats 400000 in
theorem fletcher_ok (A : Option Addr) (n c i : Nat) (xs : List Int) (w : World) (hx : Ints w w.heap.size .u8 A n c xs) (hb : Bytes xs) (hn : n ≤ 140737488355328) (hi : i + 1 < n) :
    Calls Try.prog 13 #[.slice A n c, .int .i64 i] w fun e w' => e = .returned (.tuple #[.int .i64 (256 * cX xs n i + cY xs n i), .bool true]) ∧ Below w.heap.size w w' := by
  have H := Lib.hid (sums_any A n c i xs w hx hb hn (by omega) (by omega))
  obtain ⟨s, hs⟩ : ∃ s, fS (skipped xs i) n % 255 = s := ⟨_, rfl⟩
  obtain ⟨t, ht⟩ : ∃ t, fT (skipped xs i) n n % 255 = t := ⟨_, rfl⟩
  have b0 : 0 ≤ s ∧ s < 255 := by omega
  have b1 : 0 ≤ t ∧ t < 255 := by omega
  have hp : 0 ≤ ((n : Int) - i - 1) % 255 * s := Int.mul_nonneg (by omega) (by omega)
  have hq : ((n : Int) - i - 1) % 255 * s ≤ 255 * 255 := Int.mul_le_mul (by omega) (by omega) (by omega) (by omega)
  have HX : Hid (cX xs n i = res (((n : Int) - i - 1) % 255 * s - t)) := by
    show _ = _
    rw [cX, hs, ht, fX]
  have HY : Hid (cY xs n i = res (-s - res (((n : Int) - i - 1) % 255 * s - t))) := by
    show _ = _
    rw [cY, hs, HX.out, fY]
  rw [hs, ht] at H
  have c1 := res_bd (((n : Int) - i - 1) % 255 * s - t)
  clear hx hs ht hb
  obtain ⟨x, hxx⟩ : ∃ x, res (((n : Int) - i - 1) % 255 * s - t) = x := ⟨_, rfl⟩
  rw [hxx] at HX HY c1
  have c2 := res_bd (-s - x)
  obtain ⟨y, hyy⟩ : ∃ y, res (-s - x) = y := ⟨_, rfl⟩
  rw [hyy] at HY c2
  have HXX := Lib.hid hxx
  have HYY := Lib.hid hyy
  clear hxx hyy
  have d0 : decide ((i : Int) < 0) = false := by simp
  have d1 : decide ((n : Int) - 1 ≤ (i : Int)) = false := by simp; omega
  go_enter Try.func13, Try.ntmps13
  go_wp2_with fail
  refine H.out.mono ?_
  rintro e w' ⟨rfl, hbel⟩
  have HB := Lib.hid (hbel.alloc hbel.size (.cells #[.int .i64 s, .int .i64 t] 39))
  clear hbel
  go_wp2_with fail
  refine (residue_any _ _ (by omega) (by omega)).mono ?_
  rintro e w2 ⟨rfl, rfl⟩
  rw [HXX.out]
  go_wp2_with fail
  refine (residue_any _ _ (by omega) (by omega)).mono ?_
  rintro e w2 ⟨rfl, rfl⟩
  rw [HYY.out]
  go_wp2
  go_ret2
  exact ⟨ret_t2 (int_eq (by rw [HX.out, HY.out])) rfl, HB.out⟩

theorem fletcher_bad (A : Option Addr) (n c : Nat) (i : Int) (w : World) (hn : n ≤ 140737488355328) (h : i < 0 ∨ (n : Int) - 1 ≤ i) :
    Calls Try.prog 13 #[.slice A n c, .int .i64 i] w fun e w' => e = .returned (.tuple #[.int .i64 0, .bool false]) ∧ w = w' := by
  by_cases h1 : i < 0
  · have d0 : decide (i < 0) = true := by simp [h1]
    clear h h1
    go_enter Try.func13, Try.ntmps13
    go_wp2
    go_ret2
    exact ⟨rfl, rfl⟩
  · have d0 : decide (i < 0) = false := by simp; omega
    have d1 : decide ((n : Int) - 1 ≤ i) = true := by simp; omega
    clear h h1
    go_enter Try.func13, Try.ntmps13
    go_wp2
    go_ret2
    exact ⟨rfl, rfl⟩
end Go.Proofs.Yteomipmhehpbhaa
