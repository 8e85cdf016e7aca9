/- routingref04.Fletcher finds the same two bytes by its search; sealed stores them. -/
import Derived.Test.YteomipmhehpbhaaFlet
namespace Go.Proofs.Yteomipmhehpbhaa
open Go.RowKit

theorem with2_len (xs : List Int) (i : Nat) (v : Int) : (with2 xs i v).length = xs.length := by simp [with2]
theorem byte_with2 {xs : List Int} {i : Nat} {v : Int} (hi : i + 1 < xs.length) (j : Nat) : byte (with2 xs i v) j = if j = i then v / 256 else if j = i + 1 then v % 256 else byte xs j := by
  unfold byte with2
  simp only [List.getD_eq_getElem?_getD, List.getElem?_set]
  by_cases h1 : j = i
  · subst h1
    have : j + 1 ≠ j := by omega
    have hj : j < xs.length := by omega
    simp [hj]
  · by_cases h2 : j = i + 1
    · subst h2
      simp [hi]
    · have e1 : i ≠ j := fun e => h1 e.symm
      have e2 : i + 1 ≠ j := fun e => h2 e.symm
      simp [h1, h2, e1, e2]
theorem byte_with2_zero {xs : List Int} {i : Nat} (hi : i + 1 < xs.length) (j : Nat) : byte (with2 xs i 0) j = skipped xs i j := by
  rw [byte_with2 hi]
  unfold skipped
  by_cases h1 : j = i
  · subst h1; simp
  · by_cases h2 : j = i + 1
    · subst h2; simp
    · rw [if_neg h1, if_neg h2, if_neg (by omega)]
theorem Bytes.with2 {xs : List Int} (hb : Bytes xs) {i : Nat} {v : Int} (hi : i + 1 < xs.length) (h0 : 0 ≤ v) (h1 : v ≤ 65535) : Bytes (with2 xs i v) := by
  intro j
  have h := byte_with2 (v := v) hi j
  unfold byte at h
  rw [h]
  have := hb j
  split
  · omega
  · split
    · omega
    · exact this

set_option maxHeartbeats 400000 in
theorem refFletcher_ok (A : Option Addr) (n c i : Nat) (xs : List Int) (w : World) (hx : Ints w w.heap.size .u8 A n c xs) (hb : Bytes xs) (hn : n ≤ 140737488355328) (hi : i + 1 < n) :
    Calls Try.prog 14 #[.slice A n c, .int .i64 i] w fun e w' => e = .returned (.tuple #[.int .i64 (256 * cX xs n i + cY xs n i), .bool true]) ∧ Below w.heap.size w w' := by
  have hl := hx.len
  have H1 := Lib.hid (with_any A n c i 0 xs w hx hi (by omega) (by omega) hn)
  obtain ⟨s, hs⟩ : ∃ s, fS (skipped xs i) n % 255 = s := ⟨_, rfl⟩
  obtain ⟨t, ht⟩ : ∃ t, fT (skipped xs i) n n % 255 = t := ⟨_, rfl⟩
  have b0 : 0 ≤ s ∧ s < 255 := by omega
  have b1 : 0 ≤ t ∧ t < 255 := by omega
  have e1 : fS (byte (with2 xs i 0)) n % 255 = s := by rw [← hs, fS_congr fun j _ => byte_with2_zero (by omega) j]
  have e2 : fT (byte (with2 xs i 0)) n n % 255 = t := by rw [← ht, fT_congr fun j _ => byte_with2_zero (by omega) j]
  have hby : Bytes (with2 xs i 0) := hb.with2 (by omega) (by omega) (by omega)
  have H2 : Hid (∀ (A' : Option Addr) (c' B : Nat) (w2 : World), Ints w2 B .u8 A' n c' (with2 xs i 0) → Calls Try.prog 23 #[.slice A' n c'] w2 fun e w' => e = .returned (.tuple #[.int .i64 s, .int .i64 t]) ∧ w2 = w') := by
    intro A' c' B w2 h
    have := refSums_any A' n c' B _ w2 h hby hn
    rw [e1, e2] at this
    exact this
  have hX : cX xs n i = fX s t n i := by rw [cX, hs, ht]
  have hY : cY xs n i = 255 - (s + fX s t n i) % 255 := by rw [cY, hs, hX, fY_eq]
  have hit1 := hit_fX s t n i
  have hXb : 1 ≤ fX s t n i ∧ fX s t n i ≤ 255 := res_bd _
  have honly : ∀ m : Int, 1 ≤ m → m ≤ 255 → m ≠ fX s t n i → hit s t n i m ≠ 0 := fun m h1 h2 h3 h4 => h3 (hit_only h4 h1 h2)
  obtain ⟨X, hXX⟩ : ∃ X, fX s t n i = X := ⟨_, rfl⟩
  rw [hXX] at hX hY hit1 hXb honly
  have HX := Lib.hid hX
  have HY := Lib.hid hY
  have HI := Lib.hid hit1
  have HN := Lib.hid honly
  obtain ⟨wv, hwv⟩ : ∃ wv, ((n : Int) - i) % 255 = wv := ⟨_, rfl⟩
  have bw : 0 ≤ wv ∧ wv ≤ 254 := by omega
  have HW := Lib.hid hwv
  have d0 : decide ((i : Int) < 0) = false := by simp
  have d1 : decide ((n : Int) - 1 ≤ (i : Int)) = false := by simp; omega
  clear hx hs ht hb e1 e2 hby hX hY hit1 honly hXX hwv hl
  go_enter Try.func14, Try.ntmps14
  go_wp2_with fail
  refine H1.out.mono ?_
  rintro e w1 ⟨A1, c1, rfl, ho1, hb1⟩
  have HB := Lib.hid hb1
  have HO := Lib.hid ho1
  clear hb1 ho1
  go_wp2_with fail
  refine (H2.out A1 c1 _ _ HO.out.ints).mono ?_
  rintro e w2 ⟨rfl, rfl⟩
  go_wp2
  rw [HW.out]
  go_loop [9] (fun x => ∃ m : Int, 1 ≤ m ∧ m ≤ X ∧ x = .int .i64 m) (fun x => (255 - intOf x).toNat)
  case atStart => exact ⟨1, by omega, by omega, rfl⟩
  case round =>
    obtain ⟨m, hm1, hm2, rfl⟩ := hrel
    have p0 : 0 ≤ wv * m := Int.mul_nonneg (by omega) (by omega)
    have p1 : wv * m ≤ 255 * 255 := Int.mul_le_mul (by omega) (by omega) (by omega) (by omega)
    have q0 : 0 ≤ (wv + 254) % 255 * (255 - (s + m) % 255) := Int.mul_nonneg (by omega) (by omega)
    have q1 : (wv + 254) % 255 * (255 - (s + m) % 255) ≤ 255 * 255 := Int.mul_le_mul (by omega) (by omega) (by omega) (by omega)
    by_cases hm : m = X
    · subst hm
      have hh := HI.out
      unfold hit at hh
      rw [HW.out] at hh
      have dd : ((t + wv * m + (wv + 254) % 255 * (255 - (s + m) % 255)) % 255 == 0) = true := by simp [hh]
      clear hh
      go_wp2
      go_ret2
      exact ⟨ret_t2 (int_eq (by rw [HX.out, HY.out]; omega)) rfl, HB.out⟩
    · have hh := HN.out m hm1 (by omega) hm
      unfold hit at hh
      rw [HW.out] at hh
      have dd : ((t + wv * m + (wv + 254) % 255 * (255 - (s + m) % 255)) % 255 == 0) = false := by simp [hh]
      clear hh
      go_wp2
      go_round
      case rel => exact ⟨m + 1, by omega, by omega, rfl⟩
      case measure => simp [intOf]; omega

theorem refFletcher_bad (A : Option Addr) (n c : Nat) (i : Int) (w : World) (hn : n ≤ 140737488355328) (h : i < 0 ∨ (n : Int) - 1 ≤ i) :
    Calls Try.prog 14 #[.slice A n c, .int .i64 i] w fun e w' => e = .returned (.tuple #[.int .i64 0, .bool false]) ∧ w = w' := by
  by_cases h1 : i < 0
  · have d0 : decide (i < 0) = true := by simp [h1]
    clear h h1
    go_enter Try.func14, Try.ntmps14
    go_wp2
    go_ret2
    exact ⟨rfl, rfl⟩
  · have d0 : decide (i < 0) = false := by simp; omega
    have d1 : decide ((n : Int) - 1 ≤ i) = true := by simp; omega
    clear h h1
    go_enter Try.func14, Try.ntmps14
    go_wp2
    go_ret2
    exact ⟨rfl, rfl⟩

theorem cXY_bd (xs : List Int) (n i : Nat) : 1 ≤ cX xs n i ∧ cX xs n i ≤ 255 ∧ 1 ≤ cY xs n i ∧ cY xs n i ≤ 255 := by
  have h1 := res_bd (((n : Int) - i - 1) % 255 * (fS (skipped xs i) n % 255) - fT (skipped xs i) n n % 255)
  have h2 := res_bd (-(fS (skipped xs i) n % 255) - cX xs n i)
  exact ⟨h1.1, h1.2, h2.1, h2.2⟩
/-- the bytes with the checksum in its place -/
def sealedXs (xs : List Int) (n i : Nat) : List Int := with2 xs i (256 * cX xs n i + cY xs n i)

/-- what 'sealed' hands back: a slice of the call's own -/
def GivesSealed (n : Nat) (xs : List Int) (w : World) (e : Ending) (w' : World) : Prop :=
  ∃ A c, e = .returned (.tuple #[.slice A n c, .bool true]) ∧ Own w' w.heap.size 5 .u8 (.slice A n c) n xs ∧ Below w.heap.size w w'

set_option maxHeartbeats 400000 in
theorem sealed_ok (A : Option Addr) (n c i : Nat) (xs : List Int) (w : World) (hx : Ints w w.heap.size .u8 A n c xs) (hb : Bytes xs) (hn : n ≤ 140737488355328) (hi : i + 1 < n) :
    Calls Try.prog 19 #[.slice A n c, .int .i64 i] w (GivesSealed n (sealedXs xs n i) w) := by
  have bd := cXY_bd xs n i
  have H1 := Lib.hid (fletcher_ok A n c i xs w hx hb hn hi)
  have d0 : decide ((i : Int) < 0) = false := by simp
  have d1 : decide ((n : Int) - 1 ≤ (i : Int)) = false := by simp; omega
  obtain ⟨v, hv⟩ : ∃ v, 256 * cX xs n i + cY xs n i = v := ⟨_, rfl⟩
  have HV := Lib.hid hv
  have bv : 0 ≤ v ∧ v ≤ 65535 := by omega
  rw [hv] at H1
  have HX := Lib.hid hx
  clear hv hb hx bd
  go_enter Try.func19, Try.ntmps19
  go_wp2_with fail
  refine H1.out.mono ?_
  rintro e w1 ⟨rfl, hb1⟩
  have HB := Lib.hid hb1
  clear hb1
  go_wp2_with fail
  refine (with_any A n c i v xs w1 ((HX.out.below HB.out).more HB.out.size) hi bv.1 bv.2 hn).mono ?_
  rintro e w2 ⟨A2, c2, rfl, ho2, hb2⟩
  have HO := Lib.hid ho2
  have HB2 := Lib.hid hb2
  clear ho2 hb2
  go_wp2
  go_ret2
  refine ⟨A2, c2, rfl, ?_, HB.out.trans (HB2.out.mono HB.out.size)⟩
  rw [sealedXs, HV.out]
  exact own_mono HO.out HB.out.size

theorem sealed_bad (A : Option Addr) (n c : Nat) (i : Int) (w : World) (hn : n ≤ 140737488355328) (h : i < 0 ∨ (n : Int) - 1 ≤ i) :
    Calls Try.prog 19 #[.slice A n c, .int .i64 i] w fun e w' => e = .returned (.tuple #[.slice none 0 0, .bool false]) ∧ w = w' := by
  have H1 := Lib.hid (fletcher_bad A n c i w hn h)
  go_enter Try.func19, Try.ntmps19
  go_wp2_with fail
  refine H1.out.mono ?_
  rintro e w1 ⟨rfl, rfl⟩
  go_wp2
  go_ret2
  exact ⟨rfl, rfl⟩
end Go.Proofs.Yteomipmhehpbhaa
