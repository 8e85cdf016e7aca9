/- The reference's Decimal. -/
import Derived.Test.YteohdanlcaoaiaaDoorNumber
import Derived.Laws.BytesArg
namespace Go.Proofs.YteohdanlcaoaiaaDoor
open Go.RowKit

theorem dig_conv (w : World) (y : Int) : (convert 79 9 (.slice (some ⟨w.heap.size, 0, none⟩) 1 1)).run Tryd.prog (w.alloc (.cells #[.int .u8 y] 5)) = .ok (.string (strOfNums [y])) (w.alloc (.cells #[.int .u8 y] 5)) := by
  refine run_convert_bytes_arg _ 79 5 Tryd.underlying79 Tryd.underlying5 w.heap.size 0 1 1 [y] rfl (fun i hi => ?_) 9 Tryd.underlying9
  obtain rfl : i = 0 := by omega
  go_simp
theorem dec_len (n : Nat) : ∀ u, u < n → (Lib.decDigits u).length ≤ u + 1 := by
  induction n with
  | zero => intro u h; omega
  | succ n ih =>
    intro u hu
    by_cases h : u < 10
    · rw [Lib.decDigits_one h]; simp
    · rw [Lib.decDigits, dif_neg h, List.length_append, List.length_singleton]
      have := ih (u / 10) (by omega)
      omega
theorem digits_any : ∀ (n : Nat) (x : Nat) (w : World), x < n → x < 18446744073709551616 →
    Calls Tryd.prog 67 #[.int .u64 x] w fun e w' => e = .returned (.string ⟨(Lib.decDigits x).toArray⟩) ∧ Below w.heap.size w w' := by
  intro n
  induction n with
  | zero => intro x w h; omega
  | succ n ih =>
    intro x w hxn hx
    have hcv := dig_conv w (48 + (x : Int) % 10)
    have HT : Hid (strOfNums [48 + (x : Int) % 10] = ⟨#[UInt8.ofNat (48 + x % 10)]⟩) := by
      have e : (48 + (x : Int) % 10).toNat = 48 + x % 10 := by omega
      show _ = _
      simp [strOfNums, e]
    obtain ⟨t, ht⟩ : ∃ t, strOfNums [48 + (x : Int) % 10] = t := ⟨_, rfl⟩
    rw [ht] at hcv HT
    have HB := Lib.hid ((Below.refl w.heap.size w).alloc (Nat.le_refl _) (.cells #[.int .u8 (48 + (x : Int) % 10)] 5))
    have IH : Hid (∀ (w : World), ¬ x < 10 → Calls Tryd.prog 67 #[.int .u64 ((x : Int) / 10)] w fun e w' => e = .returned (.string ⟨(Lib.decDigits (x / 10)).toArray⟩) ∧ Below w.heap.size w w') := fun w h => by
      have := ih (x / 10) w (by omega) (by omega)
      rwa [show ((x / 10 : Nat) : Int) = (x : Int) / 10 by omega] at this
    clear ht ih
    by_cases h10 : x < 10
    · have d : decide ((x : Int) < 10) = true := by simp; omega
      have HF : Hid (t = ⟨(Lib.decDigits x).toArray⟩) := by
        show _ = _
        rw [HT.out, Lib.decDigits_one h10, show x % 10 = x by omega]
      clear h10
      go_enter Tryd.func67, Tryd.ntmps67
      go_wp2
      go_ret
      refine ⟨?_, HB.out⟩
      rw [← HF.out]
      rfl
    · have d : decide ((x : Int) < 10) = false := by simp; omega
      have HF : Hid (∀ s : ByteArray, s = ⟨(Lib.decDigits (x / 10)).toArray⟩ → s ++ t = ⟨(Lib.decDigits x).toArray⟩) := by
        intro s hs
        rw [hs, HT.out]
        refine ByteArray.ext ?_
        rw [ByteArray.data_append]
        conv => rhs; rw [Lib.decDigits, dif_neg h10]
        simp
      have h10' := Lib.hid h10
      clear h10
      go_enter Tryd.func67, Tryd.ntmps67
      go_wp2_with fail
      refine (IH.out _ h10'.out).mono ?_
      rintro e w1 ⟨rfl, hb⟩
      have HB1 := Lib.hid (HB.out.trans (hb.mono HB.out.size))
      obtain ⟨s, hs⟩ : ∃ s : ByteArray, s = ⟨(Lib.decDigits (x / 10)).toArray⟩ := ⟨_, rfl⟩
      have HS := Lib.hid (HF.out s hs)
      have hsz : s.size + t.size ≤ 9223372036854775807 := by
        have h1 : s.size ≤ x / 10 + 1 := by
          rw [hs]
          show (Lib.decDigits (x / 10)).toArray.size ≤ _
          rw [List.size_toArray]
          exact dec_len (x / 10 + 1) (x / 10) (by omega)
        have h2 : t.size = 1 := by rw [HT.out]; rfl
        omega
      have hsz2 : (s.size : Int) + (t.size : Int) ≤ 9223372036854775807 := by omega
      rw [← hs]
      clear hb hs
      go_wp2
      go_ret
      refine ⟨?_, HB1.out⟩
      rw [← HS.out]
      rfl
set_option maxHeartbeats 1000000 in
theorem refDecimal_any (n : Int) (w : World) (h0 : -9223372036854775808 ≤ n) (h1 : n ≤ 9223372036854775807) :
    Calls Tryd.prog 61 #[.int .i64 n] w fun e w' => e = .returned (.string ⟨(Lib.itoa n).toArray⟩) ∧ Below w.heap.size w w' := by
  by_cases hn : n < 0
  · obtain ⟨x, rfl⟩ : ∃ x : Nat, n = -(x : Int) := ⟨(-n).toNat, by omega⟩
    have d : decide (-(x : Int) < 0) = true := by simp; omega
    have HC : Hid (∀ w, Calls Tryd.prog 67 #[.int .u64 (x : Int)] w fun e w' => e = .returned (.string ⟨(Lib.decDigits x).toArray⟩) ∧ Below w.heap.size w w') := fun w => digits_any (x + 1) x w (by omega) (by omega)
    have HF : Hid (Lib.itoa (-(x : Int)) = 45 :: Lib.decDigits x) := by
      show _ = _
      unfold Lib.itoa
      rw [if_pos hn, Int.natAbs_neg, Int.natAbs_natCast]
    have HL : Hid ((Lib.decDigits x).length ≤ 9223372036854775806) := by
      show _ ≤ _
      by_cases h : x < 10
      · rw [Lib.decDigits_one h]; simp
      · rw [Lib.decDigits, dif_neg h, List.length_append, List.length_singleton]
        have := dec_len (x / 10 + 1) (x / 10) (by omega)
        omega
    have hw1 : IntKind.i64.wrap (-(x : Int) + 1) = -(x : Int) + 1 := IntWalk.i64_in _ (by omega)
    have hw2 : IntKind.i64.wrap (-(-(x : Int) + 1)) = (x : Int) - 1 := by rw [IntWalk.i64_in _ (by omega)]; omega
    have hw3 : IntKind.u64.wrap ((x : Int) - 1) = (x : Int) - 1 := by rw [IntKind.wrap_u64]; omega
    have hw4 : IntKind.u64.wrap ((x : Int) - 1 + 1) = (x : Int) := by rw [IntKind.wrap_u64]; omega
    have hx0 : 0 < x := by omega
    clear hn
    go_enter Tryd.func61, Tryd.ntmps61
    go_wp2_with fail
    refine (HC.out w).mono ?_
    rintro e w1 ⟨rfl, hb⟩
    have HB := Lib.hid hb
    obtain ⟨s, hs⟩ : ∃ s : ByteArray, s = ⟨(Lib.decDigits x).toArray⟩ := ⟨_, rfl⟩
    have hss : s.size = (Lib.decDigits x).length := by rw [hs]; show (Lib.decDigits x).toArray.size = _; rw [List.size_toArray]
    have hsz : 1 + s.size ≤ 9223372036854775807 := by have := HL.out; omega
    have hsz2 : (1 : Int) + (s.size : Int) ≤ 9223372036854775807 := by omega
    have HS : Hid ((⟨#[45]⟩ : ByteArray) ++ s = ⟨(Lib.itoa (-(x : Int))).toArray⟩) := by
      show _ = _
      rw [HF.out, hs]
      refine ByteArray.ext ?_
      rw [ByteArray.data_append]
      simp
    rw [← hs]
    clear hb hs hss
    go_wp2
    go_ret
    refine ⟨?_, HB.out⟩
    rw [← HS.out]
    rfl
  · obtain ⟨x, rfl⟩ : ∃ x : Nat, n = (x : Int) := ⟨n.toNat, by omega⟩
    have d : decide ((x : Int) < 0) = false := by simp
    have HC := Lib.hid (digits_any (x + 1) x w (by omega) (by omega))
    have HF : Hid (Lib.itoa (x : Int) = Lib.decDigits x) := by
      show _ = _
      unfold Lib.itoa
      rw [if_neg hn, Int.toNat_natCast]
    clear hn
    go_enter Tryd.func61, Tryd.ntmps61
    go_wp2_with fail
    refine HC.out.mono ?_
    rintro e w1 ⟨rfl, hb⟩
    have HB := Lib.hid hb
    clear hb
    go_wp2
    go_ret
    rw [HF.out]
    exact ⟨rfl, HB.out⟩
end Go.Proofs.YteohdanlcaoaiaaDoor
