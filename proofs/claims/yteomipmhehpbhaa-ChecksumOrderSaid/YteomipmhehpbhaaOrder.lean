/- 'ChecksumOrder': the words' order does not matter: the walk of the law. -/
import Derived.Test.YteomipmhehpbhaaLaws
namespace Go.Proofs.Yteomipmhehpbhaa
open Go.RowKit

set_option maxHeartbeats 2000000 in
theorem order_bad (A : Option Addr) (n c : Nat) (i k : Int) (w : World) (hn : n ≤ 140737488355328) (h : (n : Int) % 2 ≠ 0 ∨ i < 0 ∨ (n : Int) / 2 ≤ i ∨ k < 0 ∨ (n : Int) / 2 ≤ k) :
    Calls Try.prog 9 #[.slice A n c, .int .i64 i, .int .i64 k] w fun e w' => e = .returned (.bool true) ∧ Below w.heap.size w w' := by
  by_cases h0 : (n : Int) % 2 = 0
  case neg =>
    have d0 : ((n : Int) % 2 != 0) = true := by simp; omega
    clear h h0
    go_enter Try.func9, Try.ntmps9
    go_wp2_with fail
    refine (lives_any _).mono ?_
    rintro e w1 ⟨rfl, hb1⟩
    have HB1 := Lib.hid hb1
    clear hb1
    go_wp2
    go_ret
    exact ⟨rfl, HB1.out⟩
  have d0 : ((n : Int) % 2 != 0) = false := by simp [h0]
  by_cases h1 : i < 0
  · have d1 : decide (i < 0) = true := by simp [h1]
    clear h h0 h1
    go_enter Try.func9, Try.ntmps9
    go_wp2_with fail
    refine (lives_any _).mono ?_
    rintro e w1 ⟨rfl, hb1⟩
    have HB1 := Lib.hid hb1
    clear hb1
    go_wp2
    go_ret
    exact ⟨rfl, HB1.out⟩
  have d1 : decide (i < 0) = false := by simp; omega
  by_cases h2 : (n : Int) / 2 ≤ i
  · have d2 : decide ((n : Int) / 2 ≤ i) = true := by simp [h2]
    clear h h0 h1 h2
    go_enter Try.func9, Try.ntmps9
    go_wp2_with fail
    refine (lives_any _).mono ?_
    rintro e w1 ⟨rfl, hb1⟩
    have HB1 := Lib.hid hb1
    clear hb1
    go_wp2
    go_ret
    exact ⟨rfl, HB1.out⟩
  have d2 : decide ((n : Int) / 2 ≤ i) = false := by simp; omega
  by_cases h3 : k < 0
  · have d3 : decide (k < 0) = true := by simp [h3]
    clear h h0 h1 h2 h3
    go_enter Try.func9, Try.ntmps9
    go_wp2_with fail
    refine (lives_any _).mono ?_
    rintro e w1 ⟨rfl, hb1⟩
    have HB1 := Lib.hid hb1
    clear hb1
    go_wp2
    go_ret
    exact ⟨rfl, HB1.out⟩
  have d3 : decide (k < 0) = false := by simp; omega
  have h4 : (n : Int) / 2 ≤ k := by omega
  have d4 : decide ((n : Int) / 2 ≤ k) = true := by simp [h4]
  clear h h0 h1 h2 h3 h4
  go_enter Try.func9, Try.ntmps9
  go_wp2_with fail
  refine (lives_any _).mono ?_
  rintro e w1 ⟨rfl, hb1⟩
  have HB1 := Lib.hid hb1
  clear hb1
  go_wp2
  go_ret
  exact ⟨rfl, HB1.out⟩

set_option maxHeartbeats 2000000 in
theorem order_ok (A : Option Addr) (n c p q : Nat) (xs : List Int) (w : World) (hx : Ints w w.heap.size .u8 A n c xs) (hb : Bytes xs) (hn : n ≤ 140737488355328) (h0 : (n : Int) % 2 = 0) (hp : 2 * p + 1 < n) (hq : 2 * q + 1 < n) :
    Calls Try.prog 9 #[.slice A n c, .int .i64 p, .int .i64 q] w fun e w' => e = .returned (.bool true) ∧ Below w.heap.size w w' := by
  have hl := hx.len
  obtain ⟨v2, w2, HR, ho2, hb2⟩ := copy_bytes hx (Nat.le_refl _) hn
  obtain ⟨g, cap, rfl, hbg, hlt⟩ := ho2.form (by omega)
  have u0 := ho2.cell (j := 2 * p) (by omega)
  have u1 := ho2.cell (j := 2 * p + 1) hp
  have u2 := ho2.cell (j := 2 * q) (by omega)
  have u3 := ho2.cell (j := 2 * q + 1) hq
  have f0 := ho2.frozen (2 * p)
  have f1 := ho2.frozen (2 * p + 1)
  have f2 := ho2.frozen (2 * q)
  have f3 := ho2.frozen (2 * q + 1)
  have hx2 := hx.below hb2
  obtain ⟨b, o, x0, rfl, hbB, c0, e0⟩ := hx2.cell (j := 2 * p) (by omega)
  obtain ⟨b', o', x1, e', _, c1, e1⟩ := hx2.cell (j := 2 * p + 1) hp
  simp only [Option.some.injEq, Addr.mk.injEq, and_true] at e'
  obtain ⟨rfl, rfl⟩ := e'
  obtain ⟨b', o', y0, e', _, c2, e2⟩ := hx2.cell (j := 2 * q) (by omega)
  simp only [Option.some.injEq, Addr.mk.injEq, and_true] at e'
  obtain ⟨rfl, rfl⟩ := e'
  obtain ⟨b', o', y1, e', _, c3, e3⟩ := hx2.cell (j := 2 * q + 1) hq
  simp only [Option.some.injEq, Addr.mk.injEq, and_true] at e'
  obtain ⟨rfl, rfl⟩ := e'
  rw [e0.out] at u0
  rw [e1.out] at u1
  rw [e2.out] at u2
  rw [e3.out] at u3
  have hne : b ≠ g := by omega
  have HS : Hid (((((xs.set (2 * p) y0).set (2 * p + 1) y1).set (2 * q) x0).set (2 * q + 1) x1) = swapped xs p q) := by
    show _ = _
    rw [swapped, e0.out, e1.out, e2.out, e3.out]
  have HI := Lib.hid (wsum_swapped hl hp hq)
  have HYS := Lib.hid (hb.swapped hl hp hq)
  have HO := Lib.hid ((((ho2.set (2 * p) y0).set (2 * p + 1) y1).set (2 * q) x0).set (2 * q + 1) x1)
  have HB := Lib.hid ((((hb2.setCell (p := ⟨g, 2 * p, none⟩) hbg (.int .u8 y0)).setCell (p := ⟨g, 2 * p + 1, none⟩) hbg (.int .u8 y1)).setCell (p := ⟨g, 2 * q, none⟩) hbg (.int .u8 x0)).setCell (p := ⟨g, 2 * q + 1, none⟩) hbg (.int .u8 x1))
  have HX := Lib.hid (hx.below HB.out)
  have HBY := Lib.hid hb
  have d0 : ((n : Int) % 2 != 0) = false := by simp [h0]
  have d1 : decide ((p : Int) < 0) = false := by simp
  have d2 : decide ((n : Int) / 2 ≤ (p : Int)) = false := by simp; omega
  have d3 : decide ((q : Int) < 0) = false := by simp
  have d4 : decide ((n : Int) / 2 ≤ (q : Int)) = false := by simp; omega
  have l1 : 2 * p ≠ 2 * q + 1 := by omega
  have l2 : 2 * p + 1 ≠ 2 * q := by omega
  have P1 : p < n := by omega
  have P2 : q < n := by omega
  clear hx hx2 ho2 hb2 hb h0 hl e0 e1 e2 e3
  by_cases hpq : p = q
  · subst hpq
    obtain rfl : x0 = y0 := by
      rw [c0] at c2
      simpa using c2
    obtain rfl : x1 = y1 := by
      rw [c1] at c3
      simpa using c3
    clear c2 c3 u2 u3 f2 f3 d3 d4
    go_enter Try.func9, Try.ntmps9
    go_wp2_with (at_builtin; refine wpList_append_run rfl _ _ _ rfl rfl rfl HR.out ?_)
    refine (internet_any _ n c _ xs _ HX.out HBY.out hn).mono ?_
    rintro e w' ⟨rfl, rfl⟩
    go_wp2_with fail
    refine (internet_any _ n cap _ _ _ HO.out.ints (by rw [HS.out]; exact HYS.out) hn).mono ?_
    rintro e w' ⟨rfl, rfl⟩
    rw [HS.out, HI.out]
    go_wp2_with fail
    refine (lives_any _).mono ?_
    rintro e w1 ⟨rfl, hb1⟩
    have HB1 := Lib.hid hb1
    clear hb1
    go_wp2
    go_ret
    exact ⟨rfl, below3 HB.out HB1.out⟩
  · have l3 : 2 * p ≠ 2 * q := by omega
    have l4 : 2 * p + 1 ≠ 2 * q + 1 := by omega
    clear hpq
    go_enter Try.func9, Try.ntmps9
    go_wp2_with (at_builtin; refine wpList_append_run rfl _ _ _ rfl rfl rfl HR.out ?_)
    refine (internet_any _ n c _ xs _ HX.out HBY.out hn).mono ?_
    rintro e w' ⟨rfl, rfl⟩
    go_wp2_with fail
    refine (internet_any _ n cap _ _ _ HO.out.ints (by rw [HS.out]; exact HYS.out) hn).mono ?_
    rintro e w' ⟨rfl, rfl⟩
    rw [HS.out, HI.out]
    go_wp2_with fail
    refine (lives_any _).mono ?_
    rintro e w1 ⟨rfl, hb1⟩
    have HB1 := Lib.hid hb1
    clear hb1
    go_wp2
    go_ret
    exact ⟨rfl, below3 HB.out HB1.out⟩

theorem checksumOrder_walk (A : Option Addr) (n c : Nat) (xs : List Int) (i k : Int) (w : World) (hx : Ints w w.heap.size .u8 A n c xs) (hwf : ∀ x ∈ xs, (Lit.int .u8 x).wf = true) (hr : c * 1 ≤ 140737488351232) (_hi : (Lit.int .i64 i).wf = true) (_hk : (Lit.int .i64 k).wf = true) :
    Calls Try.prog 9 #[.slice A n c, .int .i64 i, .int .i64 k] w fun e w' => e = .returned (.bool true) ∧ Below w.heap.size w w' := by
  have hn : n ≤ 140737488355328 := by have := hx.1; omega
  by_cases h : (n : Int) % 2 ≠ 0 ∨ i < 0 ∨ (n : Int) / 2 ≤ i ∨ k < 0 ∨ (n : Int) / 2 ≤ k
  · exact order_bad A n c i k w hn h
  · obtain ⟨p, rfl⟩ := Int.eq_ofNat_of_zero_le (show 0 ≤ i by omega)
    obtain ⟨q, rfl⟩ := Int.eq_ofNat_of_zero_le (show 0 ≤ k by omega)
    exact order_ok A n c p q xs w hx (bytes_wf hwf) hn (by omega) (by omega) (by omega)
end Go.Proofs.Yteomipmhehpbhaa
