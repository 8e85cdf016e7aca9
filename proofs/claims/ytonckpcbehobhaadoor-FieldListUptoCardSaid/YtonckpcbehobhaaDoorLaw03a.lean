/- FieldNumbers: the walk. -/
import Derived.Test.YtonckpcbehobhaaDoorAwake03
import Derived.Test.YtonckpcbehobhaaDoorOpen
namespace Go.Proofs.YtonckpcbehobhaaDoor
open Go.RowKit

/-- what Get returns -/
def getR (xs : List Int) (i n : Int) : Int × Bool := if n < 0 ∨ 8 < n ∨ i < 0 ∨ (xs.length : Int) - n < i then (0, false) else (num xs i.toNat n.toNat, true)
section
variable (A : Option Addr) (len c B : Nat) (xs : List Int) (w : World) (hx : Ints w B .u8 A len c xs) (hb : Bytes xs) (i n : Int) (hlen : len ≤ 140737488355328)
    (hn : -9223372036854775808 ≤ n ∧ n ≤ 9223372036854775807) (hi : -9223372036854775808 ≤ i ∧ i ≤ 9223372036854775807)
include hx hb hlen hn hi
theorem get_any : Calls Tryd.prog 10 #[.slice A len c, .int .i64 i, .int .i64 n] w fun e w' => e = .returned (.tuple #[.int .u64 (getR xs i n).1, .bool (getR xs i n).2]) ∧ w = w' := by
  by_cases h : n < 0 ∨ 8 < n ∨ i < 0 ∨ (xs.length : Int) - n < i
  · rw [show getR xs i n = (0, false) by unfold getR; rw [if_pos h]]
    rw [hx.len] at h
    exact get_bad A len c w i n h hlen hn hi
  · rw [show getR xs i n = (num xs i.toNat n.toNat, true) by unfold getR; rw [if_neg h]]
    rw [hx.len] at h
    obtain ⟨a, rfl⟩ : ∃ a : Nat, i = (a : Int) := ⟨i.toNat, by omega⟩
    obtain ⟨b, rfl⟩ : ∃ b : Nat, n = (b : Int) := ⟨n.toNat, by omega⟩
    rw [Int.toNat_natCast, Int.toNat_natCast]
    exact get_ok A len c B xs w hx hb a b (by omega) (by omega) hlen
theorem refGet_any : Calls Tryd.prog 11 #[.slice A len c, .int .i64 i, .int .i64 n] w fun e w' => e = .returned (.tuple #[.int .u64 (getR xs i n).1, .bool (getR xs i n).2]) ∧ w = w' := by
  by_cases h : n < 0 ∨ 8 < n ∨ i < 0 ∨ (xs.length : Int) - n < i
  · rw [show getR xs i n = (0, false) by unfold getR; rw [if_pos h]]
    rw [hx.len] at h
    exact refGet_bad A len c w i n h hlen hn hi
  · rw [show getR xs i n = (num xs i.toNat n.toNat, true) by unfold getR; rw [if_neg h]]
    rw [hx.len] at h
    obtain ⟨a, rfl⟩ : ∃ a : Nat, i = (a : Int) := ⟨i.toNat, by omega⟩
    obtain ⟨b, rfl⟩ : ∃ b : Nat, n = (b : Int) := ⟨n.toNat, by omega⟩
    rw [Int.toNat_natCast, Int.toNat_natCast]
    exact refGet_ok A len c B xs w hx hb a b (by omega) (by omega) hlen
end
set_option maxRecDepth 100000 in
set_option maxHeartbeats 2000000 in
theorem fieldNumbers_walk (A : Option Addr) (n c : Nat) (xs : List Int) (at_ k x : Int) (w : World) (hx : Ints w w.heap.size .u8 A n c xs) (hwf : ∀ x ∈ xs, (Lit.int .u8 x).wf = true) (hr : c * 1 ≤ 140737488351232) (ha : (Lit.int .i64 at_).wf = true) (hk : (Lit.int .i64 k).wf = true) (hxx : (Lit.int .u64 x).wf = true) (henv : Env w) :
    Calls Tryd.prog 3 #[.slice A n c, .int .i64 at_, .int .i64 k, .int .u64 x] w fun e w' => e = .returned (.bool true) ∧ Below w.heap.size w w' := by
  have hnc := hx.1
  have HX := Lib.hid hx
  have HBY := Lib.hid (bytes_of_wf hwf)
  have HA := Lib.hid (bounds_i64 ha)
  have HK := Lib.hid (bounds_i64 hk)
  have HU := Lib.hid (bounds_u64 hxx)
  have HENV := Lib.hid henv
  have hn1 : n ≤ 140737488351232 := by omega
  clear hx hwf hr ha hk hxx henv
  go_enter Tryd.func3, Tryd.ntmps3
  go_wp2_with fail
  refine (get_any A n c _ xs w HX.out HBY.out at_ k (by omega) HK.out HA.out).mono ?_
  rintro e w1 ⟨rfl, rfl⟩
  obtain ⟨⟨g, ok⟩, hg⟩ : ∃ g, getR xs at_ k = g := ⟨_, rfl⟩
  have HG := Lib.hid (refGet_any A n c _ xs w HX.out HBY.out at_ k (by omega) HK.out HA.out)
  rw [hg] at HG ⊢
  clear hg
  go_wp2_with fail
  refine HG.out.mono ?_
  rintro e w1 ⟨rfl, rfl⟩
  go_wp2_with fail
  refine (awake_any w HENV.out).mono ?_
  rintro e w1 ⟨rfl, hb1⟩
  have HB1 := Lib.hid hb1
  have HX1 := Lib.hid ((HX.out.below hb1).more hb1.size)
  clear hb1 HG
  go_wp2_with fail
  refine (put_any A n c k x xs _ HX1.out hn1 (by have := HU.out; omega) (by have := HU.out; omega) HK.out).mono ?_
  rintro e w2 ⟨A2, c2, rfl, ho2, hb2⟩
  have HI2 := Lib.hid ho2.ints
  have HB2 := Lib.hid (below3 HB1.out hb2)
  have HX2 := Lib.hid ((HX1.out.below hb2).more hb2.size)
  clear ho2 hb2
  go_wp2_with fail
  refine (refPut_any A n c k x xs _ HX2.out hn1 (by have := HU.out; omega) (by have := HU.out; omega) HK.out).mono ?_
  rintro e w3 ⟨A3, c3, rfl, ho3, hb3⟩
  have HI3 := Lib.hid ho3.ints
  have HB3 := Lib.hid (below3 HB2.out hb3)
  have HI2' := Lib.hid (HI2.out.below hb3)
  have hcl := clamp8_le k
  clear ho3 hb3
  go_wp2_with fail
  refine (sameBytes_any _ _ _ c2 _ c3 _ _ _ _ _ HI2'.out HI3.out (by omega) (by omega)).mono ?_
  rintro e w4 ⟨rfl, rfl⟩
  rw [decide_eq_true rfl]
  go_wp2
  go_ret
  exact ⟨by simp, HB3.out⟩
end Go.Proofs.YtonckpcbehobhaaDoor
