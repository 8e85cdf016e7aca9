/- FieldBack: the walk. -/
import Derived.Test.YtonckpcbehobhaaDoorAwake03
import Derived.Test.YtonckpcbehobhaaDoorBackLaw
import Derived.Test.YtonckpcbehobhaaDoorOpen
import Derived.Deep.DeepCutAuto
namespace Go.Proofs.YtonckpcbehobhaaDoor
open Go.RowKit

theorem bytes_mem {xs : List Int} : Bytes xs ↔ ∀ y ∈ xs, 0 ≤ y ∧ y ≤ 255 := by
  constructor
  · intro h y hy
    obtain ⟨j, hj⟩ := List.getElem?_of_mem hy
    have := h j
    rwa [List.getD_eq_getElem?_getD, hj] at this
  · intro h j
    rw [List.getD_eq_getElem?_getD]
    cases hj : xs[j]? with
    | none => simp
    | some y => exact h y (List.mem_of_getElem? hj)
theorem pb_bytes (x : Int) : ∀ m, ∀ y ∈ pb x m, 0 ≤ y ∧ y ≤ 255
  | 0, y, h => by simp [pb] at h
  | m + 1, y, h => by
    rw [pb] at h
    rcases List.mem_cons.1 h with rfl | h
    · omega
    · exact pb_bytes x m y h
theorem bytes_append {xs ys : List Int} (h : Bytes xs) (h2 : ∀ y ∈ ys, 0 ≤ y ∧ y ≤ 255) : Bytes (xs ++ ys) := bytes_mem.2 fun y hy => by
  rcases List.mem_append.1 hy with hy | hy
  · exact bytes_mem.1 h y hy
  · exact h2 y hy
theorem dec_short : ∀ (m u : Nat), u < 10 ^ (m + 1) → (Lib.decDigits u).length ≤ m + 1
  | 0, u, h => by rw [Lib.decDigits_one (by simpa using h)]; simp
  | m + 1, u, h => by
    by_cases h1 : u < 10
    · rw [Lib.decDigits_one h1]; simp
    · rw [Lib.decDigits, dif_neg h1, List.length_append, List.length_singleton]
      have := dec_short m (u / 10) (by
        have e : 10 ^ (m + 1 + 1) = 10 ^ (m + 1) * 10 := Nat.pow_succ ..
        omega)
      omega
theorem numR_range {l : List Int} {m y : Int} (h : numR l m = (y, 0)) : 0 ≤ y ∧ y ≤ m := by
  by_cases hc : Canon l
  case neg => rw [numR_bad hc] at h; cases h
  by_cases hm : m < val l l.length
  case pos => rw [numR_over hc hm] at h; cases h
  rw [numR_ok hc (by omega)] at h
  simp only [Prod.mk.injEq, and_true] at h
  rw [← h]
  exact ⟨val_nonneg hc.2.2 _ (Nat.le_refl _), by omega⟩
theorem size_of (n : Int) : ∃ sz : Nat, 1 ≤ sz ∧ sz ≤ 8 ∧ wrap64 (1 + (wrap64 (n.tmod 8 + 8)).tmod 8) = (sz : Int) := by
  have hr : -8 < n.tmod 8 ∧ n.tmod 8 < 8 := by
    constructor
    · have := Int.tmod_lt_of_pos (-n) (show (0 : Int) < 8 by omega)
      rw [Int.neg_tmod] at this
      omega
    · exact Int.tmod_lt_of_pos n (by omega)
  obtain ⟨r, hr2⟩ : ∃ r, n.tmod 8 = r := ⟨_, rfl⟩
  rw [hr2] at hr ⊢
  have e1 : wrap64 (r + 8) = r + 8 := IntWalk.wrap64_in _ (by omega)
  have e2 : (r + 8).tmod 8 = (r + 8) % 8 := Int.tmod_eq_emod_of_nonneg (by omega)
  have e3 : wrap64 (1 + (r + 8) % 8) = 1 + (r + 8) % 8 := IntWalk.wrap64_in _ (by omega)
  rw [e1, e2, e3]
  exact ⟨(1 + (r + 8) % 8).toNat, by omega, by omega, by omega⟩
theorem clamp_sz {sz : Nat} (h : sz ≤ 8) : clamp8 (sz : Int) = sz := by unfold clamp8; omega
set_option maxRecDepth 100000 in
set_option maxHeartbeats 4000000 in
theorem fieldBack_walk (A : Option Addr) (len c : Nat) (xs : List Int) (x n k : Int) (s : ByteArray) (w : World) (hx : Ints w w.heap.size .u8 A len c xs) (hwf : ∀ x ∈ xs, (Lit.int .u8 x).wf = true) (hr : c * 1 ≤ 140737488351232)
    (hxx : (Lit.int .u64 x).wf = true) (_hn : (Lit.int .i64 n).wf = true) (hk : (Lit.int .i64 k).wf = true) (hs : s.size ≤ 140737488351232) (henv : Env w) :
    Calls Tryd.prog 6 #[.slice A len c, .int .u64 x, .int .i64 n, .int .i64 k, .string s] w fun e w' => e = .returned (.bool true) ∧ Below w.heap.size w w' := by
  have hnc := hx.1
  have HX := Lib.hid hx
  have HBY : Hid (Bytes xs) := bytes_of_wf hwf
  have hlen := hx.len
  have hU := bounds_u64 hxx
  obtain ⟨xn, rfl⟩ : ∃ xn : Nat, x = (xn : Int) := ⟨x.toNat, by omega⟩
  have HU := Lib.hid hU
  have HK := Lib.hid (bounds_i64 hk)
  have HENV := Lib.hid henv
  have hn1 : len ≤ 140737488351232 := by omega
  obtain ⟨sz, hz0, hz8, hsz⟩ := size_of n
  have HSZ := Lib.hid hsz
  obtain ⟨lo, hlo⟩ : ∃ lo, (xn : Int) % 256 ^ sz = lo := ⟨_, rfl⟩
  have HLO := Lib.hid hlo
  have HNUM : Hid (num (xs ++ pb xn (clamp8 (sz : Int))) len sz = lo) := by
    show _ = _
    rw [clamp_sz hz8, ← hlen, num_pb, hlo]
  have HPB : Hid (Bytes (xs ++ pb xn (clamp8 (sz : Int)))) := bytes_append HBY.out (pb_bytes _ _)
  have HCL : Hid (clamp8 (sz : Int) = sz) := clamp_sz hz8
  clear hx hwf hr hxx hk henv hlen hU hsz hlo
  go_enter Tryd.func6, Tryd.ntmps6
  go_upto_region 3 with fail
  rw [HSZ.out]
  go_upto_if 26 with fail
  go_cut [12] (fun l wx => l = .int .u64 lo ∧ wx = w)
  case first =>
    have hlo := HLO.out
    have hcase : sz = 1 ∨ sz = 2 ∨ sz = 3 ∨ sz = 4 ∨ sz = 5 ∨ sz = 6 ∨ sz = 7 ∨ sz = 8 := by omega
    have hu1 : (xn : Int) ≤ 18446744073709551615 := HU.out.2
    rcases hcase with rfl | rfl | rfl | rfl | rfl | rfl | rfl | rfl
    all_goals
      go_wp2_with fail
      go_meet
      refine ⟨?_, rfl⟩
      rw [← hlo]
      first
        | rfl
        | (rw [show (xn : Int) % 256 ^ 8 = (xn : Int) by omega])
  case rest =>
    obtain ⟨rfl, rfl⟩ := hcut
    go_wp2_with fail
    refine (put_any A len c sz xn xs _ HX.out hn1 (by omega) (by have := HU.out; omega) (by omega)).mono ?_
    rintro e w1 ⟨A1, c1, rfl, ho1, hb1⟩
    have HI1 := Lib.hid ho1.ints
    have HB1 := Lib.hid hb1
    clear ho1 hb1
    rw [HCL.out] at HI1 ⊢
    have hG := get_ok A1 (len + sz) c1 _ (xs ++ pb xn sz) w1 HI1.out (by have := HPB.out; rwa [HCL.out] at this) len sz (by omega) hz8 (by omega)
    have hnum := HNUM.out
    rw [HCL.out] at hnum
    rw [hnum] at hG
    have HG := Lib.hid hG
    clear hG hnum
    go_wp2_with fail
    refine HG.out.mono ?_
    rintro e w2 ⟨rfl, rfl⟩
    clear HG HI1
    go_upto_if 51 with fail
    go_cut [3] (fun v wx => ∃ j : Nat, v = .int .i64 j ∧ (j : Int) ≤ 9223372036854775807 ∧ wx = w1)
    case first =>
      have hk := HK.out
      by_cases h0 : k < 0
      · have d : decide (k < 0) = true := by simp [h0]
        have e1 : wrap64 (-wrap64 (k + 1)) = (((-(k + 1)).toNat : Nat) : Int) := by
          rw [IntWalk.wrap64_in (k + 1) (by omega), IntWalk.wrap64_in _ (by omega)]
          omega
        obtain ⟨j, hj⟩ : ∃ j : Nat, (-(k + 1)).toNat = j := ⟨_, rfl⟩
        have hj2 : (j : Int) ≤ 9223372036854775807 := by omega
        rw [hj] at e1
        go_wp2_with fail
        go_meet
        exact ⟨j, by first | rw [e1] | (congr 1; omega) | trace_state, hj2, rfl⟩
      · have d : decide (k < 0) = false := by simp [h0]
        go_wp2_with fail
        go_meet
        exact ⟨k.toNat, by rw [Int.toNat_of_nonneg (by omega)], by omega, rfl⟩
    case rest =>
      obtain ⟨j, rfl, hj, rfl⟩ := hcut
      have HJ : Hid ((j : Int) ≤ 9223372036854775807) := hj
      clear hj
      go_wp2_with fail
      refine (decimal_any j (by omega) HJ.out wc (HENV.out.below HB1.out)).mono ?_
      rintro e w3 ⟨rfl, hb3⟩
      have HB3 := Lib.hid (below3 HB1.out hb3)
      clear hb3
      have HD := Lib.hid (num_dec j)
      have HSH : Hid ((⟨(Lib.itoa (j : Int)).toArray⟩ : ByteArray).size ≤ 140737488355328) := by
        have hi : Lib.itoa (j : Int) = Lib.decDigits j := by unfold Lib.itoa; rw [if_neg (by omega), Int.toNat_natCast]
        show (Lib.itoa (j : Int)).toArray.size ≤ _
        rw [List.size_toArray, hi]
        have := dec_short 18 j (by have := HJ.out; omega)
        omega
      obtain ⟨t, ht⟩ : ∃ t : ByteArray, (⟨(Lib.itoa (j : Int)).toArray⟩ : ByteArray) = t := ⟨_, rfl⟩
      rw [ht] at HD HSH ⊢
      clear ht
      go_wp2_with fail
      refine (number_walk t j w3 HSH.out (by have := HJ.out; omega)).mono ?_
      rintro e w4 ⟨rfl, rfl⟩
      rw [HD.out]
      go_wp2_with fail
      refine (number_walk s 4611686018427387904 w3 (by omega) (by omega)).mono ?_
      rintro e w4 ⟨rfl, rfl⟩
      obtain ⟨⟨y, e0⟩, hy⟩ : ∃ g, numR (byts s) 4611686018427387904 = g := ⟨_, rfl⟩
      rw [hy]
      by_cases he : e0 = 0
      · subst he
        have hrg := numR_range hy
        have HBD := Lib.hid (back_dec hy)
        have HRG := Lib.hid hrg
        clear hy hrg
        go_wp2_with fail
        refine (decimal_any y (by have := HRG.out; omega) (by have := HRG.out; omega) w3 (HENV.out.below HB3.out)).mono ?_
        rintro e w5 ⟨rfl, hb5⟩
        rw [HBD.out]
        have HB5 := Lib.hid (below3 HB3.out hb5)
        clear hb5
        go_wp2_with fail
        refine (awake_any w5 (HENV.out.below HB5.out)).mono ?_
        rintro e w6 ⟨rfl, hb6⟩
        have HB6 := Lib.hid (below3 HB5.out hb6)
        clear hb6
        go_wp2
        go_ret
        exact ⟨rfl, HB6.out⟩
      · have d : (e0 == 0) = false := by simp [he]
        clear hy he
        go_wp2_with fail
        refine (awake_any w3 (HENV.out.below HB3.out)).mono ?_
        rintro e w6 ⟨rfl, hb6⟩
        have HB6 := Lib.hid (below3 HB3.out hb6)
        clear hb6
        go_wp2
        go_ret
        exact ⟨rfl, HB6.out⟩
end Go.Proofs.YtonckpcbehobhaaDoor
