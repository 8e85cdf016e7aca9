/- The reference's Get; SameBytes. -/
import Derived.Test.YtonckpcbehobhaaDoorGet
namespace Go.Proofs.YtonckpcbehobhaaDoor
open Go.RowKit

theorem refGet_ok (A : Option Addr) (len c B : Nat) (xs : List Int) (w : World) (hx : Ints w B .u8 A len c xs) (hb : Bytes xs) (i n : Nat) (hi : i + n ≤ len) (hn : n ≤ 8) (hlen : len ≤ 140737488355328) :
    Calls Tryd.prog 11 #[.slice A len c, .int .i64 i, .int .i64 n] w fun e w' => e = .returned (.tuple #[.int .u64 (num xs i n), .bool true]) ∧ w = w' := by
  obtain ⟨A', c', hsl, hy⟩ := hx.slice (T := 22) (E := 5) Tryd.underlying22 (by kernel_rfl) (lo := i) (hi := i + n) (by omega) hi
  have e1 : ((i + n : Nat) : Int) = (i : Int) + (n : Int) := by omega
  have e2 : i + n - i = n := by omega
  rw [e1, e2] at hsl
  rw [e2] at hy
  have g1 : decide ((n : Int) < 0) = false := by simp
  have g2 : decide ((8 : Int) < (n : Int)) = false := by simp; omega
  have g3 : decide ((i : Int) < 0) = false := by simp
  have g4 : decide ((len : Int) - (n : Int) < (i : Int)) = false := by simp; omega
  clear e1 e2 hx
  go_enter Tryd.func11, Tryd.ntmps11
  go_wp2
  go_loop [8, 36] (fun x j => ∃ k : Nat, k ≤ n ∧ j = .int .i64 k ∧ x = .int .u64 (num xs i k)) (fun _ j => n - (intOf j).toNat)
  case atStart => exact ⟨0, Nat.zero_le _, rfl, rfl⟩
  case round =>
    obtain ⟨k, hk, rfl, rfl⟩ := hrel
    have hbk := hb (i + k)
    have hnk := num_bd hb i k
    by_cases hlt : k < n
    · obtain ⟨b, o, x, rfl, hbB, hc, HX⟩ := hy.cell hlt
      have hx := HX.out
      have hp := pow_le (show k ≤ 7 by omega)
      have e : xs.getD (i + k) 0 = x := by
        rw [← hx]
        simp [List.getD_eq_getElem?_getD, List.getElem?_drop, hlt]
      rw [e] at hbk
      obtain ⟨y, hy2⟩ : ∃ y, num xs i k = y := ⟨_, rfl⟩
      have HS : Hid (num xs i (k + 1) = y * 256 + x) := by show _ = _; rw [num, e, hy2]
      rw [hy2] at hnk ⊢
      have hw : IntKind.u64.wrap (IntKind.u64.wrap (y * 256) + IntKind.u64.wrap x) = y * 256 + x := by
        rw [wrap_byte hbk.1 hbk.2, IntKind.wrap_u64, IntKind.wrap_u64]
        omega
      have HW := Lib.hid hw
      clear hx hb hy hnk hbk HX hy2 hw hp e
      go_wp2
      go_round
      case rel => exact ⟨k + 1, by omega, by go_num, by rw [HS.out]; first | rw [HW.out] | skip⟩
      case measure => simp [intOf]; omega
    · obtain rfl : k = n := by omega
      clear hbk hnk hy hb
      go_wp2
      go_ret2
      exact ⟨rfl, rfl⟩
/-- outside the slice, or more bytes than a number takes -/
theorem refGet_bad (A : Option Addr) (len c : Nat) (w : World) (i n : Int) (h : n < 0 ∨ 8 < n ∨ i < 0 ∨ (len : Int) - n < i) (hlen : len ≤ 140737488355328)
    (hn : -9223372036854775808 ≤ n ∧ n ≤ 9223372036854775807) (hi : -9223372036854775808 ≤ i ∧ i ≤ 9223372036854775807) :
    Calls Tryd.prog 11 #[.slice A len c, .int .i64 i, .int .i64 n] w fun e w' => e = .returned (.tuple #[.int .u64 0, .bool false]) ∧ w = w' := by
  by_cases h1 : n < 0
  · have g1 : decide (n < 0) = true := by simp [h1]
    clear h
    go_enter Tryd.func11, Tryd.ntmps11
    go_wp2
    go_ret2
    exact ⟨rfl, rfl⟩
  have g1 : decide (n < 0) = false := by simp; omega
  by_cases h2 : 8 < n
  · have g2 : decide (8 < n) = true := by simp [h2]
    clear h
    go_enter Tryd.func11, Tryd.ntmps11
    go_wp2
    go_ret2
    exact ⟨rfl, rfl⟩
  have g2 : decide (8 < n) = false := by simp; omega
  by_cases h3 : i < 0
  · have g3 : decide (i < 0) = true := by simp [h3]
    clear h
    go_enter Tryd.func11, Tryd.ntmps11
    go_wp2
    go_ret2
    exact ⟨rfl, rfl⟩
  have g3 : decide (i < 0) = false := by simp; omega
  have h4 : (len : Int) - n < i := by omega
  have g4 : decide ((len : Int) - n < i) = true := by simp [h4]
  clear h
  go_enter Tryd.func11, Tryd.ntmps11
  go_wp2
  go_ret2
  exact ⟨rfl, rfl⟩
theorem eq_of_each {xs ys : List Int} {n : Nat} (h1 : xs.length = n) (h2 : ys.length = n) (h : ∀ j, j < n → xs.getD j 0 = ys.getD j 0) : xs = ys := by
  refine List.ext_getElem (by omega) fun j h3 h4 => ?_
  have := h j (by omega)
  rw [List.getD_eq_getElem?_getD, List.getD_eq_getElem?_getD, List.getElem?_eq_getElem h3, List.getElem?_eq_getElem h4] at this
  exact this

set_option maxHeartbeats 400000 in
theorem sameBytes_any (A B : Option Addr) (n c m d N M : Nat) (xs ys : List Int) (w : World) (hx : Ints w N .u8 A n c xs) (hy : Ints w M .u8 B m d ys) (hn : n ≤ 281474976710656) (hm : m ≤ 281474976710656) :
    Calls Tryd.prog 13 #[.slice A n c, .slice B m d] w fun e w' => e = .returned (.bool (decide (xs = ys))) ∧ w = w' := by
  have hl1 := hx.len
  have hl2 := hy.len
  by_cases hnm : n = m
  · subst hnm
    have HL := Lib.hid (show xs.length = n ∧ ys.length = n from ⟨hl1, hl2⟩)
    clear hl1 hl2
    go_enter Tryd.func13, Tryd.ntmps13
    go_wp2
    go_loop [14] (fun k => ∃ q : Nat, q ≤ n ∧ k = .int .i64 q ∧ Hid (∀ j, j < q → xs.getD j 0 = ys.getD j 0)) (fun k => n - (intOf k).toNat)
    case atStart => exact ⟨0, Nat.zero_le _, rfl, fun j hj => absurd hj (by omega)⟩
    case round =>
      obtain ⟨q, hq, rfl, hall⟩ := hrel
      by_cases hlt : q < n
      · obtain ⟨b, o, x, rfl, _, hc, HX⟩ := hx.cell hlt
        obtain ⟨b', o', y, rfl, _, hc', HY⟩ := hy.cell hlt
        clear hx hy
        by_cases hxy : x = y
        · subst hxy
          have HN : Hid (∀ j, j < q + 1 → xs.getD j 0 = ys.getD j 0) := by
            intro j hj
            rcases Nat.lt_or_ge j q with h | h
            · exact hall.out j h
            · obtain rfl : j = q := by omega
              rw [HX.out, HY.out]
          go_wp2
          go_round
          case rel => exact ⟨q + 1, by omega, by go_num, HN⟩
          case measure => simp [intOf]; omega
        · have d0 : (x != y) = true := by simp [hxy]
          have HF : Hid (decide (xs = ys) = false) := by
            refine decide_eq_false fun h => hxy ?_
            rw [← HX.out, ← HY.out, h]
          clear hxy
          go_wp2
          go_ret
          exact ⟨ret_bool HF.out.symm, rfl⟩
      · obtain rfl : q = n := by omega
        have HF : Hid (decide (xs = ys) = true) := decide_eq_true (eq_of_each HL.out.1 HL.out.2 hall.out)
        clear hx hy
        go_wp2
        go_ret
        exact ⟨ret_bool HF.out.symm, rfl⟩
  · have d0 : ((n : Int) != (m : Int)) = true := by simp; omega
    have HF : Hid (decide (xs = ys) = false) := decide_eq_false fun h => hnm (by rw [← hl1, ← hl2, h])
    clear hx hy hl1 hl2 hnm
    go_enter Tryd.func13, Tryd.ntmps13
    go_wp2
    go_ret
    exact ⟨ret_bool HF.out.symm, rfl⟩

end Go.Proofs.YtonckpcbehobhaaDoor
