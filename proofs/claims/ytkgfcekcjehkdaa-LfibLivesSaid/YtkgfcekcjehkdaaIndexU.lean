/- Index, Contains, IndexRouter, HasRouter: lists of routers. -/
import Derived.Test.YtkgfcekcjehkdaaBase
namespace Go.Proofs.Ytkgfcekcjehkdaa
open Go.RowKit

/-- the first place of x, or -1 -/
def idx : List Int → Int → Int
  | [], _ => -1
  | y :: ys, x => if y = x then 0 else if idx ys x < 0 then -1 else idx ys x + 1
theorem idx_none : ∀ {xs : List Int} {x : Int}, (∀ j, j < xs.length → xs.getD j 0 ≠ x) → idx xs x = -1
  | [], _, _ => rfl
  | y :: ys, x, h => by
    have h0 := h 0 (by simp)
    rw [idx, if_neg (by simpa using h0), idx_none (fun j hj => by have := h (j + 1) (by simpa using hj); simpa using this)]
    simp
theorem idx_at : ∀ {xs : List Int} {x : Int} {k : Nat}, k < xs.length → xs.getD k 0 = x → (∀ j, j < k → xs.getD j 0 ≠ x) → idx xs x = (k : Int)
  | [], _, _, h, _, _ => by simp at h
  | y :: ys, x, 0, _, he, _ => by rw [idx, if_pos (by simpa using he)]; rfl
  | y :: ys, x, k + 1, h, he, hn => by
    have h0 := hn 0 (by omega)
    have hi := idx_at (xs := ys) (x := x) (k := k) (by simpa using h) (by simpa using he) (fun j hj => by have := hn (j + 1) (by omega); simpa using this)
    rw [idx, if_neg (by simpa using h0), hi, if_neg (by omega)]
    omega
theorem idx_lt : ∀ (xs : List Int) (x : Int), -1 ≤ idx xs x ∧ (idx xs x < xs.length)
  | [], _ => by simp [idx]
  | y :: ys, x => by
    have := idx_lt ys x
    rw [idx]
    simp only [List.length_cons]
    split
    · omega
    · split <;> omega
set_option maxHeartbeats 1000000 in
theorem index_any (T : Option Addr) (tn tc B : Nat) (xs : List Int) (x : Int) (w : World) (ht : Ints w B .u32 T tn tc xs) (htn : tn ≤ 140737488355328) :
    Calls Try.prog 29 #[.slice T tn tc, .int .u32 x] w fun e w' => e = .returned (.int .i64 (idx xs x)) ∧ w = w' := by
  have HT := Lib.hid ht
  have hl := Lib.hid ht.len
  clear ht
  go_enter Try.func29, Try.ntmps29
  go_wp2
  go_loop [8] (fun i => ∃ k : Nat, k ≤ tn ∧ i = .int .i64 k ∧ Hid (∀ j, j < k → xs.getD j 0 ≠ x)) (fun i => tn - (intOf i).toNat)
  case atStart => exact ⟨0, Nat.zero_le _, rfl, fun j hj => absurd hj (by omega)⟩
  case round =>
    obtain ⟨k, hk, rfl, hno⟩ := hrel
    by_cases hlt : k < tn
    · obtain ⟨b, o, y, rfl, hbB, c0, hy⟩ := HT.out.cell hlt
      by_cases hyx : x = y
      · have HL : Hid (idx xs x = (k : Int)) := by
          show _ = _
          exact idx_at (by rw [hl.out]; exact hlt) (by rw [hy.out, hyx]) hno.out
        have d : (x == y) = true := by simp [hyx]
        clear hy hyx
        go_wp2
        go_ret
        exact ⟨by rw [HL.out]; rfl, rfl⟩
      · have HN : Hid (∀ j, j < k + 1 → xs.getD j 0 ≠ x) := by
          intro j hj
          rcases Nat.lt_or_ge j k with h | h
          · exact hno.out j h
          · obtain rfl : j = k := by omega
            rw [hy.out]
            exact fun h => hyx h.symm
        have d : (x == y) = false := by simp [hyx]
        clear hy hyx
        go_wp2
        go_round
        case rel => exact ⟨k + 1, by omega, by go_num, HN⟩
        case measure => simp [intOf]; omega
    · obtain rfl : k = tn := by omega
      have HL : Hid (idx xs x = -1) := idx_none fun j hj => hno.out j (by rw [← hl.out]; exact hj)
      go_wp2
      go_ret
      exact ⟨by rw [HL.out]; rfl, rfl⟩
set_option maxHeartbeats 1000000 in
theorem refIndex_any (T : Option Addr) (tn tc B : Nat) (xs : List Int) (x : Int) (w : World) (ht : Ints w B .u32 T tn tc xs) (htn : tn ≤ 140737488355328) :
    Calls Try.prog 31 #[.slice T tn tc, .int .u32 x] w fun e w' => e = .returned (.int .i64 (idx xs x)) ∧ w = w' := by
  have HT := Lib.hid ht
  have hl := Lib.hid ht.len
  clear ht
  go_enter Try.func31, Try.ntmps31
  go_wp2
  go_loop [9] (fun i => ∃ k : Nat, k ≤ tn ∧ i = .int .i64 k ∧ Hid (∀ j, j < k → xs.getD j 0 ≠ x)) (fun i => tn - (intOf i).toNat)
  case atStart => exact ⟨0, Nat.zero_le _, rfl, fun j hj => absurd hj (by omega)⟩
  case round =>
    obtain ⟨k, hk, rfl, hno⟩ := hrel
    by_cases hlt : k < tn
    · obtain ⟨b, o, y, rfl, hbB, c0, hy⟩ := HT.out.cell hlt
      by_cases hyx : y = x
      · have HL : Hid (idx xs x = (k : Int)) := by
          show _ = _
          exact idx_at (by rw [hl.out]; exact hlt) (by rw [hy.out, hyx]) hno.out
        have d : (y == x) = true := by simp [hyx]
        clear hy hyx
        go_wp2
        go_ret
        exact ⟨by rw [HL.out]; rfl, rfl⟩
      · have HN : Hid (∀ j, j < k + 1 → xs.getD j 0 ≠ x) := by
          intro j hj
          rcases Nat.lt_or_ge j k with h | h
          · exact hno.out j h
          · obtain rfl : j = k := by omega
            rw [hy.out]
            exact hyx
        have d : (y == x) = false := by simp [hyx]
        clear hy hyx
        go_wp2
        go_round
        case rel => exact ⟨k + 1, by omega, by go_num, HN⟩
        case measure => simp [intOf]; omega
    · obtain rfl : k = tn := by omega
      have HL : Hid (idx xs x = -1) := idx_none fun j hj => hno.out j (by rw [← hl.out]; exact hj)
      go_wp2
      go_ret
      exact ⟨by rw [HL.out]; rfl, rfl⟩
theorem contains_any (T : Option Addr) (tn tc B : Nat) (xs : List Int) (x : Int) (w : World) (ht : Ints w B .u32 T tn tc xs) (htn : tn ≤ 140737488355328) :
    Calls Try.prog 27 #[.slice T tn tc, .int .u32 x] w fun e w' => e = .returned (.bool (decide (0 ≤ idx xs x))) ∧ w = w' := by
  have HC := Lib.hid (index_any T tn tc B xs x w ht htn)
  clear ht
  go_enter Try.func27, Try.ntmps27
  go_wp2_with fail
  refine HC.out.mono ?_
  rintro e w1 ⟨rfl, rfl⟩
  go_wp2
  go_ret
  exact ⟨rfl, rfl⟩
theorem refHas_any (T : Option Addr) (tn tc B : Nat) (xs : List Int) (x : Int) (w : World) (ht : Ints w B .u32 T tn tc xs) (htn : tn ≤ 140737488355328) :
    Calls Try.prog 30 #[.slice T tn tc, .int .u32 x] w fun e w' => e = .returned (.bool (decide (0 ≤ idx xs x))) ∧ w = w' := by
  have HC := Lib.hid (refIndex_any T tn tc B xs x w ht htn)
  clear ht
  go_enter Try.func30, Try.ntmps30
  go_wp2_with fail
  refine HC.out.mono ?_
  rintro e w1 ⟨rfl, rfl⟩
  go_wp2
  go_ret
  exact ⟨rfl, rfl⟩
end Go.Proofs.Ytkgfcekcjehkdaa
