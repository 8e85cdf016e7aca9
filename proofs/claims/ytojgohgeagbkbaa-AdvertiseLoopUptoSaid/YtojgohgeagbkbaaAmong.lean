/- among, confed; isConf, isSet. -/
import Derived.Test.YtojgohgeagbkbaaSegs
namespace Go.Proofs.Ytojgohgeagbkbaa
open Go.RowKit

set_option maxHeartbeats 1000000 in
theorem among_any (T : Option Addr) (tn tc B : Nat) (xs : List Int) (x : Int) (w : World) (ht : Ints w B .i64 T tn tc xs) (htn : tn ≤ 140737488355328) :
    Calls Try.prog 73 #[.int .i64 x, .slice T tn tc] w fun e w' => e = .returned (.bool (decide (x ∈ xs))) ∧ w = w' := by
  have HT := Lib.hid ht
  have hl := Lib.hid ht.len
  clear ht
  go_enter Try.func73, Try.ntmps73
  go_wp2
  go_loop [9] (fun i => ∃ k : Nat, k ≤ tn ∧ i = .int .i64 k ∧ Hid (∀ j, j < k → xs.getD j 0 ≠ x)) (fun i => tn - (intOf i).toNat)
  case atStart => exact ⟨0, Nat.zero_le _, rfl, fun j hj => absurd hj (by omega)⟩
  case round =>
    obtain ⟨k, hk, rfl, hno⟩ := hrel
    by_cases hlt : k < tn
    · obtain ⟨b, o, y, rfl, hbB, c0, hy⟩ := HT.out.cell hlt
      by_cases hyx : y = x
      · have HL : Hid (x ∈ xs) := by
          show _ ∈ _
          have h1 := hy.out
          rw [List.getD_eq_getElem?_getD, List.getElem?_eq_getElem (by rw [hl.out]; exact hlt)] at h1
          rw [← hyx, ← h1]
          exact List.getElem_mem _
        have d : (y == x) = true := by simp [hyx]
        clear hy hyx
        go_wp2
        go_ret
        exact ⟨ret_bool (decide_eq_true HL.out).symm, rfl⟩
      · have HN : Hid (∀ j, j < k + 1 → xs.getD j 0 ≠ x) := by
          intro j hj
          rcases Nat.lt_or_ge j k with h | h
          · exact hno.out j h
          · obtain rfl : j = k := by omega
            rw [hy.out]
            exact hyx
        have d : (y == x) = false := by simp [hyx]
        clear hy hyx
        go_wp2
        go_round
        case rel => exact ⟨k + 1, by omega, by go_num, HN⟩
        case measure => simp [intOf]; omega
    · obtain rfl : k = tn := by omega
      have HL : Hid (x ∉ xs) := by
        intro hm
        obtain ⟨j, hj, he⟩ := List.mem_iff_getElem.1 hm
        refine hno.out j (by rw [← hl.out]; exact hj) ?_
        rw [List.getD_eq_getElem?_getD, List.getElem?_eq_getElem hj]
        exact he
      go_wp2
      go_ret
      exact ⟨ret_bool (decide_eq_false HL.out).symm, rfl⟩
/-- over numbers that are written out -/
theorem among_lit (W : World) (N n : Nat) (hN : N = W.heap.size) (x : Int) (xs : List Int) (hn : xs.length = n) (hm : n ≤ 8) :
    Calls Try.prog 73 #[.int .i64 x, .slice (some ⟨N, 0, none⟩) n n] (W.alloc (.cells (xs.map (Value.int .i64)).toArray 3)) fun e w' => e = .returned (.bool (decide (x ∈ xs))) ∧ W.alloc (.cells (xs.map (Value.int .i64)).toArray 3) = w' := by
  subst hN
  exact among_any _ n n _ xs x _ (ints_lit W 3 .i64 n xs hn (by simp only [maxLen]; omega) _ (Nat.lt_succ_self _)) (by omega)
def confB (k : Int) : Bool := decide (k = 3 ∨ k = 4)
def setB (k : Int) : Bool := decide (k = 1 ∨ k = 4)
def seqB (k : Int) : Bool := decide (k = 2 ∨ k = 3)
theorem among34 (W : World) (N : Nat) (hN : N = W.heap.size) (x : Int) : Calls Try.prog 73 #[.int .i64 x, .slice (some ⟨N, 0, none⟩) 2 2] (W.alloc (.cells #[.int .i64 3, .int .i64 4] 3)) fun e w' => e = .returned (.bool (confB x)) ∧ W.alloc (.cells #[.int .i64 3, .int .i64 4] 3) = w' := by
  have h := among_lit W N 2 hN x [3, 4] rfl (by omega)
  rwa [show decide (x ∈ [3, 4]) = confB x by unfold confB; simp] at h
theorem among14 (W : World) (N : Nat) (hN : N = W.heap.size) (x : Int) : Calls Try.prog 73 #[.int .i64 x, .slice (some ⟨N, 0, none⟩) 2 2] (W.alloc (.cells #[.int .i64 1, .int .i64 4] 3)) fun e w' => e = .returned (.bool (setB x)) ∧ W.alloc (.cells #[.int .i64 1, .int .i64 4] 3) = w' := by
  have h := among_lit W N 2 hN x [1, 4] rfl (by omega)
  rwa [show decide (x ∈ [1, 4]) = setB x by unfold setB; simp] at h
theorem among23 (W : World) (N : Nat) (hN : N = W.heap.size) (x : Int) : Calls Try.prog 73 #[.int .i64 x, .slice (some ⟨N, 0, none⟩) 2 2] (W.alloc (.cells #[.int .i64 2, .int .i64 3] 3)) fun e w' => e = .returned (.bool (seqB x)) ∧ W.alloc (.cells #[.int .i64 2, .int .i64 3] 3) = w' := by
  have h := among_lit W N 2 hN x [2, 3] rfl (by omega)
  rwa [show decide (x ∈ [2, 3]) = seqB x by unfold seqB; simp] at h
theorem among1234 (W : World) (N : Nat) (hN : N = W.heap.size) (x : Int) : Calls Try.prog 73 #[.int .i64 x, .slice (some ⟨N, 0, none⟩) 4 4] (W.alloc (.cells #[.int .i64 1, .int .i64 2, .int .i64 3, .int .i64 4] 3)) fun e w' => e = .returned (.bool (decide (1 ≤ x ∧ x ≤ 4))) ∧ W.alloc (.cells #[.int .i64 1, .int .i64 2, .int .i64 3, .int .i64 4] 3) = w' := by
  have h := among_lit W N 4 hN x [1, 2, 3, 4] rfl (by omega)
  have e : decide (x ∈ [1, 2, 3, 4]) = decide (1 ≤ x ∧ x ≤ 4) := by
    rw [decide_eq_decide]
    simp only [List.mem_cons, List.not_mem_nil, or_false]
    omega
  rwa [e] at h
theorem among14d (W : World) (x : Int) : Calls Try.prog 73 #[.int .i64 x, .slice (some ⟨W.heap.size, 0, none⟩) 2 2] (W.alloc (.cells #[.int .i64 1, .int .i64 4] 3)).drew fun e w' => e = .returned (.bool (setB x)) ∧ (W.alloc (.cells #[.int .i64 1, .int .i64 4] 3)).drew = w' :=
  among14 W.drew W.heap.size rfl x
theorem among23d (W : World) (x : Int) : Calls Try.prog 73 #[.int .i64 x, .slice (some ⟨W.heap.size, 0, none⟩) 2 2] (W.alloc (.cells #[.int .i64 2, .int .i64 3] 3)).drew fun e w' => e = .returned (.bool (seqB x)) ∧ (W.alloc (.cells #[.int .i64 2, .int .i64 3] 3)).drew = w' :=
  among23 W.drew W.heap.size rfl x
theorem among34d (W : World) (x : Int) : Calls Try.prog 73 #[.int .i64 x, .slice (some ⟨W.heap.size, 0, none⟩) 2 2] (W.alloc (.cells #[.int .i64 3, .int .i64 4] 3)).drew fun e w' => e = .returned (.bool (confB x)) ∧ (W.alloc (.cells #[.int .i64 3, .int .i64 4] 3)).drew = w' :=
  among34 W.drew W.heap.size rfl x
theorem confed_any (k : Int) (w : World) :
    Calls Try.prog 89 #[.int .i64 k] w fun e w' => e = .returned (.bool (confB k)) ∧ Below w.heap.size w w' := by
  go_enter Try.func89, Try.ntmps89
  go_wp2_with fail
  refine (among34 w _ rfl k).mono ?_
  rintro e w1 ⟨rfl, rfl⟩
  go_wp2
  go_ret
  exact ⟨rfl, belowA _ _⟩
theorem isConf_any (k : Int) (w : World) :
    Calls Try.prog 60 #[.int .i64 k] w fun e w' => e = .returned (.bool (confB k)) ∧ w = w' := by
  have e : confB k = ((k == 3) || (k == 4)) := by unfold confB; rw [Bool.decide_or]; rfl
  by_cases h : k = 3
  · subst h
    go_enter Try.func60, Try.ntmps60
    go_wp2
    go_ret
    exact ⟨rfl, rfl⟩
  · have d : (k == 3) = false := by simp [h]
    have HE : Hid (confB k = (k == 4)) := by show _ = _; rw [e, d]; rfl
    clear e h
    go_enter Try.func60, Try.ntmps60
    go_wp2
    go_ret
    exact ⟨by rw [HE.out]; rfl, rfl⟩
theorem isSet_any (k : Int) (w : World) :
    Calls Try.prog 95 #[.int .i64 k] w fun e w' => e = .returned (.bool (setB k)) ∧ w = w' := by
  have e : setB k = ((k == 1) || (k == 4)) := by unfold setB; rw [Bool.decide_or]; rfl
  by_cases h : k = 1
  · subst h
    go_enter Try.func95, Try.ntmps95
    go_wp2
    go_ret
    exact ⟨rfl, rfl⟩
  · have d : (k == 1) = false := by simp [h]
    have HE : Hid (setB k = (k == 4)) := by show _ = _; rw [e, d]; rfl
    clear e h
    go_enter Try.func95, Try.ntmps95
    go_wp2
    go_ret
    exact ⟨by rw [HE.out]; rfl, rfl⟩
end Go.Proofs.Ytojgohgeagbkbaa
