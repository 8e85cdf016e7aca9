/- Lists of 32-bit numbers: membership, order, equality, copies. -/
import Derived.Test.YtojgohgeagbkbaaBlk
import Derived.Test.YtojgohgeagbkbaaSegChk
namespace Go.Proofs.Ytojgohgeagbkbaa
open Go.RowKit

theorem u32_info : (Try.prog.info? 22).map (fun i => (i.zero, i.size, i.bytes)) = some (some (.int .u32 0), 1, 4) := by kernel_rfl
/-- membership -/
def memB (xs : List Int) (x : Int) : Bool := xs.any (fun y => y == x)
theorem memB_no {xs : List Int} {x : Int} (h : ∀ j, j < xs.length → xs.getD j 0 ≠ x) : memB xs x = false := by
  unfold memB
  rw [List.any_eq_false]
  intro y hy
  obtain ⟨j, hj, rfl⟩ := List.mem_iff_getElem.1 hy
  have := h j hj
  rw [List.getD_eq_getElem?_getD, List.getElem?_eq_getElem hj] at this
  simpa using this
theorem memB_yes {xs : List Int} {x : Int} {j : Nat} (hj : j < xs.length) (h : xs.getD j 0 = x) : memB xs x = true := by
  unfold memB
  rw [List.any_eq_true]
  rw [List.getD_eq_getElem?_getD, List.getElem?_eq_getElem hj] at h
  exact ⟨xs[j], List.getElem_mem hj, by simpa using h⟩
theorem memB_iff {xs : List Int} {x : Int} : memB xs x = true ↔ x ∈ xs := by simp [memB]
theorem ins_next {xs : List Int} {x y : Int} {k : Nat} (h : ∀ j, j < k → xs.getD j 0 ≠ x) (hy : xs.getD k 0 = y) (hne : y ≠ x) : ∀ j, j < k + 1 → xs.getD j 0 ≠ x := by
  intro j hj
  rcases Nat.lt_or_ge j k with h1 | h1
  · exact h j h1
  · obtain rfl : j = k := by omega
    rw [hy]
    exact hne
set_option maxHeartbeats 1000000 in
theorem hasG_any (T : Option Addr) (tn tc B : Nat) (xs : List Int) (x : Int) (w : World) (ht : Ints w B .u32 T tn tc xs) (htn : tn ≤ 140737488355328) :
    Calls Try.prog 77 #[.slice T tn tc, .int .u32 x] w fun e w' => e = .returned (.bool (memB xs x)) ∧ w = w' := by
  have HT := Lib.hid ht
  have hl := Lib.hid ht.len
  clear ht
  go_enter Try.func77, Try.ntmps77
  go_wp2
  go_loop [9] (fun i => ∃ k : Nat, k ≤ tn ∧ i = .int .i64 k ∧ Hid (∀ j, j < k → xs.getD j 0 ≠ x)) (fun i => tn - (intOf i).toNat)
  case atStart => exact ⟨0, Nat.zero_le _, rfl, fun j hj => absurd hj (by omega)⟩
  case round =>
    obtain ⟨k, hk, rfl, hno⟩ := hrel
    by_cases hlt : k < tn
    · obtain ⟨b, o, y, rfl, hbB, c0, hy⟩ := HT.out.cell hlt
      by_cases hyx : y = x
      · have HL : Hid (memB xs x = true) := memB_yes (by rw [hl.out]; exact hlt) (by rw [hy.out, hyx])
        have d : (y == x) = true := by simp [hyx]
        clear hy hyx
        go_wp2
        go_ret
        exact ⟨by rw [HL.out]; rfl, rfl⟩
      · have HN : Hid (∀ j, j < k + 1 → xs.getD j 0 ≠ x) := ins_next hno.out hy.out hyx
        have d : (y == x) = false := by simp [hyx]
        clear hy hyx
        go_wp2
        go_round
        case rel => exact ⟨k + 1, by omega, by go_num, HN⟩
        case measure => simp [intOf]; omega
    · obtain rfl : k = tn := by omega
      have HL : Hid (memB xs x = false) := memB_no fun j hj => hno.out j (by rw [← hl.out]; exact hj)
      go_wp2
      go_ret
      exact ⟨by rw [HL.out]; rfl, rfl⟩
set_option maxHeartbeats 1000000 in
theorem ref18Has_any (T : Option Addr) (tn tc B : Nat) (xs : List Int) (x : Int) (w : World) (ht : Ints w B .u32 T tn tc xs) (htn : tn ≤ 140737488355328) :
    Calls Try.prog 40 #[.slice T tn tc, .int .u32 x] w fun e w' => e = .returned (.bool (memB xs x)) ∧ w = w' := by
  have HT := Lib.hid ht
  have hl := Lib.hid ht.len
  clear ht
  go_enter Try.func40, Try.ntmps40
  go_wp2
  go_loop [9] (fun i => ∃ k : Nat, k ≤ tn ∧ i = .int .i64 k ∧ Hid (∀ j, j < k → xs.getD j 0 ≠ x)) (fun i => tn - (intOf i).toNat)
  case atStart => exact ⟨0, Nat.zero_le _, rfl, fun j hj => absurd hj (by omega)⟩
  case round =>
    obtain ⟨k, hk, rfl, hno⟩ := hrel
    by_cases hlt : k < tn
    · obtain ⟨b, o, y, rfl, hbB, c0, hy⟩ := HT.out.cell hlt
      by_cases hyx : y = x
      · have HL : Hid (memB xs x = true) := memB_yes (by rw [hl.out]; exact hlt) (by rw [hy.out, hyx])
        have d : (y == x) = true := by simp [hyx]
        clear hy hyx
        go_wp2
        go_ret
        exact ⟨by rw [HL.out]; rfl, rfl⟩
      · have HN : Hid (∀ j, j < k + 1 → xs.getD j 0 ≠ x) := ins_next hno.out hy.out hyx
        have d : (y == x) = false := by simp [hyx]
        clear hy hyx
        go_wp2
        go_round
        case rel => exact ⟨k + 1, by omega, by go_num, HN⟩
        case measure => simp [intOf]; omega
    · obtain rfl : k = tn := by omega
      have HL : Hid (memB xs x = false) := memB_no fun j hj => hno.out j (by rw [← hl.out]; exact hj)
      go_wp2
      go_ret
      exact ⟨by rw [HL.out]; rfl, rfl⟩
theorem commHas_any (T : Option Addr) (tn tc B : Nat) (xs : List Int) (x : Int) (w : World) (ht : Ints w B .u32 T tn tc xs) (htn : tn ≤ 140737488355328) :
    Calls Try.prog 41 #[.slice T tn tc, .int .u32 x] w fun e w' => e = .returned (.bool (memB xs x)) ∧ w = w' := by
  have HC := Lib.hid (hasG_any T tn tc B xs x w ht htn)
  clear ht
  go_enter Try.func41, Try.ntmps41
  go_wp2_with fail
  refine HC.out.mono ?_
  rintro e w1 ⟨rfl, rfl⟩
  go_wp2
  go_ret
  exact ⟨rfl, rfl⟩
/-- the first place of x, or -1 -/
def idx : List Int → Int → Int
  | [], _ => -1
  | y :: ys, x => if y = x then 0 else if idx ys x < 0 then -1 else idx ys x + 1
theorem idx_none : ∀ {xs : List Int} {x : Int}, (∀ j, j < xs.length → xs.getD j 0 ≠ x) → idx xs x = -1
  | [], _, _ => rfl
  | y :: ys, x, h => by
    have h0 := h 0 (by simp)
    rw [idx, if_neg (by simpa using h0), idx_none (fun j hj => by have := h (j + 1) (by simpa using hj); simpa using this)]
    simp
theorem idx_at : ∀ {xs : List Int} {x : Int} {k : Nat}, k < xs.length → xs.getD k 0 = x → (∀ j, j < k → xs.getD j 0 ≠ x) → idx xs x = (k : Int)
  | [], _, _, h, _, _ => by simp at h
  | y :: ys, x, 0, _, he, _ => by rw [idx, if_pos (by simpa using he)]; rfl
  | y :: ys, x, k + 1, h, he, hn => by
    have h0 := hn 0 (by omega)
    have hi := idx_at (xs := ys) (x := x) (k := k) (by simpa using h) (by simpa using he) (fun j hj => by have := hn (j + 1) (by omega); simpa using this)
    rw [idx, if_neg (by simpa using h0), hi, if_neg (by omega)]
    omega
theorem idx_mem : ∀ (xs : List Int) (x : Int), decide (idx xs x ≥ 0) = memB xs x
  | [], _ => by simp [idx, memB]
  | y :: ys, x => by
    have h := idx_mem ys x
    by_cases hy : y = x
    · rw [idx, if_pos hy]
      simp [memB, hy]
    · rw [idx, if_neg hy]
      have e : memB (y :: ys) x = memB ys x := by simp [memB, hy]
      rw [e, ← h]
      by_cases h0 : idx ys x < 0
      · rw [if_pos h0, decide_eq_decide]; omega
      · rw [if_neg h0, decide_eq_decide]; omega
set_option maxHeartbeats 1000000 in
theorem index_any (T : Option Addr) (tn tc B : Nat) (xs : List Int) (x : Int) (w : World) (ht : Ints w B .u32 T tn tc xs) (htn : tn ≤ 140737488355328) :
    Calls Try.prog 74 #[.slice T tn tc, .int .u32 x] w fun e w' => e = .returned (.int .i64 (idx xs x)) ∧ w = w' := by
  have HT := Lib.hid ht
  have hl := Lib.hid ht.len
  clear ht
  go_enter Try.func74, Try.ntmps74
  go_wp2
  go_loop [8] (fun i => ∃ k : Nat, k ≤ tn ∧ i = .int .i64 k ∧ Hid (∀ j, j < k → xs.getD j 0 ≠ x)) (fun i => tn - (intOf i).toNat)
  case atStart => exact ⟨0, Nat.zero_le _, rfl, fun j hj => absurd hj (by omega)⟩
  case round =>
    obtain ⟨k, hk, rfl, hno⟩ := hrel
    by_cases hlt : k < tn
    · obtain ⟨b, o, y, rfl, hbB, c0, hy⟩ := HT.out.cell hlt
      by_cases hyx : x = y
      · have HL : Hid (idx xs x = (k : Int)) := by
          show _ = _
          exact idx_at (by rw [hl.out]; exact hlt) (by rw [hy.out, hyx]) hno.out
        have d : (x == y) = true := by simp [hyx]
        clear hy hyx
        go_wp2
        go_ret
        exact ⟨by rw [HL.out]; rfl, rfl⟩
      · have HN : Hid (∀ j, j < k + 1 → xs.getD j 0 ≠ x) := ins_next hno.out hy.out (Ne.symm hyx)
        have d : (x == y) = false := by simp [hyx]
        clear hy hyx
        go_wp2
        go_round
        case rel => exact ⟨k + 1, by omega, by go_num, HN⟩
        case measure => simp [intOf]; omega
    · obtain rfl : k = tn := by omega
      have HL : Hid (idx xs x = -1) := idx_none fun j hj => hno.out j (by rw [← hl.out]; exact hj)
      go_wp2
      go_ret
      exact ⟨by rw [HL.out]; rfl, rfl⟩
theorem contains_any (T : Option Addr) (tn tc B : Nat) (xs : List Int) (x : Int) (w : World) (ht : Ints w B .u32 T tn tc xs) (htn : tn ≤ 140737488355328) :
    Calls Try.prog 35 #[.slice T tn tc, .int .u32 x] w fun e w' => e = .returned (.bool (memB xs x)) ∧ w = w' := by
  have HC := Lib.hid (index_any T tn tc B xs x w ht htn)
  have HM := Lib.hid (idx_mem xs x)
  clear ht
  go_enter Try.func35, Try.ntmps35
  go_wp2_with fail
  refine HC.out.mono ?_
  rintro e w1 ⟨rfl, rfl⟩
  obtain ⟨q, hq⟩ : ∃ q, idx xs x = q := ⟨_, rfl⟩
  rw [hq] at HM ⊢
  clear hq
  go_wp2
  go_ret
  exact ⟨ret_bool HM.out, rfl⟩
set_option maxHeartbeats 1000000 in
theorem ref18Same_any (A B : Option Addr) (n c m d N M : Nat) (xs ys : List Int) (w : World) (hx : Ints w N .u32 A n c xs) (hy : Ints w M .u32 B m d ys) :
    Calls Try.prog 28 #[.slice A n c, .slice B m d] w fun e w' => e = .returned (.bool (decide (xs = ys))) ∧ Below w.heap.size w w' := by
  have HX := Lib.hid hx
  have HY := Lib.hid hy
  have HL := Lib.hid hx.len
  have HM := Lib.hid hy.len
  have hn : n ≤ 9223372036854775807 := by have h1 := hx.1; have h2 := hx.2.1; simp only [maxLen] at h2; omega
  have hm : m ≤ 9223372036854775807 := by have h1 := hy.1; have h2 := hy.2.1; simp only [maxLen] at h2; omega
  clear hx hy
  by_cases hnm : n = m
  case neg =>
    have HF : Hid (decide (xs = ys) = false) := decide_eq_false fun h => hnm (by rw [← HL.out, ← HM.out, h])
    have d0 : ((n : Int) != (m : Int)) = true := by simp; omega
    clear hnm
    go_enter Try.func28, Try.ntmps28
    go_wp2
    go_ret
    exact ⟨by rw [HF.out]; rfl, Below.refl _ _⟩
  subst hnm
  have d0 : ((n : Int) != (n : Int)) = false := by simp
  go_enter Try.func28, Try.ntmps28
  go_wp2
  go_loopw [13] (fun i wr => ∃ k : Nat, k ≤ n ∧ i = .int .i64 k ∧ Hid (∀ j, j < k → xs.getD j 0 = ys.getD j 0) ∧ Hid (∃ x, wr = w.drewN x)) (fun i _ => n - (intOf i).toNat)
  case atStart => exact ⟨0, Nat.zero_le _, rfl, fun j hj => absurd hj (by omega), 0, rfl⟩
  case round =>
    obtain ⟨k, hk, rfl, heq, hdr⟩ := hrel
    obtain ⟨x0, rfl⟩ := hdr.out
    have HBW : Hid (Below w.heap.size w (w.drewN x0)) := below_drewN (Below.refl _ _) _
    by_cases hlt : k < n
    case neg =>
      obtain rfl : k = n := by omega
      have HF : Hid (decide (xs = ys) = true) := decide_eq_true (List.ext_getElem? fun t => by
        rcases Nat.lt_or_ge t k with h | h
        · have h1 := heq.out t h
          rw [List.getD_eq_getElem?_getD, List.getD_eq_getElem?_getD, List.getElem?_eq_getElem (by rw [HL.out]; exact h), List.getElem?_eq_getElem (by rw [HM.out]; exact h)] at h1
          rw [List.getElem?_eq_getElem (by rw [HL.out]; exact h), List.getElem?_eq_getElem (by rw [HM.out]; exact h)]
          exact congrArg some h1
        · rw [List.getElem?_eq_none (by rw [HL.out]; exact h), List.getElem?_eq_none (by rw [HM.out]; exact h)])
      go_wp2
      go_ret
      exact ⟨by rw [HF.out]; rfl, HBW.out⟩
    obtain ⟨b2, o2, x, rfl, hb2, gx, hxx⟩ := HX.out.cell hlt
    obtain ⟨b2', o2', x', rfl, hb2', gx', hxx'⟩ := HY.out.cell hlt
    by_cases hxe : x = x'
    · have d3 : (x != x') = false := by simp [hxe]
      have HN : Hid (∀ t, t < k + 1 → xs.getD t 0 = ys.getD t 0) := fun t ht => by
        rcases Nat.lt_or_ge t k with h | h
        · exact heq.out t h
        · obtain rfl : t = k := by omega
          rw [hxx.out, hxx'.out, hxe]
      clear hxx hxx' hxe
      go_wp2
      go_quiet (fail)
      go_wp2
      go_roundw
      case rel => exact ⟨k + 1, by omega, by go_num, HN, _, rfl⟩
      case measure => simp [intOf]; omega
    · have d3 : (x != x') = true := by simp [hxe]
      have HF : Hid (decide (xs = ys) = false) := decide_eq_false fun h => hxe (by rw [← hxx.out, ← hxx'.out, h])
      clear hxx hxx' hxe
      go_wp2
      go_quiet (fail)
      go_wp2
      go_ret
      exact ⟨by rw [HF.out]; rfl, below_drewN HBW.out _⟩
/-- the error of a list of clusters -/
def clusE (l : List Int) : Int := if 64 < l.length then 4 else if memB l 0 then 1 else 0
set_option maxHeartbeats 1000000 in
theorem clusters_any (T : Option Addr) (tn tc B : Nat) (xs : List Int) (w : World) (ht : Ints w B .u32 T tn tc xs) (htn : tn ≤ 140737488355328) :
    Calls Try.prog 68 #[.slice T tn tc] w fun e w' => e = .returned (.int .i64 (clusE xs)) ∧ w = w' := by
  have HT := Lib.hid ht
  have hl := Lib.hid ht.len
  clear ht
  by_cases h64 : 64 < tn
  · have d : decide ((tn : Int) > 64) = true := by simp; omega
    have HF : Hid (clusE xs = 4) := if_pos (by rw [hl.out]; exact h64)
    go_enter Try.func68, Try.ntmps68
    go_wp2
    go_ret
    exact ⟨by rw [HF.out]; rfl, rfl⟩
  have d64 : decide ((tn : Int) > 64) = false := by simp; omega
  have HP : Hid (clusE xs = if memB xs 0 then 1 else 0) := if_neg (by rw [hl.out]; exact h64)
  clear h64
  go_enter Try.func68, Try.ntmps68
  go_wp2
  go_loop [10] (fun i => ∃ k : Nat, k ≤ tn ∧ i = .int .i64 k ∧ Hid (∀ j, j < k → xs.getD j 0 ≠ 0)) (fun i => tn - (intOf i).toNat)
  case atStart => exact ⟨0, Nat.zero_le _, rfl, fun j hj => absurd hj (by omega)⟩
  case round =>
    obtain ⟨k, hk, rfl, hno⟩ := hrel
    by_cases hlt : k < tn
    · obtain ⟨b, o, y, rfl, hbB, c0, hy⟩ := HT.out.cell hlt
      by_cases hyx : y = 0
      · have HL : Hid (clusE xs = 1) := by
          show _ = _
          rw [HP.out, memB_yes (by rw [hl.out]; exact hlt) (by rw [hy.out, hyx])]
          rfl
        have d : (y == 0) = true := by simp [hyx]
        clear hy hyx
        go_wp2
        go_ret
        exact ⟨by rw [HL.out]; rfl, rfl⟩
      · have HN : Hid (∀ j, j < k + 1 → xs.getD j 0 ≠ 0) := ins_next hno.out hy.out hyx
        have d : (y == 0) = false := by simp [hyx]
        clear hy hyx
        go_wp2
        go_round
        case rel => exact ⟨k + 1, by omega, by go_num, HN⟩
        case measure => simp [intOf]; omega
    · obtain rfl : k = tn := by omega
      have HL : Hid (clusE xs = 0) := by
        show _ = _
        rw [HP.out, memB_no fun j hj => hno.out j (by rw [← hl.out]; exact hj)]
        rfl
      go_wp2
      go_ret
      exact ⟨by rw [HL.out]; rfl, rfl⟩
end Go.Proofs.Ytojgohgeagbkbaa
