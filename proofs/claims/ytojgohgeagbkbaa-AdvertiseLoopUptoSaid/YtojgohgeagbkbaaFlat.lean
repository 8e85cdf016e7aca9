/- Flat, Size, Large, Length, Has, First, Origin. -/
import Derived.Test.YtojgohgeagbkbaaCheck
namespace Go.Proofs.Ytojgohgeagbkbaa
open Go.RowKit

def flat (p : Path) : List Int := p.flatMap (·.2)
theorem flat_take (p : Path) (k : Nat) : (flat (p.take k)).length ≤ (flat p).length := by
  conv => rhs; rw [← List.take_append_drop k p]
  unfold flat
  rw [List.flatMap_append, List.length_append]
  omega
theorem flat_succ {p : Path} {k : Nat} {s : Int × List Int} (h : p[k]? = some s) : flat (p.take (k + 1)) = flat (p.take k) ++ s.2 := by
  rw [List.take_add_one, h]
  unfold flat
  rw [List.flatMap_append]
  simp
theorem seg_le {p : Path} {k : Nat} {s : Int × List Int} (h : p[k]? = some s) : (flat (p.take k)).length + s.2.length ≤ (flat p).length := by
  have h1 := flat_take p (k + 1)
  rw [flat_succ h, List.length_append] at h1
  exact h1
def Sm (p : Path) : Prop := p.length + (flat p).length ≤ 1000000
/-- the length for the selection of routes -/
def lenS (s : Int × List Int) : Nat := if s.1 = 2 then s.2.length else if s.1 = 1 then 1 else 0
def lengthR (p : Path) : Nat := (p.map lenS).sum
theorem length_succ {p : Path} {k : Nat} {s : Int × List Int} (h : p[k]? = some s) : lengthR (p.take (k + 1)) = lengthR (p.take k) + lenS s := by
  rw [List.take_add_one, h]
  unfold lengthR
  rw [List.map_append, List.sum_append]
  simp
theorem length_le : ∀ p : Path, lengthR p ≤ p.length + (flat p).length
  | [] => by simp [lengthR]
  | s :: r => by
    have := length_le r
    have h : lenS s ≤ 1 + s.2.length := by unfold lenS; split <;> (try split) <;> omega
    show ((s :: r).map lenS).sum ≤ _
    rw [List.map_cons, List.sum_cons, List.length_cons]
    unfold flat at this ⊢
    rw [List.flatMap_cons, List.length_append]
    unfold lengthR at this
    omega
def firstR (p : Path) : Int × Bool := match p.find? (fun s => decide (s.1 = 2)) with
  | none => (0, false)
  | some s => if s.2.length = 0 then (0, false) else (s.2.getD 0 0, true)
theorem first_none {p : Path} (h : ∀ (j : Nat) (s : Int × List Int), p[j]? = some s → s.1 ≠ 2) : firstR p = (0, false) := by
  have : p.find? (fun s => decide (s.1 = 2)) = none := by
    rw [List.find?_eq_none]
    intro s hs
    obtain ⟨j, hj⟩ := List.mem_iff_getElem?.1 hs
    simpa using h j s hj
  unfold firstR
  rw [this]
theorem first_at {p : Path} {k : Nat} {s : Int × List Int} (h : ∀ (j : Nat) (t : Int × List Int), j < k → p[j]? = some t → t.1 ≠ 2) (hk : p[k]? = some s) (h2 : s.1 = 2) : firstR p = if s.2.length = 0 then (0, false) else (s.2.getD 0 0, true) := by
  have : p.find? (fun s => decide (s.1 = 2)) = some s := by
    induction p generalizing k with
    | nil => simp at hk
    | cons x r ih =>
      cases k with
      | zero =>
        simp only [List.getElem?_cons_zero, Option.some.injEq] at hk
        subst hk
        rw [List.find?_cons_of_pos (by simpa using h2)]
      | succ k =>
        have hx := h 0 x (by omega) (by simp)
        rw [List.find?_cons_of_neg (by simpa using hx)]
        exact ih (k := k) (fun j t hj ht => h (j + 1) t (by omega) (by simpa using ht)) (by simpa using hk)
  unfold firstR
  rw [this]
def originR (p : Path) : Int × Bool := match p[p.length - 1]? with
  | none => (0, false)
  | some s => if s.1 ≠ 2 ∨ s.2.length = 0 then (0, false) else (s.2.getD (s.2.length - 1) 0, true)
set_option maxHeartbeats 1000000 in
theorem flat_any (A : Option Addr) (n c : Nat) (p : Path) (w : World) (hx : Segs w w.heap.size A n c p) (hn : n ≤ 140737488355328) (hs : (flat p).length ≤ 17592186044416) :
    Calls Try.prog 43 #[.slice A n c] w fun e w' => ∃ A' c', e = .returned (.slice A' (flat p).length c') ∧ Own w' w.heap.size 3 .i64 (.slice A' (flat p).length c') (flat p).length (flat p) ∧ Below w.heap.size w w' := by
  have HX := Lib.hid hx
  have HL := Lib.hid hx.len
  clear hx
  go_enter Try.func43, Try.ntmps43
  go_wp2
  go_loopw [3, 8] (fun l i wr => ∃ k : Nat, k ≤ n ∧ i = .int .i64 k ∧ Hid (Own wr w.heap.size 3 .i64 l (flat (p.take k)).length (flat (p.take k))) ∧ Hid (Below w.heap.size w wr)) (fun _ i _ => n - (intOf i).toNat)
  case atStart => exact ⟨0, Nat.zero_le _, rfl, Own.nil _ _ _ _, Below.refl _ _⟩
  case round =>
    obtain ⟨k, hk, rfl, ho, hbw⟩ := hrel
    by_cases hlt : k < n
    · obtain ⟨b, o, f, rfl, hbB, hf, g0, g1, hi⟩ := (HX.out.below hbw.out).get hlt
      obtain ⟨y, fA, fn, fc, xs⟩ := f
      dsimp only at g0 g1 hi
      have hle := seg_le hf.out
      have hsu := flat_succ hf.out
      have hfl : xs.length = fn := hi.out.len
      have hle' : (flat (p.take k)).length + fn ≤ (flat p).length := by rw [← hfl]; exact hle
      have hba := belowA wr (.cells #[.int .i64 y, .slice fA fn fc] 75)
      obtain ⟨A', c', w', hrun, ho', hb'⟩ := push_ints (row_below ho.out hba) ((hi.out.below (hba.mono hbw.out.size))) (Nat.le_trans hbw.out.size hba.size) (by omega)
      have HR := Lib.hid hrun
      obtain ⟨Al, cl, rfl⟩ := own_form ho.out
      have HO' : Hid (Own w' w.heap.size 3 .i64 (.slice A' ((flat (p.take k)).length + fn) c') (flat (p.take (k + 1))).length (flat (p.take (k + 1)))) := by
        show Own _ _ _ _ _ _ _
        rw [hsu, List.length_append]
        show Own _ _ _ _ _ ((flat (p.take k)).length + xs.length) (flat (p.take k) ++ xs)
        rw [hfl]
        exact ho'
      have HB' : Hid (Below w.heap.size w w') := (below3 hbw.out hba).trans hb'
      have hbwr : b < wr.heap.size := by have := hbw.out.size; omega
      clear hf hi hle hle' hfl hsu hba ho' hb' hrun ho hs
      go_wp2_with (at_builtin; refine wpList_append_run rfl _ _ _ rfl rfl rfl HR.out ?_)
      go_roundw
      case rel => exact ⟨k + 1, by omega, by go_num, HO', HB'⟩
      case measure => simp [intOf]; omega
    · obtain rfl : k = n := by omega
      have e : p.take k = p := List.take_of_length_le (Nat.le_of_eq HL.out)
      obtain ⟨A', c', rfl⟩ := own_form ho.out
      have HO : Hid (Own wr w.heap.size 3 .i64 (.slice A' (flat p).length c') (flat p).length (flat p)) := by
        have := ho.out
        rw [e] at this
        exact this
      rw [e]
      clear e ho
      go_wp2
      go_ret
      exact ⟨A', c', rfl, HO.out, hbw.out⟩
set_option maxHeartbeats 1000000 in
theorem refFlat_any (A : Option Addr) (n c : Nat) (p : Path) (w : World) (hx : Segs w w.heap.size A n c p) (hn : n ≤ 140737488355328) (hs : (flat p).length ≤ 17592186044416) :
    Calls Try.prog 26 #[.slice A n c] w fun e w' => ∃ A' c', e = .returned (.slice A' (flat p).length c') ∧ Own w' w.heap.size 3 .i64 (.slice A' (flat p).length c') (flat p).length (flat p) ∧ Below w.heap.size w w' := by
  have HX := Lib.hid hx
  have HL := Lib.hid hx.len
  clear hx
  go_enter Try.func26, Try.ntmps26
  go_wp2
  go_loopw [3, 8] (fun l i wr => ∃ k : Nat, k ≤ n ∧ i = .int .i64 k ∧ Hid (Own wr w.heap.size 3 .i64 l (flat (p.take k)).length (flat (p.take k))) ∧ Hid (Below w.heap.size w wr)) (fun _ i _ => n - (intOf i).toNat)
  case atStart => exact ⟨0, Nat.zero_le _, rfl, Own.nil _ _ _ _, Below.refl _ _⟩
  case round =>
    obtain ⟨k, hk, rfl, ho, hbw⟩ := hrel
    by_cases hlt : k < n
    · obtain ⟨b, o, f, rfl, hbB, hf, g0, g1, hi⟩ := (HX.out.below hbw.out).get hlt
      obtain ⟨y, fA, fn, fc, xs⟩ := f
      dsimp only at g0 g1 hi
      have hle := seg_le hf.out
      have hsu := flat_succ hf.out
      have hfl : xs.length = fn := hi.out.len
      have hle' : (flat (p.take k)).length + fn ≤ (flat p).length := by rw [← hfl]; exact hle
      have hba := belowA wr (.cells #[.int .i64 y, .slice fA fn fc] 75)
      obtain ⟨A', c', w', hrun, ho', hb'⟩ := push_ints (row_below ho.out hba) ((hi.out.below (hba.mono hbw.out.size))) (Nat.le_trans hbw.out.size hba.size) (by omega)
      have HR := Lib.hid hrun
      obtain ⟨Al, cl, rfl⟩ := own_form ho.out
      have HO' : Hid (Own w' w.heap.size 3 .i64 (.slice A' ((flat (p.take k)).length + fn) c') (flat (p.take (k + 1))).length (flat (p.take (k + 1)))) := by
        show Own _ _ _ _ _ _ _
        rw [hsu, List.length_append]
        show Own _ _ _ _ _ ((flat (p.take k)).length + xs.length) (flat (p.take k) ++ xs)
        rw [hfl]
        exact ho'
      have HB' : Hid (Below w.heap.size w w') := (below3 hbw.out hba).trans hb'
      have hbwr : b < wr.heap.size := by have := hbw.out.size; omega
      clear hf hi hle hle' hfl hsu hba ho' hb' hrun ho hs
      go_wp2_with (at_builtin; refine wpList_append_run rfl _ _ _ rfl rfl rfl HR.out ?_)
      go_roundw
      case rel => exact ⟨k + 1, by omega, by go_num, HO', HB'⟩
      case measure => simp [intOf]; omega
    · obtain rfl : k = n := by omega
      have e : p.take k = p := List.take_of_length_le (Nat.le_of_eq HL.out)
      obtain ⟨A', c', rfl⟩ := own_form ho.out
      have HO : Hid (Own wr w.heap.size 3 .i64 (.slice A' (flat p).length c') (flat p).length (flat p)) := by
        have := ho.out
        rw [e] at this
        exact this
      rw [e]
      clear e ho
      go_wp2
      go_ret
      exact ⟨A', c', rfl, HO.out, hbw.out⟩
theorem size_any (A : Option Addr) (n c : Nat) (p : Path) (w : World) (hx : Segs w w.heap.size A n c p) (hn : n ≤ 140737488355328) (hs : (flat p).length ≤ 17592186044416) :
    Calls Try.prog 62 #[.slice A n c] w fun e w' => e = .returned (.int .i64 ((n : Int) + ((flat p).length : Nat))) ∧ Below w.heap.size w w' := by
  have HC := Lib.hid (refFlat_any A n c p w hx hn hs)
  have ew : IntKind.i64.wrap ((n : Int) + ((flat p).length : Nat)) = (n : Int) + ((flat p).length : Nat) := IntWalk.i64_in _ (by omega)
  obtain ⟨m, hm⟩ : ∃ m, (flat p).length = m := ⟨_, rfl⟩
  rw [hm] at HC ew ⊢
  clear hx hs hm
  go_enter Try.func62, Try.ntmps62
  go_wp2_with fail
  refine HC.out.mono ?_
  rintro e w1 ⟨A', c', rfl, _, hb⟩
  have HB := Lib.hid hb
  clear hb
  go_wp2
  go_ret
  exact ⟨rfl, HB.out⟩
set_option maxHeartbeats 1000000 in
theorem first_any (A : Option Addr) (n c : Nat) (p : Path) (w : World) (hx : Segs w w.heap.size A n c p) (hn : n ≤ 140737488355328) :
    Calls Try.prog 70 #[.slice A n c] w fun e w' => e = .returned (.tuple #[.int .i64 (firstR p).1, .bool (firstR p).2]) ∧ Below w.heap.size w w' := by
  have HX := Lib.hid hx
  have HL := Lib.hid hx.len
  clear hx
  go_enter Try.func70, Try.ntmps70
  go_wp2
  go_loopw [8] (fun i wr => ∃ k : Nat, k ≤ n ∧ i = .int .i64 k ∧ Hid (∀ (j : Nat) (t : Int × List Int), j < k → p[j]? = some t → t.1 ≠ 2) ∧ Hid (Below w.heap.size w wr)) (fun i _ => n - (intOf i).toNat)
  case atStart => exact ⟨0, Nat.zero_le _, rfl, fun j t hj => absurd hj (by omega), Below.refl _ _⟩
  case round =>
    obtain ⟨k, hk, rfl, hno, hbw⟩ := hrel
    by_cases hlt : k < n
    · obtain ⟨b, o, f, rfl, hbB, hf, g0, g1, hi⟩ := (HX.out.below hbw.out).get hlt
      obtain ⟨y, fA, fn, fc, xs⟩ := f
      dsimp only at g0 g1 hi
      have hbwr : b < wr.heap.size := by have := hbw.out.size; omega
      have hba := belowA wr (.cells #[.int .i64 y, .slice fA fn fc] 75)
      have HB' : Hid (Below w.heap.size w (wr.alloc (.cells #[.int .i64 y, .slice fA fn fc] 75))) := below3 hbw.out hba
      have hfl : xs.length = fn := hi.out.len
      by_cases h2 : y = 2
      · subst h2
        have HR := Lib.hid (first_at (s := (2, xs)) hno.out hf.out rfl)
        by_cases h0 : fn = 0
        · subst h0
          have HR2 : Hid (firstR p = (0, false)) := by show _ = _; rw [HR.out, if_pos hfl]
          clear hf hi hba HR hfl
          go_wp2
          go_ret2
          rw [HR2.out]
          exact ⟨rfl, HB'.out⟩
        · have d0 : ((fn : Int) == 0) = false := by simp; omega
          have h0' : 0 < fn := by omega
          obtain ⟨b2, o2, x, rfl, hb2, gx, hxx⟩ := (hi.out.below (hba.mono hbw.out.size)).cell (j := 0) h0'
          rw [Nat.add_zero] at gx
          have HR2 : Hid (firstR p = (x, true)) := by
            show _ = _
            rw [HR.out, if_neg (by show ¬ xs.length = 0; omega)]
            show (xs.getD 0 0, true) = _
            rw [hxx.out]
          clear hf hi hba HR hfl h0 hxx
          go_wp2
          go_ret2
          rw [HR2.out]
          exact ⟨rfl, HB'.out⟩
      · have d2 : (y == 2) = false := by simp [h2]
        have HN : Hid (∀ (j : Nat) (t : Int × List Int), j < k + 1 → p[j]? = some t → t.1 ≠ 2) := by
          intro j t hj ht
          rcases Nat.lt_or_ge j k with h | h
          · exact hno.out j t h ht
          · obtain rfl : j = k := by omega
            rw [hf.out] at ht
            obtain rfl := Option.some.inj ht
            exact h2
        clear hf hi hba hfl h2
        go_wp2
        go_roundw
        case rel => exact ⟨k + 1, by omega, by go_num, HN, HB'⟩
        case measure => simp [intOf]; omega
    · obtain rfl : k = n := by omega
      have HR := Lib.hid (first_none (p := p) fun j s hj => hno.out j s (by have := (List.getElem?_eq_some_iff.1 hj).1; have := HL.out; omega) hj)
      go_wp2
      go_ret2
      rw [HR.out]
      exact ⟨rfl, hbw.out⟩
set_option maxHeartbeats 1000000 in
theorem refFirst_any (A : Option Addr) (n c : Nat) (p : Path) (w : World) (hx : Segs w w.heap.size A n c p) (hn : n ≤ 140737488355328) :
    Calls Try.prog 75 #[.slice A n c] w fun e w' => e = .returned (.tuple #[.int .i64 (firstR p).1, .bool (firstR p).2]) ∧ Below w.heap.size w w' := by
  have HX := Lib.hid hx
  have HL := Lib.hid hx.len
  clear hx
  go_enter Try.func75, Try.ntmps75
  go_wp2
  go_loopw [8] (fun i wr => ∃ k : Nat, k ≤ n ∧ i = .int .i64 k ∧ Hid (∀ (j : Nat) (t : Int × List Int), j < k → p[j]? = some t → t.1 ≠ 2) ∧ Hid (Below w.heap.size w wr)) (fun i _ => n - (intOf i).toNat)
  case atStart => exact ⟨0, Nat.zero_le _, rfl, fun j t hj => absurd hj (by omega), Below.refl _ _⟩
  case round =>
    obtain ⟨k, hk, rfl, hno, hbw⟩ := hrel
    by_cases hlt : k < n
    · obtain ⟨b, o, f, rfl, hbB, hf, g0, g1, hi⟩ := (HX.out.below hbw.out).get hlt
      obtain ⟨y, fA, fn, fc, xs⟩ := f
      dsimp only at g0 g1 hi
      have hbwr : b < wr.heap.size := by have := hbw.out.size; omega
      have hba := belowA wr (.cells #[.int .i64 y, .slice fA fn fc] 75)
      have HB' : Hid (Below w.heap.size w (wr.alloc (.cells #[.int .i64 y, .slice fA fn fc] 75))) := below3 hbw.out hba
      have hfl : xs.length = fn := hi.out.len
      by_cases h2 : y = 2
      · subst h2
        have HR := Lib.hid (first_at (s := (2, xs)) hno.out hf.out rfl)
        by_cases h0 : fn = 0
        · subst h0
          have HR2 : Hid (firstR p = (0, false)) := by show _ = _; rw [HR.out, if_pos hfl]
          clear hf hi hba HR hfl
          go_wp2
          go_ret2
          rw [HR2.out]
          exact ⟨rfl, HB'.out⟩
        · have d0 : ((fn : Int) == 0) = false := by simp; omega
          have h0' : 0 < fn := by omega
          obtain ⟨b2, o2, x, rfl, hb2, gx, hxx⟩ := (hi.out.below (hba.mono hbw.out.size)).cell (j := 0) h0'
          rw [Nat.add_zero] at gx
          have HR2 : Hid (firstR p = (x, true)) := by
            show _ = _
            rw [HR.out, if_neg (by show ¬ xs.length = 0; omega)]
            show (xs.getD 0 0, true) = _
            rw [hxx.out]
          clear hf hi hba HR hfl h0 hxx
          go_wp2
          go_ret2
          rw [HR2.out]
          exact ⟨rfl, HB'.out⟩
      · have d2 : (y == 2) = false := by simp [h2]
        have HN : Hid (∀ (j : Nat) (t : Int × List Int), j < k + 1 → p[j]? = some t → t.1 ≠ 2) := by
          intro j t hj ht
          rcases Nat.lt_or_ge j k with h | h
          · exact hno.out j t h ht
          · obtain rfl : j = k := by omega
            rw [hf.out] at ht
            obtain rfl := Option.some.inj ht
            exact h2
        clear hf hi hba hfl h2
        go_wp2
        go_roundw
        case rel => exact ⟨k + 1, by omega, by go_num, HN, HB'⟩
        case measure => simp [intOf]; omega
    · obtain rfl : k = n := by omega
      have HR := Lib.hid (first_none (p := p) fun j s hj => hno.out j s (by have := (List.getElem?_eq_some_iff.1 hj).1; have := HL.out; omega) hj)
      go_wp2
      go_ret2
      rw [HR.out]
      exact ⟨rfl, hbw.out⟩
theorem has_step {p : Path} {k : Nat} {s : Int × List Int} (h : p[k]? = some s) (x : Int) : x ∈ flat (p.take (k + 1)) ↔ x ∈ flat (p.take k) ∨ x ∈ s.2 := by rw [flat_succ h, List.mem_append]
set_option maxHeartbeats 1000000 in
theorem has_any (A : Option Addr) (n c : Nat) (p : Path) (x : Int) (w : World) (hx : Segs w w.heap.size A n c p) (hs : Sm p) :
    Calls Try.prog 34 #[.slice A n c, .int .i64 x] w fun e w' => e = .returned (.bool (decide (x ∈ flat p))) ∧ Below w.heap.size w w' := by
  have HX := Lib.hid hx
  have HL := Lib.hid hx.len
  have HS := Lib.hid hs
  have hn : n ≤ 1000000 := by have h1 := hx.len; unfold Sm at hs; omega
  clear hx hs
  go_enter Try.func34, Try.ntmps34
  go_wp2
  go_loopw [9] (fun i wr => ∃ k : Nat, k ≤ n ∧ i = .int .i64 k ∧ Hid (x ∉ flat (p.take k)) ∧ Hid (Below w.heap.size w wr)) (fun i _ => n - (intOf i).toNat)
  case atStart => exact ⟨0, Nat.zero_le _, rfl, by show _ ∉ _; simp [flat], Below.refl _ _⟩
  case round =>
    obtain ⟨k, hk, rfl, hno, hbw⟩ := hrel
    by_cases hlt : k < n
    · obtain ⟨b, o, f, rfl, hbB, hf, g0, g1, hi⟩ := (HX.out.below hbw.out).get hlt
      obtain ⟨y, fA, fn, fc, xs⟩ := f
      dsimp only at g0 g1 hi
      have hbwr : b < wr.heap.size := by have := hbw.out.size; omega
      have hba := belowA wr (.cells #[.int .i64 y, .slice fA fn fc] 75)
      have HB' : Hid (Below w.heap.size w (wr.alloc (.cells #[.int .i64 y, .slice fA fn fc] 75))) := below3 hbw.out hba
      have hfl : xs.length = fn := hi.out.len
      have hfs : fn ≤ 1000000 := by have := seg_le hf.out; have h1 := HS.out; unfold Sm at h1; have h2 : (SV.key ⟨y, fA, fn, fc, xs⟩).2.length = fn := hfl; omega
      have HA := Lib.hid (among_any fA fn fc _ xs x _ (hi.out.below (hba.mono hbw.out.size)) (by omega))
      have HST : Hid (x ∈ flat (p.take (k + 1)) ↔ x ∈ flat (p.take k) ∨ x ∈ xs) := has_step hf.out x
      have HSUB : Hid (x ∈ flat (p.take (k + 1)) → x ∈ flat p) := fun h => by
        show _ ∈ flat p
        rw [← List.take_append_drop (k + 1) p]
        unfold flat
        rw [List.flatMap_append, List.mem_append]
        exact .inl h
      clear hf hi hba hfl
      by_cases hm : x ∈ xs
      · have HF : Hid (decide (x ∈ flat p) = true) := decide_eq_true (HSUB.out (HST.out.2 (.inr hm)))
        rw [decide_eq_true hm] at HA
        clear hm
        go_wp2_with fail
        refine HA.out.mono ?_
        rintro e w2 ⟨rfl, rfl⟩
        go_wp2
        go_ret
        exact ⟨by rw [HF.out]; rfl, HB'.out⟩
      · have HN : Hid (x ∉ flat (p.take (k + 1))) := fun h => by
          rcases HST.out.1 h with h | h
          · exact hno.out h
          · exact hm h
        rw [decide_eq_false hm] at HA
        clear hm
        go_wp2_with fail
        refine HA.out.mono ?_
        rintro e w2 ⟨rfl, rfl⟩
        go_wp2
        go_roundw
        case rel => exact ⟨k + 1, by omega, by go_num, HN, HB'⟩
        case measure => simp [intOf]; omega
    · obtain rfl : k = n := by omega
      have e : p.take k = p := List.take_of_length_le (Nat.le_of_eq HL.out)
      rw [e] at hno
      have HF : Hid (decide (x ∈ flat p) = false) := decide_eq_false hno.out
      clear e hno
      go_wp2
      go_ret
      exact ⟨by rw [HF.out]; rfl, hbw.out⟩
set_option maxHeartbeats 1000000 in
theorem refHas_any (A : Option Addr) (n c : Nat) (p : Path) (x : Int) (w : World) (hx : Segs w w.heap.size A n c p) (hs : Sm p) :
    Calls Try.prog 39 #[.slice A n c, .int .i64 x] w fun e w' => e = .returned (.bool (decide (x ∈ flat p))) ∧ Below w.heap.size w w' := by
  have hl := hx.len
  have hfm : (flat p).length ≤ 1000000 := by unfold Sm at hs; omega
  have HC := Lib.hid (refFlat_any A n c p w hx (by unfold Sm at hs; omega) (by omega))
  obtain ⟨l, hll⟩ : ∃ l, flat p = l := ⟨_, rfl⟩
  rw [hll] at HC hfm ⊢
  clear hx hs hl hll
  go_enter Try.func39, Try.ntmps39
  go_wp2_with fail
  refine HC.out.mono ?_
  rintro e w1 ⟨T, tc, rfl, ho, hb⟩
  have HB := Lib.hid hb
  have HT := Lib.hid ho.ints
  clear ho hb HC
  obtain ⟨tn, htn⟩ : ∃ m, l.length = m := ⟨_, rfl⟩
  rw [htn] at HT hfm ⊢
  go_wp2
  go_loop [10] (fun i => ∃ k : Nat, k ≤ tn ∧ i = .int .i64 k ∧ Hid (∀ j, j < k → l.getD j 0 ≠ x)) (fun i => tn - (intOf i).toNat)
  case atStart => exact ⟨0, Nat.zero_le _, rfl, fun j hj => absurd hj (by omega)⟩
  case round =>
    obtain ⟨k, hk, rfl, hno⟩ := hrel
    by_cases hlt : k < tn
    · obtain ⟨b, o, y, rfl, hbB, c0, hy⟩ := HT.out.cell hlt
      by_cases hyx : y = x
      · have HF : Hid (decide (x ∈ l) = true) := by
          refine decide_eq_true ?_
          have h1 := hy.out
          rw [List.getD_eq_getElem?_getD, List.getElem?_eq_getElem (by rw [htn]; exact hlt)] at h1
          rw [← hyx, ← h1]
          exact List.getElem_mem _
        have d : (y == x) = true := by simp [hyx]
        clear hy hyx
        go_wp2
        go_ret
        exact ⟨by rw [HF.out]; rfl, HB.out⟩
      · have HN : Hid (∀ j, j < k + 1 → l.getD j 0 ≠ x) := by
          intro j hj
          rcases Nat.lt_or_ge j k with h | h
          · exact hno.out j h
          · obtain rfl : j = k := by omega
            rw [hy.out]
            exact hyx
        have d : (y == x) = false := by simp [hyx]
        clear hy hyx
        go_wp2
        go_round
        case rel => exact ⟨k + 1, by omega, by go_num, HN⟩
        case measure => simp [intOf]; omega
    · obtain rfl : k = tn := by omega
      have HF : Hid (decide (x ∈ l) = false) := by
        refine decide_eq_false fun hm => ?_
        obtain ⟨j, hj, he⟩ := List.mem_iff_getElem.1 hm
        refine hno.out j (by rw [← htn]; exact hj) ?_
        rw [List.getD_eq_getElem?_getD, List.getElem?_eq_getElem hj]
        exact he
      go_wp2
      go_ret
      exact ⟨by rw [HF.out]; rfl, HB.out⟩
end Go.Proofs.Ytojgohgeagbkbaa
