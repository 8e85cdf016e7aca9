/- Attributes, plain: their fields, their error; the small checks. -/
import Derived.Test.YtojgohgeagbkbaaUnk
import Derived.Test.YtojgohgeagbkbaaDupl
namespace Go.Proofs.Ytojgohgeagbkbaa
open Go.RowKit

structure Att where
  origin : Int
  path : Path
  hop : Int
  hasMED : Bool
  med : Int
  hasPref : Bool
  pref : Int
  atomic : Bool
  hasAggr : Bool
  aggrAS : Int
  aggrAddr : Int
  comm : List Int
  hasOrig : Bool
  orig : Int
  clus : List Int
  unk : Path
def whenE (b : Bool) (e : Int) : Int := if b = true then e else 0
def optE (has : Bool) (n low : Int) : Int := if has = true then (if n < low ∨ n > 4294967295 then 5 else 0) else if n = 0 then 0 else 1
def firstE : List Int → Int
  | [] => 0
  | e :: r => if e = 0 then firstE r else e
/-- the errors of attributes, in order -/
def attErrs (a : Att) : List Int :=
  [whenE (decide (a.origin < 0) || decide (2 < a.origin)) 5, pathErr a.path, whenE (a.hop == 0) 1, optE a.hasMED a.med 0, optE a.hasPref a.pref 0, optE a.hasAggr a.aggrAS 1,
    whenE (!a.hasAggr && a.aggrAddr != 0) 1, commE a.comm, whenE (a.hasOrig == (a.orig == 0)) 1, clusE a.clus, unkE a.unk]
def attErr (a : Att) : Int := firstE (attErrs a)
theorem firstE_no {l : List Int} (h : ∀ j, j < l.length → l.getD j 0 = 0) : firstE l = 0 := by
  induction l with
  | nil => rfl
  | cons e r ih =>
    have h0 := h 0 (by simp)
    rw [firstE, if_pos (by simpa using h0)]
    exact ih fun j hj => by have := h (j + 1) (by simpa using hj); simpa using this
theorem firstE_at : ∀ {l : List Int} {k : Nat}, (∀ j, j < k → l.getD j 0 = 0) → l.getD k 0 ≠ 0 → firstE l = l.getD k 0
  | [], k, _, h => by simp at h
  | e :: r, 0, _, h => by rw [firstE, if_neg (by simpa using h)]; rfl
  | e :: r, k + 1, h0, h => by
    have h1 := h0 0 (by omega)
    rw [firstE, if_pos (by simpa using h1), firstE_at (l := r) (k := k) (fun j hj => by have := h0 (j + 1) (by omega); simpa using this) (by simpa using h)]
    simp
theorem when_any (b : Bool) (e : Int) (w : World) : Calls Try.prog 64 #[.bool b, .int .i64 e] w fun r w' => r = .returned (.int .i64 (whenE b e)) ∧ w = w' := by
  cases b
  · go_enter Try.func64, Try.ntmps64
    go_wp2
    go_ret
    exact ⟨rfl, rfl⟩
  · go_enter Try.func64, Try.ntmps64
    go_wp2
    go_ret
    exact ⟨rfl, rfl⟩
set_option maxHeartbeats 1000000 in
theorem optional_any (has : Bool) (n low : Int) (w : World) : Calls Try.prog 66 #[.bool has, .int .i64 n, .int .i64 low] w fun r w' => r = .returned (.int .i64 (optE has n low)) ∧ w = w' := by
  cases has
  case true =>
    by_cases h1 : n < low
    · have HF : Hid (optE true n low = 5) := by show _ = _; simp [optE, h1]
      have d1 : decide (n < low) = true := by simp [h1]
      go_enter Try.func66, Try.ntmps66
      go_wp2
      go_ret
      exact ⟨by rw [HF.out]; rfl, rfl⟩
    have d1 : decide (n < low) = false := by simpa using h1
    by_cases h2 : n > 4294967295
    · have HF : Hid (optE true n low = 5) := by show _ = _; unfold optE; rw [if_pos rfl, if_pos (.inr h2)]
      have d2 : decide (n > 4294967295) = true := by simpa using h2
      go_enter Try.func66, Try.ntmps66
      go_wp2
      go_ret
      exact ⟨by rw [HF.out]; rfl, rfl⟩
    have d2 : decide (n > 4294967295) = false := by simpa using h2
    have HF : Hid (optE true n low = 0) := by show _ = _; unfold optE; rw [if_pos rfl, if_neg (by omega)]
    go_enter Try.func66, Try.ntmps66
    go_wp2
    go_ret
    exact ⟨by rw [HF.out]; rfl, rfl⟩
  case false =>
    by_cases h1 : n = 0
    · subst h1
      go_enter Try.func66, Try.ntmps66
      go_wp2
      go_ret
      exact ⟨rfl, rfl⟩
    have HF : Hid (optE false n low = 1) := by show _ = _; simp [optE, h1]
    have d1 : (n != 0) = true := by simp [h1]
    go_enter Try.func66, Try.ntmps66
    go_wp2
    go_ret
    exact ⟨by rw [HF.out]; rfl, rfl⟩
set_option maxHeartbeats 1000000 in
theorem firstErr_any (T : Option Addr) (tn tc B : Nat) (xs : List Int) (w : World) (ht : Ints w B .i64 T tn tc xs) (htn : tn ≤ 140737488355328) :
    Calls Try.prog 63 #[.slice T tn tc] w fun e w' => e = .returned (.int .i64 (firstE xs)) ∧ w = w' := by
  have HT := Lib.hid ht
  have hl := Lib.hid ht.len
  clear ht
  go_enter Try.func63, Try.ntmps63
  go_wp2
  go_loop [7] (fun i => ∃ k : Nat, k ≤ tn ∧ i = .int .i64 k ∧ Hid (∀ j, j < k → xs.getD j 0 = 0)) (fun i => tn - (intOf i).toNat)
  case atStart => exact ⟨0, Nat.zero_le _, rfl, fun j hj => absurd hj (by omega)⟩
  case round =>
    obtain ⟨k, hk, rfl, hno⟩ := hrel
    by_cases hlt : k < tn
    · obtain ⟨b, o, y, rfl, hbB, c0, hy⟩ := HT.out.cell hlt
      by_cases hyx : y = 0
      · have HN : Hid (∀ j, j < k + 1 → xs.getD j 0 = 0) := fun j hj => by
          rcases Nat.lt_or_ge j k with h | h
          · exact hno.out j h
          · obtain rfl : j = k := by omega
            rw [hy.out, hyx]
        have d : (y != 0) = false := by simp [hyx]
        clear hy hyx
        go_wp2
        go_round
        case rel => exact ⟨k + 1, by omega, by go_num, HN⟩
        case measure => simp [intOf]; omega
      · have HL : Hid (firstE xs = y) := by show _ = _; rw [firstE_at hno.out (by rw [hy.out]; exact hyx), hy.out]
        have d : (y != 0) = true := by simp [hyx]
        clear hy hyx
        go_wp2
        go_ret
        exact ⟨by rw [HL.out]; rfl, rfl⟩
    · obtain rfl : k = tn := by omega
      have HL : Hid (firstE xs = 0) := firstE_no fun j hj => hno.out j (by rw [← hl.out]; exact hj)
      go_wp2
      go_ret
      exact ⟨by rw [HL.out]; rfl, rfl⟩
theorem word_any (n : Int) (w : World) : Calls Try.prog 53 #[.int .i64 n] w fun r w' => r = .returned (.bool (decide (0 ≤ n) && decide (n ≤ 4294967295))) ∧ w = w' := by
  by_cases h : n ≥ 0
  · have d : decide (n ≥ 0) = true := by simpa using h
    have d' : decide (0 ≤ n) = true := by simpa using h
    rw [d']
    go_enter Try.func53, Try.ntmps53
    go_wp2
    all_goals
      go_ret
      first
        | exact ⟨ret_bool (by simp; try omega), rfl⟩
        | exact ⟨rfl, rfl⟩
  · have d : decide (n ≥ 0) = false := by simpa using h
    have d' : decide (0 ≤ n) = false := by simpa using h
    rw [d']
    go_enter Try.func53, Try.ntmps53
    go_wp2
    go_ret
    exact ⟨rfl, rfl⟩
end Go.Proofs.Ytojgohgeagbkbaa
