/- Check: the program's and the reference's texts return the same error of a group. -/
import Derived.Test.YtlcgjgmhllmekaaGroup
namespace Go.Proofs.Ytlcgjgmhllmekaa
open Go.RowKit

/-- the first error of the first k paths, 0 if there is none -/
def chkTo (act : Int) (np : Nat) (ps : List PV) : Nat → Int
  | 0 => 0
  | k + 1 => if chkTo act np ps k ≠ 0 then chkTo act np ps k else match ps[k]? with
    | some p => pErr act np k p
    | none => 0
theorem chkTo_keep {act : Int} {np : Nat} {ps : List PV} {j : Nat} (h : chkTo act np ps j ≠ 0) : ∀ {k : Nat}, j ≤ k → chkTo act np ps k = chkTo act np ps j := by
  intro k hk
  obtain ⟨d, rfl⟩ : ∃ d, k = j + d := ⟨k - j, by omega⟩
  clear hk
  induction d with
  | zero => rfl
  | succ d ih =>
    show chkTo act np ps (j + d + 1) = _
    rw [chkTo, if_pos (by rw [ih]; exact h), ih]
/-- the error of a group -/
def gErr (act : Int) (n : Nat) (ps : List PV) : Int := if 64 < n then 4 else if act < 0 ∨ (n : Int) < act then 5 else chkTo act n ps n

set_option maxHeartbeats 2000000 in
theorem check_any (A : Option Addr) (n c B : Nat) (act : Int) (ps : List PV) (w : World) (hx : Paths w B A n c ps) (hB : B ≤ w.heap.size) (hn : n ≤ 140737488355328) :
    Calls Try.prog 10 #[.agg #[.int .i64 act, .slice A n c]] w fun e w' => e = .returned (.int .i64 (gErr act n ps)) ∧ Below w.heap.size w w' := by
  have HB := Lib.hid ((Below.refl w.heap.size w).alloc (Nat.le_refl _) (.cells #[.int .i64 act, .slice A n c] 24))
  by_cases h1 : 64 < n
  · have HE : Hid (gErr act n ps = 4) := by show _ = _; rw [gErr, if_pos h1]
    clear hx
    go_enter Try.func10, Try.ntmps10
    go_wp2
    go_ret
    exact ⟨ret_int HE.out.symm, HB.out⟩
  by_cases h2 : act < 0
  · have HE : Hid (gErr act n ps = 5) := by show _ = _; rw [gErr, if_neg h1, if_pos (by omega)]
    clear hx
    go_enter Try.func10, Try.ntmps10
    go_wp2
    go_ret
    exact ⟨ret_int HE.out.symm, HB.out⟩
  by_cases h3 : (n : Int) < act
  · have HE : Hid (gErr act n ps = 5) := by show _ = _; rw [gErr, if_neg h1, if_pos (by omega)]
    clear hx
    go_enter Try.func10, Try.ntmps10
    go_wp2
    go_ret
    exact ⟨ret_int HE.out.symm, HB.out⟩
  have HE : Hid (gErr act n ps = chkTo act n ps n) := by show _ = _; rw [gErr, if_neg h1, if_neg (by omega)]
  have HL := Lib.hid hx.len
  go_enter Try.func10, Try.ntmps10
  go_wp2
  go_loopw [23] (fun k wr => ∃ q : Nat, q ≤ n ∧ k = .int .i64 q ∧ Hid (chkTo act n ps q = 0) ∧ Hid (Below (w.heap.size + 1) (w.alloc (.cells #[.int .i64 act, .slice A n c] 24)) wr)) (fun k _ => n - (intOf k).toNat)
  case atStart => exact ⟨0, Nat.zero_le _, rfl, rfl, Below.refl _ _⟩
  case round =>
    obtain ⟨q, hq, rfl, hz, hb⟩ := hrel
    have u0 : wr.cell? ⟨w.heap.size, 0, none⟩ = some (.int .i64 act) := (hb.out.cell (p := ⟨w.heap.size, 0, none⟩) (by simp)).trans (by go_simp)
    have u1 : wr.cell? ⟨w.heap.size, 1, none⟩ = some (.slice A n c) := (hb.out.cell (p := ⟨w.heap.size, 1, none⟩) (by simp)).trans (by go_simp)
    have HBW : Hid (Below w.heap.size w wr) := HB.out.trans (hb.out.mono (by omega))
    by_cases hlt : q < n
    · obtain ⟨p, hp⟩ : ∃ p, ps[q]? = some p := ⟨ps[q]'(by rw [HL.out]; exact hlt), List.getElem?_eq_getElem _⟩
      have HP := Lib.hid hp
      have HX : Hid (Paths wr B A n c ps) := hx.below (HBW.out.mono hB)
      clear hx hp
      go_wp2_with fail
      refine (checkPath_any A n c B q act ps wr HX.out (by have := HBW.out.size; omega) HP.out).mono ?_
      rintro e w2 ⟨rfl, hb2⟩
      have HB2 := Lib.hid hb2
      have hsz : w.heap.size + 1 ≤ wr.heap.size := by have := hb.out.size; simpa using this
      have HB3 : Hid (Below (w.heap.size + 1) (w.alloc (.cells #[.int .i64 act, .slice A n c] 24)) w2) := hb.out.trans (hb2.mono hsz)
      clear hb2
      obtain ⟨e, he⟩ : ∃ e, pErr act n q p = e := ⟨_, rfl⟩
      have HC : Hid (chkTo act n ps (q + 1) = e) := by
        show _ = _
        rw [chkTo, hz.out, HP.out]
        simpa using he
      rw [he]
      clear he
      by_cases h0 : e = 0
      · subst h0
        go_wp2
        go_roundw
        case rel => exact ⟨q + 1, by omega, by go_num, HC, HB3⟩
        case measure => simp [intOf]; omega
      · have d : (e != 0) = true := by simp [h0]
        have HF : Hid (gErr act n ps = e) := by
          show _ = _
          rw [HE.out, ← HC.out]
          exact chkTo_keep (by rw [HC.out]; exact h0) hlt
        clear h0
        go_wp2
        go_ret
        exact ⟨ret_int HF.out.symm, HBW.out.trans (HB2.out.mono HBW.out.size)⟩
    · obtain rfl : q = n := by omega
      clear hx
      go_wp2
      go_ret
      exact ⟨ret_int (by rw [HE.out, hz.out]), HBW.out⟩

set_option maxHeartbeats 2000000 in
theorem refCheck_any (A : Option Addr) (n c B : Nat) (act : Int) (ps : List PV) (w : World) (hx : Paths w B A n c ps) (hB : B ≤ w.heap.size) (hn : n ≤ 140737488355328) :
    Calls Try.prog 11 #[.agg #[.int .i64 act, .slice A n c]] w fun e w' => e = .returned (.int .i64 (gErr act n ps)) ∧ Below w.heap.size w w' := by
  have HB := Lib.hid ((Below.refl w.heap.size w).alloc (Nat.le_refl _) (.cells #[.int .i64 act, .slice A n c] 24))
  by_cases h1 : 64 < n
  · have HE : Hid (gErr act n ps = 4) := by show _ = _; rw [gErr, if_pos h1]
    clear hx
    go_enter Try.func11, Try.ntmps11
    go_wp2
    go_ret
    exact ⟨ret_int HE.out.symm, HB.out⟩
  by_cases h2 : act < 0
  · have HE : Hid (gErr act n ps = 5) := by show _ = _; rw [gErr, if_neg h1, if_pos (by omega)]
    clear hx
    go_enter Try.func11, Try.ntmps11
    go_wp2
    go_ret
    exact ⟨ret_int HE.out.symm, HB.out⟩
  by_cases h3 : (n : Int) < act
  · have HE : Hid (gErr act n ps = 5) := by show _ = _; rw [gErr, if_neg h1, if_pos (by omega)]
    clear hx
    go_enter Try.func11, Try.ntmps11
    go_wp2
    go_ret
    exact ⟨ret_int HE.out.symm, HB.out⟩
  have HE : Hid (gErr act n ps = chkTo act n ps n) := by show _ = _; rw [gErr, if_neg h1, if_neg (by omega)]
  have HL := Lib.hid hx.len
  go_enter Try.func11, Try.ntmps11
  go_wp2
  go_loopw [23] (fun k wr => ∃ q : Nat, q ≤ n ∧ k = .int .i64 q ∧ Hid (chkTo act n ps q = 0) ∧ Hid (Below (w.heap.size + 1) (w.alloc (.cells #[.int .i64 act, .slice A n c] 24)) wr)) (fun k _ => n - (intOf k).toNat)
  case atStart => exact ⟨0, Nat.zero_le _, rfl, rfl, Below.refl _ _⟩
  case round =>
    obtain ⟨q, hq, rfl, hz, hb⟩ := hrel
    have u0 : wr.cell? ⟨w.heap.size, 0, none⟩ = some (.int .i64 act) := (hb.out.cell (p := ⟨w.heap.size, 0, none⟩) (by simp)).trans (by go_simp)
    have u1 : wr.cell? ⟨w.heap.size, 1, none⟩ = some (.slice A n c) := (hb.out.cell (p := ⟨w.heap.size, 1, none⟩) (by simp)).trans (by go_simp)
    have HBW : Hid (Below w.heap.size w wr) := HB.out.trans (hb.out.mono (by omega))
    by_cases hlt : q < n
    · obtain ⟨p, hp⟩ : ∃ p, ps[q]? = some p := ⟨ps[q]'(by rw [HL.out]; exact hlt), List.getElem?_eq_getElem _⟩
      have HP := Lib.hid hp
      have HX : Hid (Paths wr B A n c ps) := hx.below (HBW.out.mono hB)
      clear hx hp
      go_wp2_with fail
      refine (refPath_any A n c B q act ps wr HX.out (by have := HBW.out.size; omega) HP.out).mono ?_
      rintro e w2 ⟨rfl, hb2⟩
      have HB2 := Lib.hid hb2
      have hsz : w.heap.size + 1 ≤ wr.heap.size := by have := hb.out.size; simpa using this
      have HB3 : Hid (Below (w.heap.size + 1) (w.alloc (.cells #[.int .i64 act, .slice A n c] 24)) w2) := hb.out.trans (hb2.mono hsz)
      clear hb2
      obtain ⟨e, he⟩ : ∃ e, pErr act n q p = e := ⟨_, rfl⟩
      have HC : Hid (chkTo act n ps (q + 1) = e) := by
        show _ = _
        rw [chkTo, hz.out, HP.out]
        simpa using he
      rw [he]
      clear he
      by_cases h0 : e = 0
      · subst h0
        go_wp2
        go_roundw
        case rel => exact ⟨q + 1, by omega, by go_num, HC, HB3⟩
        case measure => simp [intOf]; omega
      · have d : (e != 0) = true := by simp [h0]
        have HF : Hid (gErr act n ps = e) := by
          show _ = _
          rw [HE.out, ← HC.out]
          exact chkTo_keep (by rw [HC.out]; exact h0) hlt
        clear h0
        go_wp2
        go_ret
        exact ⟨ret_int HF.out.symm, HBW.out.trans (HB2.out.mono HBW.out.size)⟩
    · obtain rfl : q = n := by omega
      clear hx
      go_wp2
      go_ret
      exact ⟨ret_int (by rw [HE.out, hz.out]), HBW.out⟩

end Go.Proofs.Ytlcgjgmhllmekaa
