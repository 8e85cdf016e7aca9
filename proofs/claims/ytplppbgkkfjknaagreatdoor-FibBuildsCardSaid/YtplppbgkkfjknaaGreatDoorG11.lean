/- rows: the check of the rows of a table. fib.Check. -/
import Derived.Test.YtplppbgkkfjknaaGreatDoorG4
import Derived.Test.YtplppbgkkfjknaaGreatDoorG9
namespace Go.Proofs.YtplppbgkkfjknaaGreatDoor
open Go.RowKit

set_option linter.unusedVariables false
set_option linter.unusedSimpArgs false
def entAt (es : List Ent) (i : Nat) : Ent := (es[i]?).getD ⟨0, 0, 0⟩
theorem ent_of {es : List Ent} {k : Nat} {x : Ent} (h : es[k]? = some x) : entAt es k = x := by unfold entAt; rw [h]; rfl
def cmpE (x y : Ent) : Int := cmpP x.a x.l y.a y.l
def rowErr (ng : Nat) (es : List Ent) (i : Nat) : Int := if validE (entAt es i) = false then 1 else if 0 < i ∧ 0 ≤ cmpE (entAt es (i - 1)) (entAt es i) then 16 else if (entAt es i).v < 0 ∨ (ng : Int) ≤ (entAt es i).v then 5 else 0
/-- the error of the rows -/
def rowsErr (ng : Nat) (es : List Ent) : Int := firstE (rowErr ng es) es.length
def RowsI (w : World) (ng n : Nat) (es : List Ent) (fv : List Value) (iv : Value) (W : World) : Prop :=
  ∃ k : Nat, k ≤ n ∧ iv = .int .i64 k ∧ Hid (firstE (rowErr ng es) k = 0) ∧ Hid (Blk W w.heap.size 35 fv) ∧ Hid (Below w.heap.size w W)
set_option maxRecDepth 100000 in
set_option maxHeartbeats 4000000 in
theorem rows_any (tA gA lA bA nA : Option Addr) (tn tc gn gc ln lc bn bc nn nc : Nat) (B : Nat) (es : List Ent) (w : World) (hx : Ents w B tA tn tc es) (hB : B ≤ w.heap.size) (hn : tn ≤ 140737488355328) :
    Calls Tryz.prog 93 #[.agg #[.slice tA tn tc, .slice gA gn gc, .slice lA ln lc, .slice bA bn bc, .slice nA nn nc]] w fun e w' => e = .returned (.int .i64 (rowsErr gn es)) ∧ Below w.heap.size w w' := by
  have HX := Lib.hid hx
  have HL := Lib.hid hx.len
  obtain ⟨w1, hw1⟩ : ∃ w1, w.alloc (.cells #[.slice tA tn tc, .slice gA gn gc, .slice lA ln lc, .slice bA bn bc, .slice nA nn nc] 35) = w1 := ⟨_, rfl⟩
  have HF1 : Hid (Blk w1 w.heap.size 35 [.slice tA tn tc, .slice gA gn gc, .slice lA ln lc, .slice bA bn bc, .slice nA nn nc]) := by show Blk _ _ _ _; rw [← hw1]; exact Blk.new w _ _
  have HB1 : Hid (Below w.heap.size w w1) := by show Below _ _ _; rw [← hw1]; exact belowA _ _
  have hlt1 : w.heap.size < w1.heap.size := HF1.out.lt
  have HI0 : Hid (RowsI w gn tn es [.slice tA tn tc, .slice gA gn gc, .slice lA ln lc, .slice bA bn bc, .slice nA nn nc] (.int .i64 (0 : Nat)) w1) := ⟨0, Nat.zero_le _, rfl, Lib.hid rfl, HF1, HB1⟩
  have f0 := HF1.out.cell 0
  simp only [List.getElem?_cons_zero, List.getElem?_cons_succ] at f0
  clear hx
  go_enter Tryz.func93, Tryz.ntmps93
  go_wp2
  go_loopw [8] (fun iv wr => RowsI w gn tn es [.slice tA tn tc, .slice gA gn gc, .slice lA ln lc, .slice bA bn bc, .slice nA nn nc] iv wr) (fun iv _ => tn - (intOf iv).toNat)
  case atStart => exact HI0.out
  case round =>
    obtain ⟨k, hk, rfl, h0, hF, hB2⟩ := hrel
    clear HI0 f0 hw1 HF1 HB1 hlt1
    by_cases hlt : k < tn
    case neg =>
      obtain rfl : k = tn := by omega
      have HE : Hid (rowsErr gn es = 0) := by show _ = _; unfold rowsErr; rw [HL.out]; exact h0.out
      go_wp2
      go_ret
      exact ⟨ret_int HE.out.symm, hB2.out⟩
    have HX2 : Hid (Ents wr B tA tn tc es) := HX.out.below (hB2.out.mono hB)
    obtain ⟨b, o, x, rfl, hbB, hxk, hxa, c0, c1, c2⟩ := HX2.out.get hlt
    have hax := ent_of hxk
    have HO : Hid (rowErr gn es k = if validE x = false then 1 else if 0 < k ∧ 0 ≤ cmpE (entAt es (k - 1)) x then 16 else if x.v < 0 ∨ (gn : Int) ≤ x.v then 5 else 0) := by
      show _ = _
      unfold rowErr
      rw [hax]
    have HAT : Hid (∀ v : Int, rowErr gn es k = v → v ≠ 0 → rowsErr gn es = v) := fun v hv hne => by
      unfold rowsErr
      rw [HL.out, firstE_at h0.out (by rw [hv]; exact hne) hlt, hv]
    have HST : Hid (rowErr gn es k = 0 → firstE (rowErr gn es) (k + 1) = 0) := fun hv => firstE_step h0.out hv
    have hbw : b < wr.heap.size := by have := hB2.out.size; omega
    obtain ⟨xa, xl, xv⟩ := x
    dsimp only at hxa c0 c1 c2 HO
    obtain ⟨wa, hwa⟩ : ∃ wa, wr.alloc (.cells #[.int .u32 xa, .int .i64 xl, .int .i64 xv] 79) = wa := ⟨_, rfl⟩
    have HXB : Hid (Blk wa wr.heap.size 79 [.int .u32 xa, .int .i64 xl, .int .i64 xv]) := by show Blk _ _ _ _; rw [← hwa]; exact Blk.new wr _ _
    have HBA : Hid (Below wr.heap.size wr wa) := by show Below _ _ _; rw [← hwa]; exact belowA _ _
    have e0 := HXB.out.cell 0
    have e1 := HXB.out.cell 1
    simp only [List.getElem?_cons_zero, List.getElem?_cons_succ] at e0 e1
    have hlta : wr.heap.size < wa.heap.size := HXB.out.lt
    have f0 := hF.out.cell 0
    simp only [List.getElem?_cons_zero, List.getElem?_cons_succ] at f0
    have hNw : w.heap.size < wr.heap.size := hF.out.lt
    have HV := Lib.hid (valid_any xa xl wa hxa)
    have HVE : Hid (validE ⟨xa, xl, xv⟩ = validP xa xl) := rfl
    obtain ⟨vb, hvb⟩ : ∃ vb, validP xa xl = vb := ⟨_, rfl⟩
    rw [hvb] at HV HVE
    clear hax hvb
    go_wp2_with fail
    refine HV.out.mono ?_
    rintro e w2 ⟨rfl, hb2⟩
    clear HV hwa e0 e1
    have HB3 := Lib.hid (below3 HBA.out hb2)
    have HB4 := Lib.hid (below3 hB2.out HB3.out)
    have HF3 := Lib.hid (hF.out.keep HB3.out)
    have HXB2 := Lib.hid (HXB.out.keep hb2)
    have hszb := hb2.size
    clear hb2 HBA HXB hF f0
    cases vb
    case false =>
      have HE : Hid (rowsErr gn es = 1) := HAT.out 1 (by rw [HO.out, if_pos HVE.out]) (by omega)
      go_wp2
      go_ret
      exact ⟨ret_int HE.out.symm, HB4.out⟩
    have HO2 : Hid (rowErr gn es k = if 0 < k ∧ 0 ≤ cmpE (entAt es (k - 1)) ⟨xa, xl, xv⟩ then 16 else if xv < 0 ∨ (gn : Int) ≤ xv then 5 else 0) := by
      show _ = _
      rw [HO.out, if_neg (by rw [HVE.out]; simp)]
    clear HO HVE
    go_upto_region 6 with fail
    obtain ⟨wD, hwD⟩ : ∃ wD, w2.drew = wD := ⟨_, rfl⟩
    have HBD : Hid (Below w2.heap.size w2 wD) := by show Below _ _ _; rw [← hwD]; exact (Below.refl _ _).drew
    have VF := Lib.hid (HF3.out.keep HBD.out)
    have VX := Lib.hid (HXB2.out.keep HBD.out)
    have VB := Lib.hid (below3 HB4.out HBD.out)
    clear HF3 HXB2 HB4
    rcases Nat.eq_zero_or_pos k with hk0 | hk0
    · have HK0 := Lib.hid hk0
      have dk : decide ((0 : Int) < (k : Int)) = false := decide_eq_false (by omega)
      have dk' : decide (0 < k) = false := decide_eq_false (by omega)
      clear hk0
      have HO3 : Hid (rowErr gn es k = if xv < 0 ∨ (gn : Int) ≤ xv then 5 else 0) := by
        show _ = _
        rw [HO2.out, if_neg (by have := HK0.out; omega)]
      refine wp_region_noPanic ?_
      refine wp_region_held_drew (S := fun V => True) (by kernel_rfl) trivial (fun hHeld => ?_)
      rw [hwD] at *
      refine take_in (i := 0) _ (some 19) (by kernel_rfl) (by kernel_rfl) (by kernel_rfl) (by kernel_rfl) (fun _ _ _ h => h) (by rfl) (fun o ho w hSw => by cases ho; (try dsimp only at hSw); (try go_split_ands); go_simp; (try with_reducible rfl)) hHeld ?_
      try simp only [Act.put, List.setIfInBounds_toArray, List.set_cons_zero, List.set_cons_succ]
      refine take_in (i := 1) _ (some 20) (by kernel_rfl) (by kernel_rfl) (by kernel_rfl) (by kernel_rfl) (fun _ _ _ h => h) (by rfl) (fun o ho w hSw => by cases ho; (try dsimp only at hSw); (try go_split_ands); go_simp; (try with_reducible rfl)) hHeld ?_
      try simp only [Act.put, List.setIfInBounds_toArray, List.set_cons_zero, List.set_cons_succ]
      refine take_in (i := 2) _ (some 21) (by kernel_rfl) (by kernel_rfl) (by kernel_rfl) (by kernel_rfl) (fun _ _ _ h => h) (by rfl) (fun o ho w hSw => by cases ho; (try dsimp only at hSw); (try go_split_ands); go_simp; (try with_reducible rfl)) hHeld ?_
      try simp only [Act.put, List.setIfInBounds_toArray, List.set_cons_zero, List.set_cons_succ]
      refine take_un (i := 3) (some 22) (by kernel_rfl) (by kernel_rfl) (by kernel_rfl) (by kernel_rfl) (fun _ _ _ h => h) (by rfl) hHeld ?_
      try simp only [Act.put, List.setIfInBounds_toArray, List.set_cons_zero, List.set_cons_succ]
      refine take_un (i := 4) (some 23) (by kernel_rfl) (by kernel_rfl) (by kernel_rfl) (by kernel_rfl) (fun _ _ _ h => h) (by rfl) hHeld ?_
      try simp only [Act.put, List.setIfInBounds_toArray, List.set_cons_zero, List.set_cons_succ]
      refine take_un (i := 5) (some 24) (by kernel_rfl) (by kernel_rfl) (by kernel_rfl) (by kernel_rfl) (fun _ _ _ h => h) (by rfl) hHeld ?_
      try simp only [Act.put, List.setIfInBounds_toArray, List.set_cons_zero, List.set_cons_succ]
      refine take_un (i := 6) (some 25) (by kernel_rfl) (by kernel_rfl) (by kernel_rfl) (by kernel_rfl) (fun _ _ _ h => h) (by rfl) hHeld ?_
      try simp only [Act.put, List.setIfInBounds_toArray, List.set_cons_zero, List.set_cons_succ]
      refine take_un (i := 7) (some 26) (by kernel_rfl) (by kernel_rfl) (by kernel_rfl) (by kernel_rfl) (fun _ _ _ h => h) (by rfl) hHeld ?_
      try simp only [Act.put, List.setIfInBounds_toArray, List.set_cons_zero, List.set_cons_succ]
      refine take_un (i := 8) (some 27) (by kernel_rfl) (by kernel_rfl) (by kernel_rfl) (by kernel_rfl) (fun _ _ _ h => h) (by rfl) hHeld ?_
      try simp only [Act.put, List.setIfInBounds_toArray, List.set_cons_zero, List.set_cons_succ]
      refine take_un (i := 9) (some 28) (by kernel_rfl) (by kernel_rfl) (by kernel_rfl) (by kernel_rfl) (fun _ _ _ h => h) (by rfl) hHeld ?_
      try simp only [Act.put, List.setIfInBounds_toArray, List.set_cons_zero, List.set_cons_succ]
      refine take_un (i := 10) (some 29) (by kernel_rfl) (by kernel_rfl) (by kernel_rfl) (by kernel_rfl) (fun _ _ _ h => h) (by rfl) hHeld ?_
      try simp only [Act.put, List.setIfInBounds_toArray, List.set_cons_zero, List.set_cons_succ]
      refine take_un (i := 11) (some 30) (by kernel_rfl) (by kernel_rfl) (by kernel_rfl) (by kernel_rfl) (fun _ _ _ h => h) (by rfl) hHeld ?_
      try simp only [Act.put, List.setIfInBounds_toArray, List.set_cons_zero, List.set_cons_succ]
      refine take_un (i := 12) (some 31) (by kernel_rfl) (by kernel_rfl) (by kernel_rfl) (by kernel_rfl) (fun _ _ _ h => h) (by rfl) hHeld ?_
      try simp only [Act.put, List.setIfInBounds_toArray, List.set_cons_zero, List.set_cons_succ]
      refine take_un (i := 13) (some 32) (by kernel_rfl) (by kernel_rfl) (by kernel_rfl) (by kernel_rfl) (fun _ _ _ h => h) (by rfl) hHeld ?_
      try simp only [Act.put, List.setIfInBounds_toArray, List.set_cons_zero, List.set_cons_succ]
      refine take_in (i := 14) _ (some 33) (by kernel_rfl) (by kernel_rfl) (by kernel_rfl) (by kernel_rfl) (fun _ _ _ h => h) (by rfl) (fun o ho w hSw => by cases ho; (try dsimp only at hSw); (try go_split_ands); go_simp; (try with_reducible rfl)) hHeld ?_
      try simp only [Act.put, List.setIfInBounds_toArray, List.set_cons_zero, List.set_cons_succ]
      refine take_in (i := 15) _ (some 18) (by kernel_rfl) (by kernel_rfl) (by kernel_rfl) (by kernel_rfl) (fun _ _ _ h => h) (by rfl) (fun o ho w hSw => by cases ho; (try dsimp only at hSw); (try go_split_ands); go_simp; (try with_reducible rfl)) hHeld ?_
      try simp only [Act.put, List.setIfInBounds_toArray, List.set_cons_zero, List.set_cons_succ]
      refine wpAnyH_done (by kernel_rfl) ?_ _
      refine NoPanic.normal ?_
      have g2 := VX.out.cell 2
      have f1 := VF.out.cell 1
      simp only [List.getElem?_cons_zero, List.getElem?_cons_succ] at g2 f1
      have g2l := VX.out.lt
      have f1l := VF.out.lt
      by_cases hv : xv < 0 ∨ (gn : Int) ≤ xv
      · have HE : Hid (rowsErr gn es = 5) := HAT.out 5 (by rw [HO3.out, if_pos hv]) (by omega)
        by_cases hv0 : xv < 0
        · have dv : decide (xv < 0) = true := decide_eq_true hv0
          clear hv hv0
          go_wp2
          go_ret
          exact ⟨ret_int HE.out.symm, VB.out⟩
        · have dv : decide (xv < 0) = false := decide_eq_false hv0
          have dg : decide (xv ≥ (gn : Int)) = true := decide_eq_true (by omega)
          clear hv hv0
          go_wp2
          go_ret
          exact ⟨ret_int HE.out.symm, VB.out⟩
      · have HN := Lib.hid (HST.out (by rw [HO3.out, if_neg hv]))
        have dv : decide (xv < 0) = false := decide_eq_false (by omega)
        have dg : decide (xv ≥ (gn : Int)) = false := decide_eq_false (by omega)
        clear hv
        go_wp2
        go_roundw
        case rel => exact ⟨k + 1, by omega, by go_num, HN, VF, VB⟩
        case measure => simp [intOf]; omega
    · obtain ⟨b2, o2, y, hA2, _, hyk, hya, p0, p1, _⟩ := HX2.out.get (j := k - 1) (by omega)
      simp only [Option.some.injEq, Addr.mk.injEq] at hA2
      obtain ⟨rfl, rfl, _⟩ := hA2
      have hry := ent_of hyk
      obtain ⟨ya, yl, yv⟩ := y
      dsimp only at p0 p1
      rw [hry] at HO2
      have dk : decide ((0 : Int) < (k : Int)) = true := decide_eq_true (by omega)
      have dk' : decide (0 < k) = true := decide_eq_true (by omega)
      have hk1 : k - 1 < tn := by omega
      have hws : IntKind.i64.wrap ((k : Int) - 1) = ((k - 1 : Nat) : Int) := by rw [IntWalk.i64_in _ (by omega)]; omega
      have HO2 : Hid (rowErr gn es k = if 0 < k ∧ 0 ≤ cmpP ya yl xa xl then 16 else if xv < 0 ∨ (gn : Int) ≤ xv then 5 else 0) := HO2
      have HQ := Lib.hid (compare_any ya xa yl xl wD)
      obtain ⟨q, hq⟩ : ∃ q, cmpP ya yl xa xl = q := ⟨_, rfl⟩
      rw [hq] at HO2 HQ
      have hP : ∀ W, Below w2.heap.size w2 W → (W.cell? ⟨b, o + (k - 1) * 3, none⟩ = some (.int .u32 ya) ∧ W.cell? ⟨b, o + (k - 1) * 3 + 1, none⟩ = some (.int .i64 yl)) := by
        intro W hW
        have h := HB3.out.trans (hW.mono HB3.out.size)
        exact ⟨(h.cell (p := ⟨b, _, none⟩) hbw).trans p0, (h.cell (p := ⟨b, _, none⟩) hbw).trans p1⟩
      have HS1 : Hid ((wD.cell? ⟨b, o + (k - 1) * 3, none⟩ = some (.int .u32 ya) ∧ wD.cell? ⟨b, o + (k - 1) * 3 + 1, none⟩ = some (.int .i64 yl)) ∧ wD.cell? ⟨wr.heap.size, 0, none⟩ = some (.int .u32 xa) ∧ wD.cell? ⟨wr.heap.size, 1, none⟩ = some (.int .i64 xl) ∧ wD.cell? ⟨w.heap.size, 0, none⟩ = some (.slice (some ⟨b, o, none⟩) tn tc)) := ⟨hP _ HBD.out, VX.out.cell 0, VX.out.cell 1, VF.out.cell 0⟩
      have hbD : b < wD.heap.size := by have h1 := HB3.out.size; have h2 := HBD.out.size; omega
      clear hq hry hyk p0 p1 hP
      by_cases hq : 0 ≤ q
      case pos =>
        have HE : Hid (rowsErr gn es = 16) := HAT.out 16 (by rw [HO2.out, if_pos ⟨hk0, hq⟩]) (by omega)
        have dq : decide (0 ≤ q) = true := decide_eq_true hq
        have dq' : decide (q ≥ 0) = true := decide_eq_true hq
        clear hq
        refine wp_region_noPanic ?_
        refine wp_region_held_drew (S := fun V => (V.cell? ⟨b, o + (k - 1) * 3, none⟩ = some (.int .u32 ya) ∧ V.cell? ⟨b, o + (k - 1) * 3 + 1, none⟩ = some (.int .i64 yl)) ∧ V.cell? ⟨wr.heap.size, 0, none⟩ = some (.int .u32 xa) ∧ V.cell? ⟨wr.heap.size, 1, none⟩ = some (.int .i64 xl) ∧ V.cell? ⟨w.heap.size, 0, none⟩ = some (.slice (some ⟨b, o, none⟩) tn tc)) (by kernel_rfl) (by rw [hwD]; exact HS1.out) (fun hHeld => ?_)
        rw [hwD] at *
        refine take_in (i := 0) _ (some 19) (by kernel_rfl) (by kernel_rfl) (by kernel_rfl) (by kernel_rfl) (fun _ _ _ h => h) (by rfl) (fun o ho w hSw => by cases ho; (try dsimp only at hSw); (try go_split_ands); go_simp; (try with_reducible rfl)) hHeld ?_
        try simp only [Act.put, List.setIfInBounds_toArray, List.set_cons_zero, List.set_cons_succ]
        refine take_in (i := 1) _ (some 20) (by kernel_rfl) (by kernel_rfl) (by kernel_rfl) (by kernel_rfl) (fun _ _ _ h => h) (by rfl) (fun o ho w hSw => by cases ho; (try dsimp only at hSw); (try go_split_ands); go_simp; (try with_reducible rfl)) hHeld ?_
        try simp only [Act.put, List.setIfInBounds_toArray, List.set_cons_zero, List.set_cons_succ]
        refine take_in (i := 2) _ (some 21) (by kernel_rfl) (by kernel_rfl) (by kernel_rfl) (by kernel_rfl) (fun _ _ _ h => h) (by rfl) (fun o ho w hSw => by cases ho; (try dsimp only at hSw); (try go_split_ands); go_simp; (try with_reducible rfl)) hHeld ?_
        try simp only [Act.put, List.setIfInBounds_toArray, List.set_cons_zero, List.set_cons_succ]
        refine take_in (i := 3) _ (some 22) (by kernel_rfl) (by kernel_rfl) (by kernel_rfl) (by kernel_rfl) (fun _ _ _ h => h) (by rfl) (fun o ho w hSw => by cases ho; (try dsimp only at hSw); (try go_split_ands); go_simp; (try with_reducible rfl)) hHeld ?_
        try simp only [Act.put, List.setIfInBounds_toArray, List.set_cons_zero, List.set_cons_succ]
        refine take_in (i := 4) _ (some 23) (by kernel_rfl) (by kernel_rfl) (by kernel_rfl) (by kernel_rfl) (fun _ _ _ h => h) (by rfl) (fun o ho w hSw => by cases ho; (try dsimp only at hSw); (try go_split_ands); go_simp; (try with_reducible rfl)) hHeld ?_
        try simp only [Act.put, List.setIfInBounds_toArray, List.set_cons_zero, List.set_cons_succ]
        refine take_in (i := 5) _ (some 24) (by kernel_rfl) (by kernel_rfl) (by kernel_rfl) (by kernel_rfl) (fun _ _ _ h => h) (by rfl) (fun o ho w hSw => by cases ho; (try dsimp only at hSw); (try go_split_ands); go_simp; (try with_reducible rfl)) hHeld ?_
        try simp only [Act.put, List.setIfInBounds_toArray, List.set_cons_zero, List.set_cons_succ]
        refine take_in (i := 6) _ (some 25) (by kernel_rfl) (by kernel_rfl) (by kernel_rfl) (by kernel_rfl) (fun _ _ _ h => h) (by rfl) (fun o ho w hSw => by cases ho; (try dsimp only at hSw); (try go_split_ands); go_simp; (try with_reducible rfl)) hHeld ?_
        try simp only [Act.put, List.setIfInBounds_toArray, List.set_cons_zero, List.set_cons_succ]
        refine take_in (i := 7) _ (some 26) (by kernel_rfl) (by kernel_rfl) (by kernel_rfl) (by kernel_rfl) (fun _ _ _ h => h) (by rfl) (fun o ho w hSw => by cases ho; (try dsimp only at hSw); (try go_split_ands); go_simp; (try with_reducible rfl)) hHeld ?_
        try simp only [Act.put, List.setIfInBounds_toArray, List.set_cons_zero, List.set_cons_succ]
        refine take_in (i := 8) _ (some 27) (by kernel_rfl) (by kernel_rfl) (by kernel_rfl) (by kernel_rfl) (fun _ _ _ h => h) (by rfl) (fun o ho w hSw => by cases ho; (try dsimp only at hSw); (try go_split_ands); go_simp; (try with_reducible rfl)) hHeld ?_
        try simp only [Act.put, List.setIfInBounds_toArray, List.set_cons_zero, List.set_cons_succ]
        refine take_in (i := 9) _ (some 28) (by kernel_rfl) (by kernel_rfl) (by kernel_rfl) (by kernel_rfl) (fun _ _ _ h => h) (by rfl) (fun o ho w hSw => by cases ho; (try dsimp only at hSw); (try go_split_ands); go_simp; (try with_reducible rfl)) hHeld ?_
        try simp only [Act.put, List.setIfInBounds_toArray, List.set_cons_zero, List.set_cons_succ]
        refine take_in (i := 10) _ (some 29) (by kernel_rfl) (by kernel_rfl) (by kernel_rfl) (by kernel_rfl) (fun _ _ _ h => h) (by rfl) (fun o ho w hSw => by cases ho; (try dsimp only at hSw); (try go_split_ands); go_simp; (try with_reducible rfl)) hHeld ?_
        try simp only [Act.put, List.setIfInBounds_toArray, List.set_cons_zero, List.set_cons_succ]
        refine take_in (i := 11) _ (some 30) (by kernel_rfl) (by kernel_rfl) (by kernel_rfl) (by kernel_rfl) (fun _ _ _ h => h) (by rfl) (fun o ho w hSw => by cases ho; (try dsimp only at hSw); (try go_split_ands); go_simp; (try with_reducible rfl)) hHeld ?_
        try simp only [Act.put, List.setIfInBounds_toArray, List.set_cons_zero, List.set_cons_succ]
        refine wpAnyH_ready (rs := [12]) (by kernel_rfl) (by simp) ?_
        refine AllReadyH.cons (o := _) rfl (fun K hK => ?_) AllReadyH.nil
        go_simp
        go_at_call 85
        with_reducible refine HQ.out.mono ?_
        rintro e wX ⟨rfl, hbX⟩
        have ZF := Lib.hid (VF.out.keep hbX)
        have ZX := Lib.hid (VX.out.keep hbX)
        have ZB := Lib.hid (below3 VB.out hbX)
        have HS2 := Lib.hid (And.intro (And.intro ((hbX.cell (p := ⟨b, _, none⟩) hbD).trans HS1.out.1.1) ((hbX.cell (p := ⟨b, _, none⟩) hbD).trans HS1.out.1.2)) (And.intro (ZX.out.cell 0) (And.intro (ZX.out.cell 1) (ZF.out.cell 0))))
        clear hbX
        refine hK.out _ _ HS2.out (fun hHeld => ?_)
        clear hK K
        try simp only [Act.put, List.setIfInBounds_toArray, List.set_cons_zero, List.set_cons_succ]
        refine take_in (i := 13) _ (some 32) (by kernel_rfl) (by kernel_rfl) (by kernel_rfl) (by kernel_rfl) (fun _ _ _ h => h) (by rfl) (fun o ho w hSw => by cases ho; (try dsimp only at hSw); (try go_split_ands); go_simp; (try with_reducible rfl)) hHeld ?_
        try simp only [Act.put, List.setIfInBounds_toArray, List.set_cons_zero, List.set_cons_succ]
        refine take_in (i := 14) _ (some 33) (by kernel_rfl) (by kernel_rfl) (by kernel_rfl) (by kernel_rfl) (fun _ _ _ h => h) (by rfl) (fun o ho w hSw => by cases ho; (try dsimp only at hSw); (try go_split_ands); go_simp; (try with_reducible rfl)) hHeld ?_
        try simp only [Act.put, List.setIfInBounds_toArray, List.set_cons_zero, List.set_cons_succ]
        refine take_in (i := 15) _ (some 18) (by kernel_rfl) (by kernel_rfl) (by kernel_rfl) (by kernel_rfl) (fun _ _ _ h => h) (by rfl) (fun o ho w hSw => by cases ho; (try dsimp only at hSw); (try go_split_ands); go_simp; (try with_reducible rfl)) hHeld ?_
        try simp only [Act.put, List.setIfInBounds_toArray, List.set_cons_zero, List.set_cons_succ]
        refine wpAnyH_done (by kernel_rfl) ?_ _
        refine NoPanic.normal ?_
        clear HQ HS1 HS2 VF VX VB
        go_wp2
        go_ret
        exact ⟨ret_int HE.out.symm, ZB.out⟩
      have HO3 : Hid (rowErr gn es k = if xv < 0 ∨ (gn : Int) ≤ xv then 5 else 0) := by
        show _ = _
        rw [HO2.out, if_neg (by omega)]
      have dq : decide (0 ≤ q) = false := decide_eq_false hq
      have dq' : decide (q ≥ 0) = false := decide_eq_false hq
      clear hq
      refine wp_region_noPanic ?_
      refine wp_region_held_drew (S := fun V => (V.cell? ⟨b, o + (k - 1) * 3, none⟩ = some (.int .u32 ya) ∧ V.cell? ⟨b, o + (k - 1) * 3 + 1, none⟩ = some (.int .i64 yl)) ∧ V.cell? ⟨wr.heap.size, 0, none⟩ = some (.int .u32 xa) ∧ V.cell? ⟨wr.heap.size, 1, none⟩ = some (.int .i64 xl) ∧ V.cell? ⟨w.heap.size, 0, none⟩ = some (.slice (some ⟨b, o, none⟩) tn tc)) (by kernel_rfl) (by rw [hwD]; exact HS1.out) (fun hHeld => ?_)
      rw [hwD] at *
      refine take_in (i := 0) _ (some 19) (by kernel_rfl) (by kernel_rfl) (by kernel_rfl) (by kernel_rfl) (fun _ _ _ h => h) (by rfl) (fun o ho w hSw => by cases ho; (try dsimp only at hSw); (try go_split_ands); go_simp; (try with_reducible rfl)) hHeld ?_
      try simp only [Act.put, List.setIfInBounds_toArray, List.set_cons_zero, List.set_cons_succ]
      refine take_in (i := 1) _ (some 20) (by kernel_rfl) (by kernel_rfl) (by kernel_rfl) (by kernel_rfl) (fun _ _ _ h => h) (by rfl) (fun o ho w hSw => by cases ho; (try dsimp only at hSw); (try go_split_ands); go_simp; (try with_reducible rfl)) hHeld ?_
      try simp only [Act.put, List.setIfInBounds_toArray, List.set_cons_zero, List.set_cons_succ]
      refine take_in (i := 2) _ (some 21) (by kernel_rfl) (by kernel_rfl) (by kernel_rfl) (by kernel_rfl) (fun _ _ _ h => h) (by rfl) (fun o ho w hSw => by cases ho; (try dsimp only at hSw); (try go_split_ands); go_simp; (try with_reducible rfl)) hHeld ?_
      try simp only [Act.put, List.setIfInBounds_toArray, List.set_cons_zero, List.set_cons_succ]
      refine take_in (i := 3) _ (some 22) (by kernel_rfl) (by kernel_rfl) (by kernel_rfl) (by kernel_rfl) (fun _ _ _ h => h) (by rfl) (fun o ho w hSw => by cases ho; (try dsimp only at hSw); (try go_split_ands); go_simp; (try with_reducible rfl)) hHeld ?_
      try simp only [Act.put, List.setIfInBounds_toArray, List.set_cons_zero, List.set_cons_succ]
      refine take_in (i := 4) _ (some 23) (by kernel_rfl) (by kernel_rfl) (by kernel_rfl) (by kernel_rfl) (fun _ _ _ h => h) (by rfl) (fun o ho w hSw => by cases ho; (try dsimp only at hSw); (try go_split_ands); go_simp; (try with_reducible rfl)) hHeld ?_
      try simp only [Act.put, List.setIfInBounds_toArray, List.set_cons_zero, List.set_cons_succ]
      refine take_in (i := 5) _ (some 24) (by kernel_rfl) (by kernel_rfl) (by kernel_rfl) (by kernel_rfl) (fun _ _ _ h => h) (by rfl) (fun o ho w hSw => by cases ho; (try dsimp only at hSw); (try go_split_ands); go_simp; (try with_reducible rfl)) hHeld ?_
      try simp only [Act.put, List.setIfInBounds_toArray, List.set_cons_zero, List.set_cons_succ]
      refine take_in (i := 6) _ (some 25) (by kernel_rfl) (by kernel_rfl) (by kernel_rfl) (by kernel_rfl) (fun _ _ _ h => h) (by rfl) (fun o ho w hSw => by cases ho; (try dsimp only at hSw); (try go_split_ands); go_simp; (try with_reducible rfl)) hHeld ?_
      try simp only [Act.put, List.setIfInBounds_toArray, List.set_cons_zero, List.set_cons_succ]
      refine take_in (i := 7) _ (some 26) (by kernel_rfl) (by kernel_rfl) (by kernel_rfl) (by kernel_rfl) (fun _ _ _ h => h) (by rfl) (fun o ho w hSw => by cases ho; (try dsimp only at hSw); (try go_split_ands); go_simp; (try with_reducible rfl)) hHeld ?_
      try simp only [Act.put, List.setIfInBounds_toArray, List.set_cons_zero, List.set_cons_succ]
      refine take_in (i := 8) _ (some 27) (by kernel_rfl) (by kernel_rfl) (by kernel_rfl) (by kernel_rfl) (fun _ _ _ h => h) (by rfl) (fun o ho w hSw => by cases ho; (try dsimp only at hSw); (try go_split_ands); go_simp; (try with_reducible rfl)) hHeld ?_
      try simp only [Act.put, List.setIfInBounds_toArray, List.set_cons_zero, List.set_cons_succ]
      refine take_in (i := 9) _ (some 28) (by kernel_rfl) (by kernel_rfl) (by kernel_rfl) (by kernel_rfl) (fun _ _ _ h => h) (by rfl) (fun o ho w hSw => by cases ho; (try dsimp only at hSw); (try go_split_ands); go_simp; (try with_reducible rfl)) hHeld ?_
      try simp only [Act.put, List.setIfInBounds_toArray, List.set_cons_zero, List.set_cons_succ]
      refine take_in (i := 10) _ (some 29) (by kernel_rfl) (by kernel_rfl) (by kernel_rfl) (by kernel_rfl) (fun _ _ _ h => h) (by rfl) (fun o ho w hSw => by cases ho; (try dsimp only at hSw); (try go_split_ands); go_simp; (try with_reducible rfl)) hHeld ?_
      try simp only [Act.put, List.setIfInBounds_toArray, List.set_cons_zero, List.set_cons_succ]
      refine take_in (i := 11) _ (some 30) (by kernel_rfl) (by kernel_rfl) (by kernel_rfl) (by kernel_rfl) (fun _ _ _ h => h) (by rfl) (fun o ho w hSw => by cases ho; (try dsimp only at hSw); (try go_split_ands); go_simp; (try with_reducible rfl)) hHeld ?_
      try simp only [Act.put, List.setIfInBounds_toArray, List.set_cons_zero, List.set_cons_succ]
      refine wpAnyH_ready (rs := [12]) (by kernel_rfl) (by simp) ?_
      refine AllReadyH.cons (o := _) rfl (fun K hK => ?_) AllReadyH.nil
      go_simp
      go_at_call 85
      with_reducible refine HQ.out.mono ?_
      rintro e wX ⟨rfl, hbX⟩
      have ZF := Lib.hid (VF.out.keep hbX)
      have ZX := Lib.hid (VX.out.keep hbX)
      have ZB := Lib.hid (below3 VB.out hbX)
      have HS2 := Lib.hid (And.intro (And.intro ((hbX.cell (p := ⟨b, _, none⟩) hbD).trans HS1.out.1.1) ((hbX.cell (p := ⟨b, _, none⟩) hbD).trans HS1.out.1.2)) (And.intro (ZX.out.cell 0) (And.intro (ZX.out.cell 1) (ZF.out.cell 0))))
      clear hbX
      refine hK.out _ _ HS2.out (fun hHeld => ?_)
      clear hK K
      try simp only [Act.put, List.setIfInBounds_toArray, List.set_cons_zero, List.set_cons_succ]
      refine take_in (i := 13) _ (some 32) (by kernel_rfl) (by kernel_rfl) (by kernel_rfl) (by kernel_rfl) (fun _ _ _ h => h) (by rfl) (fun o ho w hSw => by cases ho; (try dsimp only at hSw); (try go_split_ands); go_simp; (try with_reducible rfl)) hHeld ?_
      try simp only [Act.put, List.setIfInBounds_toArray, List.set_cons_zero, List.set_cons_succ]
      refine take_in (i := 14) _ (some 33) (by kernel_rfl) (by kernel_rfl) (by kernel_rfl) (by kernel_rfl) (fun _ _ _ h => h) (by rfl) (fun o ho w hSw => by cases ho; (try dsimp only at hSw); (try go_split_ands); go_simp; (try with_reducible rfl)) hHeld ?_
      try simp only [Act.put, List.setIfInBounds_toArray, List.set_cons_zero, List.set_cons_succ]
      refine take_in (i := 15) _ (some 18) (by kernel_rfl) (by kernel_rfl) (by kernel_rfl) (by kernel_rfl) (fun _ _ _ h => h) (by rfl) (fun o ho w hSw => by cases ho; (try dsimp only at hSw); (try go_split_ands); go_simp; (try with_reducible rfl)) hHeld ?_
      try simp only [Act.put, List.setIfInBounds_toArray, List.set_cons_zero, List.set_cons_succ]
      refine wpAnyH_done (by kernel_rfl) ?_ _
      refine NoPanic.normal ?_
      clear HQ HS1 HS2 VF VX VB
      have g2 := ZX.out.cell 2
      have f1 := ZF.out.cell 1
      simp only [List.getElem?_cons_zero, List.getElem?_cons_succ] at g2 f1
      have g2l := ZX.out.lt
      have f1l := ZF.out.lt
      by_cases hv : xv < 0 ∨ (gn : Int) ≤ xv
      · have HE : Hid (rowsErr gn es = 5) := HAT.out 5 (by rw [HO3.out, if_pos hv]) (by omega)
        by_cases hv0 : xv < 0
        · have dv : decide (xv < 0) = true := decide_eq_true hv0
          clear hv hv0
          go_wp2
          go_ret
          exact ⟨ret_int HE.out.symm, ZB.out⟩
        · have dv : decide (xv < 0) = false := decide_eq_false hv0
          have dg : decide (xv ≥ (gn : Int)) = true := decide_eq_true (by omega)
          clear hv hv0
          go_wp2
          go_ret
          exact ⟨ret_int HE.out.symm, ZB.out⟩
      · have HN := Lib.hid (HST.out (by rw [HO3.out, if_neg hv]))
        have dv : decide (xv < 0) = false := decide_eq_false (by omega)
        have dg : decide (xv ≥ (gn : Int)) = false := decide_eq_false (by omega)
        clear hv
        go_wp2
        go_roundw
        case rel => exact ⟨k + 1, by omega, by go_num, HN, ZF, ZB⟩
        case measure => simp [intOf]; omega
end Go.Proofs.YtplppbgkkfjknaaGreatDoor
namespace Go.Proofs.YtplppbgkkfjknaaGreatDoor
open Go.RowKit

set_option linter.unusedVariables false
set_option linter.unusedSimpArgs false
/-- a neighbor -/
structure NH where
  iface : Int
  addr : Int
  router : Int
def NH.vals (h : NH) : List Value := [.int .i64 h.iface, .int .u32 h.addr, .int .u32 h.router]
theorem NH.vals_len (h : NH) : h.vals.length = 3 := rfl
def Nears (w : World) (B : Nat) (A : Option Addr) (n c : Nat) (hs : List NH) : Prop := Recs w B 3 A n c NH.vals hs
theorem Nears.get {w : World} {B n c : Nat} {A : Option Addr} {hs : List NH} (h : Nears w B A n c hs) {j : Nat} (hj : j < n) :
    ∃ b o x, A = some ⟨b, o, none⟩ ∧ b < B ∧ hs[j]? = some x ∧ w.cell? ⟨b, o + j * 3, none⟩ = some (.int .i64 x.iface) ∧ w.cell? ⟨b, o + j * 3 + 1, none⟩ = some (.int .u32 x.addr) ∧ w.cell? ⟨b, o + j * 3 + 2, none⟩ = some (.int .u32 x.router) := by
  obtain ⟨b, o, e, hA, hb, he, hc⟩ := Recs.get NH.vals_len h hj
  exact ⟨b, o, e, hA, hb, he, hc 0 (by omega), hc 1 (by omega), hc 2 (by omega)⟩
/-- a group of a table -/
structure GE where
  act : Int
  A : Option Addr
  n : Nat
  c : Nat
  ps : List PV
def GE.vals (g : GE) : List Value := [.int .i64 g.act, .slice g.A g.n g.c]
theorem GE.vals_len (g : GE) : g.vals.length = 2 := rfl
def Grps (w : World) (B : Nat) (A : Option Addr) (n c : Nat) (gs : List GE) : Prop := Recs w B 2 A n c GE.vals gs ∧ ∀ g ∈ gs, Paths w B g.A g.n g.c g.ps
theorem Grps.below {w w' : World} {B n c : Nat} {A : Option Addr} {gs : List GE} (h : Grps w B A n c gs) (hb : Below B w w') : Grps w' B A n c gs := ⟨h.1.below hb, fun g hg => (h.2 g hg).below hb⟩
theorem Grps.get {w : World} {B n c : Nat} {A : Option Addr} {gs : List GE} (h : Grps w B A n c gs) {j : Nat} (hj : j < n) :
    ∃ b o x, A = some ⟨b, o, none⟩ ∧ b < B ∧ gs[j]? = some x ∧ Paths w B x.A x.n x.c x.ps ∧ w.cell? ⟨b, o + j * 2, none⟩ = some (.int .i64 x.act) ∧ w.cell? ⟨b, o + j * 2 + 1, none⟩ = some (.slice x.A x.n x.c) := by
  obtain ⟨b, o, e, hA, hb, he, hc⟩ := h.1.get GE.vals_len hj
  exact ⟨b, o, e, hA, hb, he, h.2 e (List.mem_of_getElem? he), hc 0 (by omega), hc 1 (by omega)⟩
def gAt (gs : List GE) (i : Nat) : GE := (gs[i]?).getD ⟨0, none, 0, 0, []⟩
def nAt (hs : List NH) (i : Nat) : NH := (hs[i]?).getD ⟨0, 0, 0⟩
theorem g_of {gs : List GE} {k : Nat} {x : GE} (h : gs[k]? = some x) : gAt gs k = x := by unfold gAt; rw [h]; rfl
theorem n_of {hs : List NH} {k : Nat} {x : NH} (h : hs[k]? = some x) : nAt hs k = x := by unfold nAt; rw [h]; rfl
def geErr (g : GE) : Int := gErr g.act g.n g.ps
def bfH (a b : NH) : Bool := decide (a.router < b.router ∨ (a.router = b.router ∧ a.iface < b.iface))
def locErr (xs : List Int) (i : Nat) : Int := if 0 < i ∧ xs.getD i 0 ≤ xs.getD (i - 1) 0 then 16 else 0
def nearErr (hs : List NH) (i : Nat) : Int := if 0 < i ∧ bfH (nAt hs (i - 1)) (nAt hs i) = false then 16 else 0
def orE (a b : Int) : Int := if a = 0 then b else a
/-- the error of a forwarding table -/
def fibErr (es : List Ent) (gs : List GE) (ls : List Int) (bs : List EV) (ns : List NH) : Int :=
  orE (rowsErr gs.length es) (orE (firstE (fun i => geErr (gAt gs i)) gs.length) (orE (firstE (locErr ls) ls.length) (orE (tabErr bs) (firstE (nearErr ns) ns.length))))
set_option maxHeartbeats 1000000 in
theorem before_any (a b c x y z : Int) (w : World) : Calls Tryz.prog 95 #[.agg #[.int .i64 a, .int .u32 b, .int .u32 c], .agg #[.int .i64 x, .int .u32 y, .int .u32 z]] w fun e w' => e = .returned (.bool (bfH ⟨a, b, c⟩ ⟨x, y, z⟩)) ∧ Below w.heap.size w w' := by
  obtain ⟨q, hq⟩ : ∃ q, bfH ⟨a, b, c⟩ ⟨x, y, z⟩ = q := ⟨_, rfl⟩
  rw [hq]
  have HQ := Lib.hid hq
  clear hq
  go_enter Tryz.func95, Tryz.ntmps95
  go_wp2
  all_goals
    go_ret
    refine ⟨?_, below3 (belowA _ _) (belowA _ _)⟩
    rw [← HQ.out]
    unfold bfH
    simp_all
end Go.Proofs.YtplppbgkkfjknaaGreatDoor
