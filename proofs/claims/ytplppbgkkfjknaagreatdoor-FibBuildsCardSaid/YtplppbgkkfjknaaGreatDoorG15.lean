/- routed: the check of the routes. -/
import Derived.Test.YtplppbgkkfjknaaGreatDoorG14
namespace Go.Proofs.YtplppbgkkfjknaaGreatDoor
open Go.RowKit

set_option linter.unusedVariables false
set_option linter.unusedSimpArgs false
theorem idxQ_any {α : Type} {P : α → Bool} : ∀ l : List α, decide (idxQ P l ≥ 0) = l.any P
  | [] => by simp [idxQ]
  | s :: r => by
    have h := idxQ_any (P := P) r
    rw [idxQ, List.any_cons]
    by_cases h1 : P s = true
    · rw [if_pos h1, h1]; rfl
    · rw [if_neg h1, ← h]
      have h2 : P s = false := by simpa using h1
      rw [h2, Bool.false_or]
      by_cases h3 : idxQ P r < 0
      · rw [if_pos h3, decide_eq_false (by omega), decide_eq_false (by omega)]
      · rw [if_neg h3, decide_eq_true (by omega), decide_eq_true (by omega)]
def badH (x : XH) : Bool := decide (x.iface < 0)
set_option maxHeartbeats 1000000 in
theorem badH_any (x : XH) (w : World) : Calls Tryz.prog 87 #[.agg #[.int .u32 x.addr, .int .i64 x.iface, .int .u32 x.router, .int .i64 x.weight, .int .u32 x.va, .int .i64 x.vl]] w fun e w' => e = .returned (.bool (badH x)) ∧ Below w.heap.size w w' := by
  obtain ⟨a, b, c, d, e, f⟩ := x
  obtain ⟨q, hq⟩ : ∃ q, badH ⟨a, b, c, d, e, f⟩ = q := ⟨_, rfl⟩
  have HQ : Hid (decide (b < 0) = q) := hq
  rw [hq]
  clear hq
  dsimp only
  go_enter Tryz.func87, Tryz.ntmps87
  go_wp2
  go_ret
  exact ⟨by rw [← HQ.out]; rfl, belowA _ _⟩
set_option maxHeartbeats 1000000 in
theorem anyBad_any (A : Option Addr) (n c B : Nat) (p : List XH) (w : World) (hx : XHops w B A n c p) (hB : B ≤ w.heap.size) (hn : n ≤ 140737488355328) :
    Calls Tryz.prog 86 #[.slice A n c, .func (.func 87) #[] #[]] w fun e w' => e = .returned (.bool (p.any badH)) ∧ Below w.heap.size w w' := by
  have HC := Lib.hid (idxHop_any badH 0 A n c B p w hx hB hn fun x W _ => badH_any x W)
  have HQ := Lib.hid (idxQ_any (P := badH) p)
  obtain ⟨i, hi⟩ : ∃ i, idxQ badH p = i := ⟨_, rfl⟩
  rw [hi] at HC HQ
  clear hx hi
  go_enter Tryz.func86, Tryz.ntmps86
  go_wp2_with fail
  refine HC.out.mono ?_
  rintro e w2 ⟨rfl, hb⟩
  go_wp2
  go_ret
  exact ⟨by rw [← HQ.out]; rfl, hb⟩
def rtAtQ (rs : List RT) (i : Nat) : RT := (rs[i]?).getD ⟨0, 0, 0, 0, 0, 0, none, 0, 0, []⟩
theorem rou_of {rs : List RT} {k : Nat} {x : RT} (h : rs[k]? = some x) : rtAtQ rs k = x := by unfold rtAtQ; rw [h]; rfl
def cmpR (x y : RT) : Int := cmpP x.a x.l y.a y.l
def rouErr (rs : List RT) (i : Nat) : Int := if validP (rtAtQ rs i).a (rtAtQ rs i).l = false then 1 else if 0 < i ∧ 0 ≤ cmpR (rtAtQ rs (i - 1)) (rtAtQ rs i) then 16 else if (rtAtQ rs i).hs.any badH = true then 11 else 0
/-- the error of the routes -/
def routesErr (rs : List RT) : Int := firstE (rouErr rs) rs.length
def RouI (w : World) (n : Nat) (es : List RT) (iv : Value) (W : World) : Prop :=
  ∃ k : Nat, k ≤ n ∧ iv = .int .i64 k ∧ Hid (firstE (rouErr es) k = 0) ∧ Hid (Below w.heap.size w W)
set_option maxRecDepth 100000 in
set_option maxHeartbeats 4000000 in
theorem routed_any (tA : Option Addr) (tn tc B : Nat) (es : List RT) (w : World) (hx : Rts w B tA tn tc es) (hB : B ≤ w.heap.size) (hn : tn ≤ 140737488355328) :
    Calls Tryz.prog 53 #[.slice tA tn tc] w fun e w' => e = .returned (.int .i64 (routesErr es)) ∧ Below w.heap.size w w' := by
  have HX := Lib.hid hx
  have HL : Hid (es.length = tn) := hx.1.2
  have HI0 : Hid (RouI w tn es (.int .i64 (0 : Nat)) w) := ⟨0, Nat.zero_le _, rfl, Lib.hid rfl, Lib.hid (Below.refl _ _)⟩
  clear hx
  go_enter Tryz.func53, Tryz.ntmps53
  go_wp2
  go_loopw [7] (fun iv wr => RouI w tn es iv wr) (fun iv _ => tn - (intOf iv).toNat)
  case atStart => exact HI0.out
  case round =>
    obtain ⟨k, hk, rfl, h0, hB2⟩ := hrel
    clear HI0
    by_cases hlt : k < tn
    case neg =>
      obtain rfl : k = tn := by omega
      have HE : Hid (routesErr es = 0) := by show _ = _; unfold routesErr; rw [HL.out]; exact h0.out
      go_wp2
      go_ret
      exact ⟨ret_int HE.out.symm, hB2.out⟩
    have HX2 : Hid (Rts wr B tA tn tc es) := HX.out.below (hB2.out.mono hB)
    obtain ⟨b, o, x, rfl, hbB, hxk, ⟨hxa, hxn, hxh⟩, c0, c1, c2, c3, c4, c5, c6⟩ := HX2.out.get hlt
    have hax := rou_of hxk
    have HO : Hid (rouErr es k = if validP x.a x.l = false then 1 else if 0 < k ∧ 0 ≤ cmpR (rtAtQ es (k - 1)) x then 16 else if x.hs.any badH = true then 11 else 0) := by
      show _ = _
      unfold rouErr
      rw [hax]
    have HAT : Hid (∀ v : Int, rouErr es k = v → v ≠ 0 → routesErr es = v) := fun v hv hne => by
      unfold routesErr
      rw [HL.out, firstE_at h0.out (by rw [hv]; exact hne) hlt, hv]
    have HST : Hid (rouErr es k = 0 → firstE (rouErr es) (k + 1) = 0) := fun hv => firstE_step h0.out hv
    have hbw : b < wr.heap.size := by have := hB2.out.size; omega
    obtain ⟨xa, xl, xp, xd, xm, xt, xA, xn, xc, xh⟩ := x
    dsimp only at hxa hxn hxh c0 c1 c2 c3 c4 c5 c6 HO
    obtain ⟨wa, hwa⟩ : ∃ wa, wr.alloc (.cells #[.int .u32 xa, .int .i64 xl, .int .i64 xp, .int .i64 xd, .int .i64 xm, .int .i64 xt, .slice xA xn xc] 68) = wa := ⟨_, rfl⟩
    have HXB : Hid (Blk wa wr.heap.size 68 [.int .u32 xa, .int .i64 xl, .int .i64 xp, .int .i64 xd, .int .i64 xm, .int .i64 xt, .slice xA xn xc]) := by show Blk _ _ _ _; rw [← hwa]; exact Blk.new wr _ _
    have HBA : Hid (Below wr.heap.size wr wa) := by show Below _ _ _; rw [← hwa]; exact belowA _ _
    have e0 := HXB.out.cell 0
    have e1 := HXB.out.cell 1
    simp only [List.getElem?_cons_zero, List.getElem?_cons_succ] at e0 e1
    have hlta : wr.heap.size < wa.heap.size := HXB.out.lt
    have HXH : Hid (∀ W, Below w.heap.size wr W → XHops W B xA xn xc xh) := fun W h => Recs.below hxh (h.mono hB)
    clear hxh
    have HV := Lib.hid (valid_any xa xl wa hxa)
    obtain ⟨vb, hvb⟩ : ∃ vb, validP xa xl = vb := ⟨_, rfl⟩
    rw [hvb] at HV HO
    clear hax hvb
    go_wp2_with fail
    refine HV.out.mono ?_
    rintro e w2 ⟨rfl, hb2⟩
    clear HV hwa e0 e1
    have HB3 := Lib.hid (below3 HBA.out hb2)
    have HB4 := Lib.hid (below3 hB2.out HB3.out)
    have HXB2 := Lib.hid (HXB.out.keep hb2)
    have hszb := hb2.size
    clear hb2 HBA HXB
    cases vb
    case false =>
      have HE : Hid (routesErr es = 1) := HAT.out 1 (by rw [HO.out, if_pos rfl]) (by omega)
      go_wp2
      go_ret
      exact ⟨ret_int HE.out.symm, HB4.out⟩
    have HO2 : Hid (rouErr es k = if 0 < k ∧ 0 ≤ cmpR (rtAtQ es (k - 1)) ⟨xa, xl, xp, xd, xm, xt, xA, xn, xc, xh⟩ then 16 else if xh.any badH = true then 11 else 0) := by
      show _ = _
      rw [HO.out, if_neg (by simp)]
    clear HO
    go_upto_region 6 with fail
    obtain ⟨wD, hwD⟩ : ∃ wD, w2.drew = wD := ⟨_, rfl⟩
    have HBD : Hid (Below w2.heap.size w2 wD) := by show Below _ _ _; rw [← hwD]; exact (Below.refl _ _).drew
    have VX := Lib.hid (HXB2.out.keep HBD.out)
    have VB := Lib.hid (below3 HB4.out HBD.out)
    clear HXB2 HB4
    rcases Nat.eq_zero_or_pos k with hk0 | hk0
    · have HK0 := Lib.hid hk0
      have dk : decide ((0 : Int) < (k : Int)) = false := decide_eq_false (by omega)
      have dk' : decide (0 < k) = false := decide_eq_false (by omega)
      clear hk0
      have HO3 : Hid (rouErr es k = if xh.any badH = true then 11 else 0) := by
        show _ = _
        rw [HO2.out, if_neg (by have := HK0.out; omega)]
      refine wp_region_noPanic ?_
      refine wp_region_held_drew (S := fun V => True) (by kernel_rfl) trivial (fun hHeld => ?_)
      rw [hwD] at *
      refine take_in (i := 0) _ (some 18) (by kernel_rfl) (by kernel_rfl) (by kernel_rfl) (by kernel_rfl) (fun _ _ _ h => h) (by rfl) (fun o ho w hSw => by cases ho; (try dsimp only at hSw); (try go_split_ands); go_simp; (try with_reducible rfl)) hHeld ?_
      try simp only [Act.put, List.setIfInBounds_toArray, List.set_cons_zero, List.set_cons_succ]
      refine take_in (i := 1) _ (some 19) (by kernel_rfl) (by kernel_rfl) (by kernel_rfl) (by kernel_rfl) (fun _ _ _ h => h) (by rfl) (fun o ho w hSw => by cases ho; (try dsimp only at hSw); (try go_split_ands); go_simp; (try with_reducible rfl)) hHeld ?_
      try simp only [Act.put, List.setIfInBounds_toArray, List.set_cons_zero, List.set_cons_succ]
      refine take_in (i := 2) _ (some 20) (by kernel_rfl) (by kernel_rfl) (by kernel_rfl) (by kernel_rfl) (fun _ _ _ h => h) (by rfl) (fun o ho w hSw => by cases ho; (try dsimp only at hSw); (try go_split_ands); go_simp; (try with_reducible rfl)) hHeld ?_
      try simp only [Act.put, List.setIfInBounds_toArray, List.set_cons_zero, List.set_cons_succ]
      refine take_un (i := 3) (some 21) (by kernel_rfl) (by kernel_rfl) (by kernel_rfl) (by kernel_rfl) (fun _ _ _ h => h) (by rfl) hHeld ?_
      try simp only [Act.put, List.setIfInBounds_toArray, List.set_cons_zero, List.set_cons_succ]
      refine take_un (i := 4) (some 22) (by kernel_rfl) (by kernel_rfl) (by kernel_rfl) (by kernel_rfl) (fun _ _ _ h => h) (by rfl) hHeld ?_
      try simp only [Act.put, List.setIfInBounds_toArray, List.set_cons_zero, List.set_cons_succ]
      refine take_un (i := 5) (some 23) (by kernel_rfl) (by kernel_rfl) (by kernel_rfl) (by kernel_rfl) (fun _ _ _ h => h) (by rfl) hHeld ?_
      try simp only [Act.put, List.setIfInBounds_toArray, List.set_cons_zero, List.set_cons_succ]
      refine take_un (i := 6) (some 24) (by kernel_rfl) (by kernel_rfl) (by kernel_rfl) (by kernel_rfl) (fun _ _ _ h => h) (by rfl) hHeld ?_
      try simp only [Act.put, List.setIfInBounds_toArray, List.set_cons_zero, List.set_cons_succ]
      refine take_un (i := 7) (some 25) (by kernel_rfl) (by kernel_rfl) (by kernel_rfl) (by kernel_rfl) (fun _ _ _ h => h) (by rfl) hHeld ?_
      try simp only [Act.put, List.setIfInBounds_toArray, List.set_cons_zero, List.set_cons_succ]
      refine take_un (i := 8) (some 26) (by kernel_rfl) (by kernel_rfl) (by kernel_rfl) (by kernel_rfl) (fun _ _ _ h => h) (by rfl) hHeld ?_
      try simp only [Act.put, List.setIfInBounds_toArray, List.set_cons_zero, List.set_cons_succ]
      refine take_un (i := 9) (some 27) (by kernel_rfl) (by kernel_rfl) (by kernel_rfl) (by kernel_rfl) (fun _ _ _ h => h) (by rfl) hHeld ?_
      try simp only [Act.put, List.setIfInBounds_toArray, List.set_cons_zero, List.set_cons_succ]
      refine take_un (i := 10) (some 28) (by kernel_rfl) (by kernel_rfl) (by kernel_rfl) (by kernel_rfl) (fun _ _ _ h => h) (by rfl) hHeld ?_
      try simp only [Act.put, List.setIfInBounds_toArray, List.set_cons_zero, List.set_cons_succ]
      refine take_un (i := 11) (some 29) (by kernel_rfl) (by kernel_rfl) (by kernel_rfl) (by kernel_rfl) (fun _ _ _ h => h) (by rfl) hHeld ?_
      try simp only [Act.put, List.setIfInBounds_toArray, List.set_cons_zero, List.set_cons_succ]
      refine take_un (i := 12) (some 30) (by kernel_rfl) (by kernel_rfl) (by kernel_rfl) (by kernel_rfl) (fun _ _ _ h => h) (by rfl) hHeld ?_
      try simp only [Act.put, List.setIfInBounds_toArray, List.set_cons_zero, List.set_cons_succ]
      refine take_in (i := 13) _ (some 31) (by kernel_rfl) (by kernel_rfl) (by kernel_rfl) (by kernel_rfl) (fun _ _ _ h => h) (by rfl) (fun o ho w hSw => by cases ho; (try dsimp only at hSw); (try go_split_ands); go_simp; (try with_reducible rfl)) hHeld ?_
      try simp only [Act.put, List.setIfInBounds_toArray, List.set_cons_zero, List.set_cons_succ]
      refine take_in (i := 14) _ (some 17) (by kernel_rfl) (by kernel_rfl) (by kernel_rfl) (by kernel_rfl) (fun _ _ _ h => h) (by rfl) (fun o ho w hSw => by cases ho; (try dsimp only at hSw); (try go_split_ands); go_simp; (try with_reducible rfl)) hHeld ?_
      try simp only [Act.put, List.setIfInBounds_toArray, List.set_cons_zero, List.set_cons_succ]
      refine wpAnyH_done (by kernel_rfl) ?_ _
      refine NoPanic.normal ?_
      have g6 := VX.out.cell 6
      simp only [List.getElem?_cons_zero, List.getElem?_cons_succ] at g6
      have g6l := VX.out.lt
      have HCB := Lib.hid (anyBad_any xA xn xc B xh wD (HXH.out _ ((below3 HB3.out HBD.out).mono (by have := hB2.out.size; omega))) (by have := hB2.out.size; have := (below3 HB3.out HBD.out).size; omega) hxn)
      obtain ⟨bd, hbd⟩ : ∃ bd, xh.any badH = bd := ⟨_, rfl⟩
      rw [hbd] at HCB HO3
      clear hbd
      go_wp2_with fail
      refine HCB.out.mono ?_
      rintro e w9 ⟨rfl, hb9⟩
      have HB9 := Lib.hid (below3 VB.out hb9)
      clear hb9 HCB
      cases bd
      case true =>
        have HE : Hid (routesErr es = 11) := HAT.out 11 (by rw [HO3.out, if_pos rfl]) (by omega)
        go_wp2
        go_ret
        exact ⟨ret_int HE.out.symm, HB9.out⟩
      case false =>
        have HN := Lib.hid (HST.out (by rw [HO3.out, if_neg (by simp)]))
        go_wp2
        go_roundw
        case rel => exact ⟨k + 1, by omega, by go_num, HN, HB9⟩
        case measure => simp [intOf]; omega
    · obtain ⟨b2, o2, y, hA2, _, hyk, hya, p0, p1, _⟩ := HX2.out.get (j := k - 1) (by omega)
      simp only [Option.some.injEq, Addr.mk.injEq] at hA2
      obtain ⟨rfl, rfl, _⟩ := hA2
      have hry := rou_of hyk
      obtain ⟨ya, yl, yp, yd, ym, yt, yA, yn, yc, yh⟩ := y
      dsimp only at p0 p1
      rw [hry] at HO2
      have dk : decide ((0 : Int) < (k : Int)) = true := decide_eq_true (by omega)
      have dk' : decide (0 < k) = true := decide_eq_true (by omega)
      have hk1 : k - 1 < tn := by omega
      have hws : IntKind.i64.wrap ((k : Int) - 1) = ((k - 1 : Nat) : Int) := by rw [IntWalk.i64_in _ (by omega)]; omega
      have HO2 : Hid (rouErr es k = if 0 < k ∧ 0 ≤ cmpP ya yl xa xl then 16 else if xh.any badH = true then 11 else 0) := HO2
      have HQ := Lib.hid (compare_any ya xa yl xl wD)
      obtain ⟨q, hq⟩ : ∃ q, cmpP ya yl xa xl = q := ⟨_, rfl⟩
      rw [hq] at HO2 HQ
      have hP : ∀ W, Below w2.heap.size w2 W → (W.cell? ⟨b, o + (k - 1) * 7, none⟩ = some (.int .u32 ya) ∧ W.cell? ⟨b, o + (k - 1) * 7 + 1, none⟩ = some (.int .i64 yl)) := by
        intro W hW
        have h := HB3.out.trans (hW.mono HB3.out.size)
        exact ⟨(h.cell (p := ⟨b, _, none⟩) hbw).trans p0, (h.cell (p := ⟨b, _, none⟩) hbw).trans p1⟩
      have HS1 : Hid ((wD.cell? ⟨b, o + (k - 1) * 7, none⟩ = some (.int .u32 ya) ∧ wD.cell? ⟨b, o + (k - 1) * 7 + 1, none⟩ = some (.int .i64 yl)) ∧ wD.cell? ⟨wr.heap.size, 0, none⟩ = some (.int .u32 xa) ∧ wD.cell? ⟨wr.heap.size, 1, none⟩ = some (.int .i64 xl)) := ⟨hP _ HBD.out, VX.out.cell 0, VX.out.cell 1⟩
      have hbD : b < wD.heap.size := by have h1 := HB3.out.size; have h2 := HBD.out.size; omega
      clear hq hry hyk p0 p1 hP
      by_cases hq : 0 ≤ q
      case pos =>
        have HE : Hid (routesErr es = 16) := HAT.out 16 (by rw [HO2.out, if_pos ⟨hk0, hq⟩]) (by omega)
        have dq : decide (0 ≤ q) = true := decide_eq_true hq
        have dq' : decide (q ≥ 0) = true := decide_eq_true hq
        clear hq
        refine wp_region_noPanic ?_
        refine wp_region_held_drew (S := fun V => (V.cell? ⟨b, o + (k - 1) * 7, none⟩ = some (.int .u32 ya) ∧ V.cell? ⟨b, o + (k - 1) * 7 + 1, none⟩ = some (.int .i64 yl)) ∧ V.cell? ⟨wr.heap.size, 0, none⟩ = some (.int .u32 xa) ∧ V.cell? ⟨wr.heap.size, 1, none⟩ = some (.int .i64 xl)) (by kernel_rfl) (by rw [hwD]; exact HS1.out) (fun hHeld => ?_)
        rw [hwD] at *
        refine take_in (i := 0) _ (some 18) (by kernel_rfl) (by kernel_rfl) (by kernel_rfl) (by kernel_rfl) (fun _ _ _ h => h) (by rfl) (fun o ho w hSw => by cases ho; (try dsimp only at hSw); (try go_split_ands); go_simp; (try with_reducible rfl)) hHeld ?_
        try simp only [Act.put, List.setIfInBounds_toArray, List.set_cons_zero, List.set_cons_succ]
        refine take_in (i := 1) _ (some 19) (by kernel_rfl) (by kernel_rfl) (by kernel_rfl) (by kernel_rfl) (fun _ _ _ h => h) (by rfl) (fun o ho w hSw => by cases ho; (try dsimp only at hSw); (try go_split_ands); go_simp; (try with_reducible rfl)) hHeld ?_
        try simp only [Act.put, List.setIfInBounds_toArray, List.set_cons_zero, List.set_cons_succ]
        refine take_in (i := 2) _ (some 20) (by kernel_rfl) (by kernel_rfl) (by kernel_rfl) (by kernel_rfl) (fun _ _ _ h => h) (by rfl) (fun o ho w hSw => by cases ho; (try dsimp only at hSw); (try go_split_ands); go_simp; (try with_reducible rfl)) hHeld ?_
        try simp only [Act.put, List.setIfInBounds_toArray, List.set_cons_zero, List.set_cons_succ]
        refine take_in (i := 3) _ (some 21) (by kernel_rfl) (by kernel_rfl) (by kernel_rfl) (by kernel_rfl) (fun _ _ _ h => h) (by rfl) (fun o ho w hSw => by cases ho; (try dsimp only at hSw); (try go_split_ands); go_simp; (try with_reducible rfl)) hHeld ?_
        try simp only [Act.put, List.setIfInBounds_toArray, List.set_cons_zero, List.set_cons_succ]
        refine take_in (i := 4) _ (some 22) (by kernel_rfl) (by kernel_rfl) (by kernel_rfl) (by kernel_rfl) (fun _ _ _ h => h) (by rfl) (fun o ho w hSw => by cases ho; (try dsimp only at hSw); (try go_split_ands); go_simp; (try with_reducible rfl)) hHeld ?_
        try simp only [Act.put, List.setIfInBounds_toArray, List.set_cons_zero, List.set_cons_succ]
        refine take_in (i := 5) _ (some 23) (by kernel_rfl) (by kernel_rfl) (by kernel_rfl) (by kernel_rfl) (fun _ _ _ h => h) (by rfl) (fun o ho w hSw => by cases ho; (try dsimp only at hSw); (try go_split_ands); go_simp; (try with_reducible rfl)) hHeld ?_
        try simp only [Act.put, List.setIfInBounds_toArray, List.set_cons_zero, List.set_cons_succ]
        refine take_in (i := 6) _ (some 24) (by kernel_rfl) (by kernel_rfl) (by kernel_rfl) (by kernel_rfl) (fun _ _ _ h => h) (by rfl) (fun o ho w hSw => by cases ho; (try dsimp only at hSw); (try go_split_ands); go_simp; (try with_reducible rfl)) hHeld ?_
        try simp only [Act.put, List.setIfInBounds_toArray, List.set_cons_zero, List.set_cons_succ]
        refine take_in (i := 7) _ (some 25) (by kernel_rfl) (by kernel_rfl) (by kernel_rfl) (by kernel_rfl) (fun _ _ _ h => h) (by rfl) (fun o ho w hSw => by cases ho; (try dsimp only at hSw); (try go_split_ands); go_simp; (try with_reducible rfl)) hHeld ?_
        try simp only [Act.put, List.setIfInBounds_toArray, List.set_cons_zero, List.set_cons_succ]
        refine take_in (i := 8) _ (some 26) (by kernel_rfl) (by kernel_rfl) (by kernel_rfl) (by kernel_rfl) (fun _ _ _ h => h) (by rfl) (fun o ho w hSw => by cases ho; (try dsimp only at hSw); (try go_split_ands); go_simp; (try with_reducible rfl)) hHeld ?_
        try simp only [Act.put, List.setIfInBounds_toArray, List.set_cons_zero, List.set_cons_succ]
        refine take_in (i := 9) _ (some 27) (by kernel_rfl) (by kernel_rfl) (by kernel_rfl) (by kernel_rfl) (fun _ _ _ h => h) (by rfl) (fun o ho w hSw => by cases ho; (try dsimp only at hSw); (try go_split_ands); go_simp; (try with_reducible rfl)) hHeld ?_
        try simp only [Act.put, List.setIfInBounds_toArray, List.set_cons_zero, List.set_cons_succ]
        refine take_in (i := 10) _ (some 28) (by kernel_rfl) (by kernel_rfl) (by kernel_rfl) (by kernel_rfl) (fun _ _ _ h => h) (by rfl) (fun o ho w hSw => by cases ho; (try dsimp only at hSw); (try go_split_ands); go_simp; (try with_reducible rfl)) hHeld ?_
        try simp only [Act.put, List.setIfInBounds_toArray, List.set_cons_zero, List.set_cons_succ]
        refine wpAnyH_ready (rs := [11]) (by kernel_rfl) (by simp) ?_
        refine AllReadyH.cons (o := _) rfl (fun K hK => ?_) AllReadyH.nil
        go_simp
        go_at_call 85
        with_reducible refine HQ.out.mono ?_
        rintro e wX ⟨rfl, hbX⟩
        have HbX := Lib.hid hbX
        have ZX := Lib.hid (VX.out.keep hbX)
        have ZB := Lib.hid (below3 VB.out hbX)
        have HS2 := Lib.hid (And.intro (And.intro ((hbX.cell (p := ⟨b, _, none⟩) hbD).trans HS1.out.1.1) ((hbX.cell (p := ⟨b, _, none⟩) hbD).trans HS1.out.1.2)) (And.intro (ZX.out.cell 0) (ZX.out.cell 1)))
        clear hbX
        refine hK.out _ _ HS2.out (fun hHeld => ?_)
        clear hK K
        try simp only [Act.put, List.setIfInBounds_toArray, List.set_cons_zero, List.set_cons_succ]
        refine take_in (i := 12) _ (some 30) (by kernel_rfl) (by kernel_rfl) (by kernel_rfl) (by kernel_rfl) (fun _ _ _ h => h) (by rfl) (fun o ho w hSw => by cases ho; (try dsimp only at hSw); (try go_split_ands); go_simp; (try with_reducible rfl)) hHeld ?_
        try simp only [Act.put, List.setIfInBounds_toArray, List.set_cons_zero, List.set_cons_succ]
        refine take_in (i := 13) _ (some 31) (by kernel_rfl) (by kernel_rfl) (by kernel_rfl) (by kernel_rfl) (fun _ _ _ h => h) (by rfl) (fun o ho w hSw => by cases ho; (try dsimp only at hSw); (try go_split_ands); go_simp; (try with_reducible rfl)) hHeld ?_
        try simp only [Act.put, List.setIfInBounds_toArray, List.set_cons_zero, List.set_cons_succ]
        refine take_in (i := 14) _ (some 17) (by kernel_rfl) (by kernel_rfl) (by kernel_rfl) (by kernel_rfl) (fun _ _ _ h => h) (by rfl) (fun o ho w hSw => by cases ho; (try dsimp only at hSw); (try go_split_ands); go_simp; (try with_reducible rfl)) hHeld ?_
        try simp only [Act.put, List.setIfInBounds_toArray, List.set_cons_zero, List.set_cons_succ]
        refine wpAnyH_done (by kernel_rfl) ?_ _
        refine NoPanic.normal ?_
        clear HQ HS1 HS2 VX VB
        go_wp2
        go_ret
        exact ⟨ret_int HE.out.symm, ZB.out⟩
      have HO3 : Hid (rouErr es k = if xh.any badH = true then 11 else 0) := by
        show _ = _
        rw [HO2.out, if_neg (by omega)]
      have dq : decide (0 ≤ q) = false := decide_eq_false hq
      have dq' : decide (q ≥ 0) = false := decide_eq_false hq
      clear hq
      refine wp_region_noPanic ?_
      refine wp_region_held_drew (S := fun V => (V.cell? ⟨b, o + (k - 1) * 7, none⟩ = some (.int .u32 ya) ∧ V.cell? ⟨b, o + (k - 1) * 7 + 1, none⟩ = some (.int .i64 yl)) ∧ V.cell? ⟨wr.heap.size, 0, none⟩ = some (.int .u32 xa) ∧ V.cell? ⟨wr.heap.size, 1, none⟩ = some (.int .i64 xl)) (by kernel_rfl) (by rw [hwD]; exact HS1.out) (fun hHeld => ?_)
      rw [hwD] at *
      refine take_in (i := 0) _ (some 18) (by kernel_rfl) (by kernel_rfl) (by kernel_rfl) (by kernel_rfl) (fun _ _ _ h => h) (by rfl) (fun o ho w hSw => by cases ho; (try dsimp only at hSw); (try go_split_ands); go_simp; (try with_reducible rfl)) hHeld ?_
      try simp only [Act.put, List.setIfInBounds_toArray, List.set_cons_zero, List.set_cons_succ]
      refine take_in (i := 1) _ (some 19) (by kernel_rfl) (by kernel_rfl) (by kernel_rfl) (by kernel_rfl) (fun _ _ _ h => h) (by rfl) (fun o ho w hSw => by cases ho; (try dsimp only at hSw); (try go_split_ands); go_simp; (try with_reducible rfl)) hHeld ?_
      try simp only [Act.put, List.setIfInBounds_toArray, List.set_cons_zero, List.set_cons_succ]
      refine take_in (i := 2) _ (some 20) (by kernel_rfl) (by kernel_rfl) (by kernel_rfl) (by kernel_rfl) (fun _ _ _ h => h) (by rfl) (fun o ho w hSw => by cases ho; (try dsimp only at hSw); (try go_split_ands); go_simp; (try with_reducible rfl)) hHeld ?_
      try simp only [Act.put, List.setIfInBounds_toArray, List.set_cons_zero, List.set_cons_succ]
      refine take_in (i := 3) _ (some 21) (by kernel_rfl) (by kernel_rfl) (by kernel_rfl) (by kernel_rfl) (fun _ _ _ h => h) (by rfl) (fun o ho w hSw => by cases ho; (try dsimp only at hSw); (try go_split_ands); go_simp; (try with_reducible rfl)) hHeld ?_
      try simp only [Act.put, List.setIfInBounds_toArray, List.set_cons_zero, List.set_cons_succ]
      refine take_in (i := 4) _ (some 22) (by kernel_rfl) (by kernel_rfl) (by kernel_rfl) (by kernel_rfl) (fun _ _ _ h => h) (by rfl) (fun o ho w hSw => by cases ho; (try dsimp only at hSw); (try go_split_ands); go_simp; (try with_reducible rfl)) hHeld ?_
      try simp only [Act.put, List.setIfInBounds_toArray, List.set_cons_zero, List.set_cons_succ]
      refine take_in (i := 5) _ (some 23) (by kernel_rfl) (by kernel_rfl) (by kernel_rfl) (by kernel_rfl) (fun _ _ _ h => h) (by rfl) (fun o ho w hSw => by cases ho; (try dsimp only at hSw); (try go_split_ands); go_simp; (try with_reducible rfl)) hHeld ?_
      try simp only [Act.put, List.setIfInBounds_toArray, List.set_cons_zero, List.set_cons_succ]
      refine take_in (i := 6) _ (some 24) (by kernel_rfl) (by kernel_rfl) (by kernel_rfl) (by kernel_rfl) (fun _ _ _ h => h) (by rfl) (fun o ho w hSw => by cases ho; (try dsimp only at hSw); (try go_split_ands); go_simp; (try with_reducible rfl)) hHeld ?_
      try simp only [Act.put, List.setIfInBounds_toArray, List.set_cons_zero, List.set_cons_succ]
      refine take_in (i := 7) _ (some 25) (by kernel_rfl) (by kernel_rfl) (by kernel_rfl) (by kernel_rfl) (fun _ _ _ h => h) (by rfl) (fun o ho w hSw => by cases ho; (try dsimp only at hSw); (try go_split_ands); go_simp; (try with_reducible rfl)) hHeld ?_
      try simp only [Act.put, List.setIfInBounds_toArray, List.set_cons_zero, List.set_cons_succ]
      refine take_in (i := 8) _ (some 26) (by kernel_rfl) (by kernel_rfl) (by kernel_rfl) (by kernel_rfl) (fun _ _ _ h => h) (by rfl) (fun o ho w hSw => by cases ho; (try dsimp only at hSw); (try go_split_ands); go_simp; (try with_reducible rfl)) hHeld ?_
      try simp only [Act.put, List.setIfInBounds_toArray, List.set_cons_zero, List.set_cons_succ]
      refine take_in (i := 9) _ (some 27) (by kernel_rfl) (by kernel_rfl) (by kernel_rfl) (by kernel_rfl) (fun _ _ _ h => h) (by rfl) (fun o ho w hSw => by cases ho; (try dsimp only at hSw); (try go_split_ands); go_simp; (try with_reducible rfl)) hHeld ?_
      try simp only [Act.put, List.setIfInBounds_toArray, List.set_cons_zero, List.set_cons_succ]
      refine take_in (i := 10) _ (some 28) (by kernel_rfl) (by kernel_rfl) (by kernel_rfl) (by kernel_rfl) (fun _ _ _ h => h) (by rfl) (fun o ho w hSw => by cases ho; (try dsimp only at hSw); (try go_split_ands); go_simp; (try with_reducible rfl)) hHeld ?_
      try simp only [Act.put, List.setIfInBounds_toArray, List.set_cons_zero, List.set_cons_succ]
      refine wpAnyH_ready (rs := [11]) (by kernel_rfl) (by simp) ?_
      refine AllReadyH.cons (o := _) rfl (fun K hK => ?_) AllReadyH.nil
      go_simp
      go_at_call 85
      with_reducible refine HQ.out.mono ?_
      rintro e wX ⟨rfl, hbX⟩
      have HbX := Lib.hid hbX
      have ZX := Lib.hid (VX.out.keep hbX)
      have ZB := Lib.hid (below3 VB.out hbX)
      have HS2 := Lib.hid (And.intro (And.intro ((hbX.cell (p := ⟨b, _, none⟩) hbD).trans HS1.out.1.1) ((hbX.cell (p := ⟨b, _, none⟩) hbD).trans HS1.out.1.2)) (And.intro (ZX.out.cell 0) (ZX.out.cell 1)))
      clear hbX
      refine hK.out _ _ HS2.out (fun hHeld => ?_)
      clear hK K
      try simp only [Act.put, List.setIfInBounds_toArray, List.set_cons_zero, List.set_cons_succ]
      refine take_in (i := 12) _ (some 30) (by kernel_rfl) (by kernel_rfl) (by kernel_rfl) (by kernel_rfl) (fun _ _ _ h => h) (by rfl) (fun o ho w hSw => by cases ho; (try dsimp only at hSw); (try go_split_ands); go_simp; (try with_reducible rfl)) hHeld ?_
      try simp only [Act.put, List.setIfInBounds_toArray, List.set_cons_zero, List.set_cons_succ]
      refine take_in (i := 13) _ (some 31) (by kernel_rfl) (by kernel_rfl) (by kernel_rfl) (by kernel_rfl) (fun _ _ _ h => h) (by rfl) (fun o ho w hSw => by cases ho; (try dsimp only at hSw); (try go_split_ands); go_simp; (try with_reducible rfl)) hHeld ?_
      try simp only [Act.put, List.setIfInBounds_toArray, List.set_cons_zero, List.set_cons_succ]
      refine take_in (i := 14) _ (some 17) (by kernel_rfl) (by kernel_rfl) (by kernel_rfl) (by kernel_rfl) (fun _ _ _ h => h) (by rfl) (fun o ho w hSw => by cases ho; (try dsimp only at hSw); (try go_split_ands); go_simp; (try with_reducible rfl)) hHeld ?_
      try simp only [Act.put, List.setIfInBounds_toArray, List.set_cons_zero, List.set_cons_succ]
      refine wpAnyH_done (by kernel_rfl) ?_ _
      refine NoPanic.normal ?_
      clear HQ HS1 HS2 VX VB
      have g6 := ZX.out.cell 6
      simp only [List.getElem?_cons_zero, List.getElem?_cons_succ] at g6
      have g6l := ZX.out.lt
      have HCB := Lib.hid (anyBad_any xA xn xc B xh wX (HXH.out _ ((below3 (below3 HB3.out HBD.out) HbX.out).mono (by have := hB2.out.size; omega))) (by have := hB2.out.size; have := (below3 (below3 HB3.out HBD.out) HbX.out).size; omega) hxn)
      obtain ⟨bd, hbd⟩ : ∃ bd, xh.any badH = bd := ⟨_, rfl⟩
      rw [hbd] at HCB HO3
      clear hbd
      go_wp2_with fail
      refine HCB.out.mono ?_
      rintro e w9 ⟨rfl, hb9⟩
      have HB9 := Lib.hid (below3 ZB.out hb9)
      clear hb9 HCB
      cases bd
      case true =>
        have HE : Hid (routesErr es = 11) := HAT.out 11 (by rw [HO3.out, if_pos rfl]) (by omega)
        go_wp2
        go_ret
        exact ⟨ret_int HE.out.symm, HB9.out⟩
      case false =>
        have HN := Lib.hid (HST.out (by rw [HO3.out, if_neg (by simp)]))
        go_wp2
        go_roundw
        case rel => exact ⟨k + 1, by omega, by go_num, HN, HB9⟩
        case measure => simp [intOf]; omega
end Go.Proofs.YtplppbgkkfjknaaGreatDoor
