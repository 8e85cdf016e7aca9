/- routingref52.near. routingref52.Check. -/
import Derived.Test.YtplppbgkkfjknaaGreatDoorG12
namespace Go.Proofs.YtplppbgkkfjknaaGreatDoor
open Go.RowKit

set_option linter.unusedVariables false
set_option linter.unusedSimpArgs false
def NearI (w : World) (n : Nat) (f : Nat → Int) (iv : Value) (W : World) : Prop :=
  ∃ k : Nat, 1 ≤ k ∧ k ≤ max 1 n ∧ iv = .int .i64 k ∧ Hid (firstE f k = 0) ∧ Hid (Below w.heap.size w W)
set_option maxRecDepth 100000 in
set_option maxHeartbeats 8000000 in
theorem near_any (nA : Option Addr) (nn nc B : Nat) (ns : List NH) (w : World) (hx : Nears w B nA nn nc ns) (hB : B ≤ w.heap.size) (hnn : nn ≤ 140737488355328) :
    Calls Tryz.prog 32 #[.slice nA nn nc] w fun e w' => e = .returned (.bool (decide (firstE (nearErr ns) nn = 0))) ∧ Below w.heap.size w w' := by
  have HXW : Hid (∀ W, Below w.heap.size w W → Nears W B nA nn nc ns) := fun W h => Recs.below hx (h.mono hB)
  have HI : Hid (NearI w nn (nearErr ns) (.int .i64 (1 : Nat)) w) := ⟨1, Nat.le_refl _, Nat.le_max_left _ _, rfl, Lib.hid rfl, Lib.hid (Below.refl _ _)⟩
  obtain ⟨Q, hQ⟩ : ∃ Q, decide (firstE (nearErr ns) nn = 0) = Q := ⟨_, rfl⟩
  have HQ := Lib.hid hQ
  rw [hQ]
  clear hx hQ
  go_enter Tryz.func32, Tryz.ntmps32
  go_wp2
  go_loopw [3] (fun iv wr => NearI w nn (nearErr ns) iv wr) (fun iv _ => nn - (intOf iv).toNat)
  case atStart => exact HI.out
  case round =>
    obtain ⟨k, hk1, hk, rfl, h0, hB7⟩ := hrel
    clear HI
    by_cases hlt : k < nn
    case neg =>
      have HF : Hid (Q = true) := by show _ = _; rw [← HQ.out]; exact decide_eq_true (firstE_less h0.out (by omega))
      go_wp2
      go_ret
      exact ⟨by rw [HF.out]; rfl, hB7.out⟩
    obtain ⟨b, o, x, rfl, hbB, hxk, c0, c1, c2⟩ := (HXW.out _ hB7.out).get hlt
    obtain ⟨b2, o2, y, hA2, _, hyk, p0, p1, p2⟩ := (HXW.out _ hB7.out).get (j := k - 1) (by omega)
    simp only [Option.some.injEq, Addr.mk.injEq] at hA2
    obtain ⟨rfl, rfl, _⟩ := hA2
    have hbw : b < wr.heap.size := by have := hB7.out.size; omega
    have HO : Hid (nearErr ns k = if bfH y x = false then 16 else 0) := by
      show _ = _
      unfold nearErr
      rw [n_of hxk, n_of hyk]
      by_cases h : bfH y x = false
      · rw [if_pos ⟨hk1, h⟩, if_pos h]
      · rw [if_neg (fun q => h q.2), if_neg h]
    have HAT : Hid (nearErr ns k = 16 → Q = false) := fun hv => by
      rw [← HQ.out]
      have h := firstE_at (f := nearErr ns) h0.out (by rw [hv]; omega) hlt
      exact decide_eq_false (by rw [h, hv]; omega)
    have HST : Hid (nearErr ns k = 0 → firstE (nearErr ns) (k + 1) = 0) := fun hv => firstE_step h0.out hv
    have hws : IntKind.i64.wrap ((k : Int) - 1) = ((k - 1 : Nat) : Int) := by rw [IntWalk.i64_in _ (by omega)]; omega
    have hk2 : k - 1 < nn := by omega
    obtain ⟨xi, xa, xr⟩ := x
    obtain ⟨yi, ya, yr⟩ := y
    dsimp only at c0 c1 c2 p0 p1 p2
    clear hxk hyk
    go_upto_region 4 with fail
    go_region
    all_goals
      by_cases hq : bfH ⟨yi, ya, yr⟩ ⟨xi, xa, xr⟩ = false
      case pos =>
        have HF := Lib.hid (HAT.out (by rw [HO.out, if_pos hq]))
        have h2 : ¬(yr < xr ∨ (yr = xr ∧ yi < xi)) := of_decide_eq_false hq
        by_cases h3 : xr < yr
        · have d1 : decide (xr < yr) = true := decide_eq_true h3
          have d1' : decide (yr > xr) = true := decide_eq_true h3
          clear hq h2 h3 c0 c1 c2 p0 p1 p2
          go_wp2
          go_ret
          exact ⟨by rw [HF.out]; rfl, below_drewN (below3 (below3 hB7.out (belowA _ _)) (belowA _ _)) _⟩
        · obtain rfl : yr = xr := by omega
          have d1 : decide (yr < yr) = false := decide_eq_false h3
          have d3 : decide (yi ≥ xi) = true := decide_eq_true (by omega)
          have d3' : decide (xi ≤ yi) = true := decide_eq_true (by omega)
          clear hq h2 h3 c0 c1 c2 p0 p1 p2
          go_wp2
          go_ret
          exact ⟨by rw [HF.out]; rfl, below_drewN (below3 (below3 hB7.out (belowA _ _)) (belowA _ _)) _⟩
      case neg =>
        have HN := Lib.hid (HST.out (by rw [HO.out, if_neg hq]))
        have h2 : yr < xr ∨ (yr = xr ∧ yi < xi) := by
          have : bfH ⟨yi, ya, yr⟩ ⟨xi, xa, xr⟩ = true := by simpa using hq
          exact of_decide_eq_true this
        rcases h2 with h3 | ⟨rfl, h3⟩
        · have d1 : decide (xr < yr) = false := decide_eq_false (by omega)
          have d1' : decide (yr > xr) = false := decide_eq_false (by omega)
          have d2 : (yr == xr) = false := by simp; omega
          have d2' : decide (yr = xr) = false := decide_eq_false (by omega)
          clear hq h3 c0 c1 c2 p0 p1 p2 hws
          go_wp2
          go_roundw
          case rel => exact ⟨k + 1, by omega, by omega, by go_num, HN, below_drewN (below3 (below3 hB7.out (belowA _ _)) (belowA _ _)) _⟩
          case measure => simp [intOf]; omega
        · have d3 : decide (yi ≥ xi) = false := decide_eq_false (by omega)
          have d3' : decide (xi ≤ yi) = false := decide_eq_false (by omega)
          clear hq h3 c0 c1 c2 p0 p1 p2 hws
          go_wp2
          go_roundw
          case rel => exact ⟨k + 1, by omega, by omega, by go_num, HN, below_drewN (below3 (below3 hB7.out (belowA _ _)) (belowA _ _)) _⟩
          case measure => simp [intOf]; omega
end Go.Proofs.YtplppbgkkfjknaaGreatDoor
namespace Go.Proofs.YtplppbgkkfjknaaGreatDoor
open Go.RowKit

set_option linter.unusedVariables false
set_option linter.unusedSimpArgs false
theorem nearErr_or (ns : List NH) : ∀ n : Nat, firstE (nearErr ns) n ≠ 0 → firstE (nearErr ns) n = 16
  | 0, h => absurd rfl h
  | n + 1, h => by
    rw [firstE] at h ⊢
    by_cases h2 : firstE (nearErr ns) n ≠ 0
    · rw [if_pos h2]
      exact nearErr_or ns n h2
    · rw [if_neg h2] at h ⊢
      unfold nearErr at h ⊢
      split at h
      · rename_i q
        rw [if_pos q]
      · exact absurd rfl h
set_option maxRecDepth 100000 in
set_option maxHeartbeats 16000000 in
theorem refFibCheck_any (tA gA lA bA nA : Option Addr) (tn tc gn gc ln lc bn bc nn nc : Nat) (B : Nat) (es : List Ent) (gs : List GE) (ls : List Int) (bs : List EV) (ns : List NH) (w : World) (hx : FibAt w B tA gA lA bA nA tn tc gn gc ln lc bn bc nn nc es gs ls bs ns) (hB : B ≤ w.heap.size) :
    Calls Tryz.prog 14 #[.agg #[.slice tA tn tc, .slice gA gn gc, .slice lA ln lc, .slice bA bn bc, .slice nA nn nc]] w fun e w' => e = .returned (.int .i64 (fibErr es gs ls bs ns)) ∧ Below w.heap.size w w' := by
  have HX := Lib.hid hx
  obtain ⟨w1, hw1⟩ : ∃ w1, w.alloc (.cells #[.slice tA tn tc, .slice gA gn gc, .slice lA ln lc, .slice bA bn bc, .slice nA nn nc] 35) = w1 := ⟨_, rfl⟩
  have HF1 : Hid (Blk w1 w.heap.size 35 [.slice tA tn tc, .slice gA gn gc, .slice lA ln lc, .slice bA bn bc, .slice nA nn nc]) := by show Blk _ _ _ _; rw [← hw1]; exact Blk.new w _ _
  have HB1 : Hid (Below w.heap.size w w1) := by show Below _ _ _; rw [← hw1]; exact belowA _ _
  have hlt1 : w.heap.size < w1.heap.size := HF1.out.lt
  have HXW : Hid (∀ W, Below w.heap.size w W → FibAt W B tA gA lA bA nA tn tc gn gc ln lc bn bc nn nc es gs ls bs ns) := fun W h => HX.out.below (h.mono hB)
  have hgl : gs.length = gn := hx.g.1.2
  have hll : ls.length = ln := hx.l.len
  have hnl : ns.length = nn := hx.n.2
  have htl : es.length = tn := hx.t.len
  have HE : Hid (fibErr es gs ls bs ns = orE (firstE (rowErr gn es) tn) (orE (firstE (fun i => geErr (gAt gs i)) gn) (orE (firstE (locErr ls) ln) (orE (tabErr bs) (firstE (nearErr ns) nn))))) := by
    show _ = _
    unfold fibErr rowsErr
    rw [hgl, hll, hnl, htl]
  have HI0 : Hid (RowsI w gn tn es [.slice tA tn tc, .slice gA gn gc, .slice lA ln lc, .slice bA bn bc, .slice nA nn nc] (.int .i64 (0 : Nat)) w1) := ⟨0, Nat.zero_le _, rfl, Lib.hid rfl, HF1, HB1⟩
  have f0 := HF1.out.cell 0
  simp only [List.getElem?_cons_zero, List.getElem?_cons_succ] at f0
  have hgn := hx.gn
  have hln := hx.ln
  have hnn := hx.nn
  have htn := hx.tn
  clear hx hgl hll hnl htl
  go_enter Tryz.func14, Tryz.ntmps14
  go_wp2
  go_loopw [12] (fun iv wr => RowsI w gn tn es [.slice tA tn tc, .slice gA gn gc, .slice lA ln lc, .slice bA bn bc, .slice nA nn nc] iv wr) (fun iv _ => tn - (intOf iv).toNat)
  case atStart => exact HI0.out
  case round =>
    obtain ⟨k, hk, rfl, h0, hF, hB2⟩ := hrel
    clear HI0 f0 hw1 HF1 HB1 hlt1
    have f0 := hF.out.cell 0
    simp only [List.getElem?_cons_zero, List.getElem?_cons_succ] at f0
    have hNw := hF.out.lt
    by_cases hlt : k < tn
    case neg =>
      have HE2 := Lib.hid (HE.out.trans (orE_z (firstE_less h0.out (by omega))))
      have HB2 := hB2
      have HF2 := hF
      obtain ⟨w2, rfl⟩ : ∃ w2, w2 = wr := ⟨_, rfl⟩
      clear h0 HE hk
      have f1 := HF2.out.cell 1
      simp only [List.getElem?_cons_zero, List.getElem?_cons_succ] at f1
      have hNw := HF2.out.lt
      have HI0 : Hid (ChkI w 0 gn (fun i => geErr (gAt gs i)) [.slice tA tn tc, .slice gA gn gc, .slice lA ln lc, .slice bA bn bc, .slice nA nn nc] (.int .i64 (0 : Nat)) w2) := ⟨0, Nat.le_refl _, Nat.zero_le _, rfl, Lib.hid rfl, HF2, HB2⟩
      go_wp2
      go_loopw [54] (fun iv wr => ChkI w 0 gn (fun i => geErr (gAt gs i)) [.slice tA tn tc, .slice gA gn gc, .slice lA ln lc, .slice bA bn bc, .slice nA nn nc] iv wr) (fun iv _ => gn - (intOf iv).toNat)
      case atStart => exact HI0.out
      case round =>
        obtain ⟨k, _, hk, rfl, h0, hF, hB3⟩ := hrel
        clear HI0 f1 HF2 HB2 hNw
        have f1 := hF.out.cell 1
        simp only [List.getElem?_cons_zero, List.getElem?_cons_succ] at f1
        have hNw := hF.out.lt
        by_cases hlt : k < gn
        case pos =>
          obtain ⟨b, o, x, rfl, hbB, hxk, hxp, c0, c1⟩ := (HXW.out _ hB3.out).g.get hlt
          have hxn := HX.out.gp x (List.mem_of_getElem? hxk)
          have HO : Hid (geErr (gAt gs k) = gErr x.act x.n x.ps) := by show _ = _; rw [g_of hxk]; rfl
          have HAT : Hid (∀ v : Int, geErr (gAt gs k) = v → v ≠ 0 → fibErr es gs ls bs ns = v) := fun v hv hne => by
            have h := firstE_at (f := fun i => geErr (gAt gs i)) h0.out (by show geErr (gAt gs k) ≠ 0; rw [hv]; exact hne) hlt
            rw [HE2.out, h, orE_ne (by show geErr (gAt gs k) ≠ 0; rw [hv]; exact hne)]
            exact hv
          have HST : Hid (geErr (gAt gs k) = 0 → firstE (fun i => geErr (gAt gs i)) (k + 1) = 0) := fun hv => firstE_step h0.out hv
          have hbw : b < wr.heap.size := by have := hB3.out.size; omega
          obtain ⟨xc, xA, xn, xcap, xps⟩ := x
          dsimp only at hxn hxp c0 c1 HO
          have HC := Lib.hid (refCheck_any xA xn xcap B xc xps wr hxp (by have := hB3.out.size; omega) hxn)
          obtain ⟨q, hq⟩ : ∃ q, gErr xc xn xps = q := ⟨_, rfl⟩
          rw [hq] at HC HO
          clear hxk hxp hxn hq
          go_wp2_with fail
          refine HC.out.mono ?_
          rintro e w3 ⟨rfl, hb3⟩
          have HB4 := Lib.hid (below3 hB3.out hb3)
          have HF4 := Lib.hid (hF.out.keep hb3)
          clear HC hb3 c0 c1 f1
          by_cases hq : q = 0
          case neg =>
            have HF := Lib.hid (HAT.out q HO.out hq)
            have dq : (q != 0) = true := by simp [hq]
            clear hq
            go_wp2
            go_ret
            exact ⟨ret_int HF.out.symm, HB4.out⟩
          subst hq
          have HN := Lib.hid (HST.out HO.out)
          go_wp2
          go_roundw
          case rel => exact ⟨k + 1, Nat.zero_le _, by omega, by go_num, HN, HF4, HB4⟩
          case measure => simp [intOf]; omega
        case neg =>
          have HE3 := Lib.hid (HE2.out.trans (orE_z (firstE_less h0.out (by omega))))
          obtain ⟨w4, rfl⟩ : ∃ w4, w4 = wr := ⟨_, rfl⟩
          have f2 := hF.out.cell 2
          simp only [List.getElem?_cons_zero, List.getElem?_cons_succ] at f2
          have hNw := hF.out.lt
          have HI1 : Hid (ChkI w 1 ln (locErr ls) [.slice tA tn tc, .slice gA gn gc, .slice lA ln lc, .slice bA bn bc, .slice nA nn nc] (.int .i64 (1 : Nat)) w4) := ⟨1, Nat.le_refl _, Nat.le_max_left _ _, rfl, Lib.hid rfl, hF, hB3⟩
          clear h0 HE2 hk
          go_wp2
          go_loopw [7] (fun iv wr => ChkI w 1 ln (locErr ls) [.slice tA tn tc, .slice gA gn gc, .slice lA ln lc, .slice bA bn bc, .slice nA nn nc] iv wr) (fun iv _ => ln - (intOf iv).toNat)
          case atStart => exact HI1.out
          case round =>
            obtain ⟨k, hk1, hk, rfl, h0, hF, hB4⟩ := hrel
            clear HI1 f2 hNw
            have f2 := hF.out.cell 2
            simp only [List.getElem?_cons_zero, List.getElem?_cons_succ] at f2
            have hNw := hF.out.lt
            by_cases hlt : k < ln
            case pos =>
              obtain ⟨b, o, x, rfl, hbB, c0, hX⟩ := (HXW.out _ hB4.out).l.cell hlt
              obtain ⟨b2, o2, y, hA2, _, c1, hY⟩ := (HXW.out _ hB4.out).l.cell (j := k - 1) (by omega)
              simp only [Option.some.injEq, Addr.mk.injEq] at hA2
              obtain ⟨rfl, rfl, _⟩ := hA2
              have hbw : b < wr.heap.size := by have := hB4.out.size; omega
              have HO : Hid (locErr ls k = if x ≤ y then 16 else 0) := by
                show _ = _
                unfold locErr
                rw [hX.out, hY.out]
                by_cases h : x ≤ y
                · rw [if_pos ⟨hk1, h⟩, if_pos h]
                · rw [if_neg (fun q => h q.2), if_neg h]
              have HAT : Hid (∀ v : Int, locErr ls k = v → v ≠ 0 → fibErr es gs ls bs ns = v) := fun v hv hne => by
                have h := firstE_at (f := locErr ls) h0.out (by rw [hv]; exact hne) hlt
                rw [HE3.out, h, orE_ne (by rw [hv]; exact hne)]
                exact hv
              have HST : Hid (locErr ls k = 0 → firstE (locErr ls) (k + 1) = 0) := fun hv => firstE_step h0.out hv
              have hws : IntKind.i64.wrap ((k : Int) - 1) = ((k - 1 : Nat) : Int) := by rw [IntWalk.i64_in _ (by omega)]; omega
              have hk2 : k - 1 < ln := by omega
              clear hX hY
              by_cases hle : x ≤ y
              case pos =>
                have HF := Lib.hid (HAT.out 16 (by rw [HO.out, if_pos hle]) (by omega))
                have dle : decide (y ≥ x) = true := decide_eq_true hle
                have dle' : decide (x ≤ y) = true := decide_eq_true hle
                clear hle
                go_upto_region 22 with fail
                go_quiet (fail)
                go_wp2
                go_ret
                exact ⟨ret_int HF.out.symm, below_drewN hB4.out _⟩
              case neg =>
                have HN := Lib.hid (HST.out (by rw [HO.out, if_neg hle]))
                have dle : decide (y ≥ x) = false := decide_eq_false hle
                have dle' : decide (x ≤ y) = false := decide_eq_false hle
                clear hle
                go_upto_region 22 with fail
                go_quiet (fail)
                clear hws
                go_wp2
                go_roundw
                case rel => exact ⟨k + 1, by omega, by omega, by go_num, HN, hF.out.keep (below_drewN (Below.refl _ _) _), below_drewN hB4.out _⟩
                case measure => simp [intOf]; omega
            case neg =>
              have HE4 := Lib.hid (HE3.out.trans (orE_z (firstE_less h0.out (by omega))))
              obtain ⟨w5, rfl⟩ : ∃ w5, w5 = wr := ⟨_, rfl⟩
              have f3 := hF.out.cell 3
              have f4 := hF.out.cell 4
              simp only [List.getElem?_cons_zero, List.getElem?_cons_succ] at f3 f4
              have HC := Lib.hid (refCheck_anyL bA bn bc B bs w5 (HXW.out _ hB4.out).b (by have := hB4.out.size; omega) HX.out.bn HX.out.bp)
              obtain ⟨q, hq⟩ : ∃ q, tabErr bs = q := ⟨_, rfl⟩
              rw [hq] at HC HE4
              clear h0 HE3 hk hq
              go_wp2_with fail
              refine HC.out.mono ?_
              rintro e w6 ⟨rfl, hb6⟩
              have HB6 := Lib.hid (below3 hB4.out hb6)
              have HF6 := Lib.hid (hF.out.keep hb6)
              clear HC hb6 f2 f3 f4 hNw
              by_cases hq : q = 0
              case neg =>
                have HF := Lib.hid (HE4.out.trans (orE_ne hq))
                have dq : (q != 0) = true := by simp [hq]
                clear hq
                go_wp2
                go_ret
                exact ⟨ret_int HF.out.symm, HB6.out⟩
              subst hq
              have HE5 := Lib.hid (HE4.out.trans (orE_z rfl))
              have f4 := HF6.out.cell 4
              simp only [List.getElem?_cons_zero, List.getElem?_cons_succ] at f4
              have hNw := HF6.out.lt
              have HN := Lib.hid (near_any nA nn nc B ns w6 (HXW.out _ HB6.out).n (by have := HB6.out.size; omega) hnn)
              obtain ⟨Q, hQ⟩ : ∃ Q, decide (firstE (nearErr ns) nn = 0) = Q := ⟨_, rfl⟩
              have HQ := Lib.hid hQ
              rw [hQ] at HN
              clear HE4 hQ
              go_wp2_with fail
              refine HN.out.mono ?_
              rintro e w7 ⟨rfl, hb7⟩
              have HB7 := Lib.hid (below3 HB6.out hb7)
              clear HN hb7 f4 hNw
              cases Q
              case true =>
                have HF := Lib.hid (HE5.out.trans (of_decide_eq_true HQ.out))
                go_wp2
                go_ret
                exact ⟨ret_int HF.out.symm, HB7.out⟩
              case false =>
                have HF : Hid (fibErr es gs ls bs ns = 16) := HE5.out.trans (nearErr_or ns nn (of_decide_eq_false HQ.out))
                go_wp2
                go_ret
                exact ⟨ret_int HF.out.symm, HB7.out⟩
    have HX2 : Hid (Ents wr B tA tn tc es) := (HXW.out _ hB2.out).t
    obtain ⟨b, o, x, rfl, hbB, hxk, hxa, c0, c1, c2⟩ := HX2.out.get hlt
    have hax := ent_of hxk
    have HO : Hid (rowErr gn es k = if validE x = false then 1 else if 0 < k ∧ 0 ≤ cmpE (entAt es (k - 1)) x then 16 else if x.v < 0 ∨ (gn : Int) ≤ x.v then 5 else 0) := by
      show _ = _
      unfold rowErr
      rw [hax]
    have HAT : Hid (∀ v : Int, rowErr gn es k = v → v ≠ 0 → fibErr es gs ls bs ns = v) := fun v hv hne => by
      have h := firstE_at (f := rowErr gn es) h0.out (by rw [hv]; exact hne) hlt
      rw [HE.out, h, orE_ne (by rw [hv]; exact hne)]
      exact hv
    have HST : Hid (rowErr gn es k = 0 → firstE (rowErr gn es) (k + 1) = 0) := fun hv => firstE_step h0.out hv
    have hbw : b < wr.heap.size := by have := hB2.out.size; omega
    obtain ⟨xa, xl, xv⟩ := x
    dsimp only at hxa c0 c1 c2 HO
    obtain ⟨wa, hwa⟩ : ∃ wa, wr.alloc (.cells #[.int .u32 xa, .int .i64 xl, .int .i64 xv] 79) = wa := ⟨_, rfl⟩
    have HXB : Hid (Blk wa wr.heap.size 79 [.int .u32 xa, .int .i64 xl, .int .i64 xv]) := by show Blk _ _ _ _; rw [← hwa]; exact Blk.new wr _ _
    have HBA : Hid (Below wr.heap.size wr wa) := by show Below _ _ _; rw [← hwa]; exact belowA _ _
    have e0 := HXB.out.cell 0
    have e1 := HXB.out.cell 1
    simp only [List.getElem?_cons_zero, List.getElem?_cons_succ] at e0 e1
    have hlta : wr.heap.size < wa.heap.size := HXB.out.lt
    have f0 := hF.out.cell 0
    simp only [List.getElem?_cons_zero, List.getElem?_cons_succ] at f0
    have hNw : w.heap.size < wr.heap.size := hF.out.lt
    have HV := Lib.hid (refValid_any xa xl wa hxa)
    have HVE : Hid (validE ⟨xa, xl, xv⟩ = validP xa xl) := rfl
    obtain ⟨vb, hvb⟩ : ∃ vb, validP xa xl = vb := ⟨_, rfl⟩
    rw [hvb] at HV HVE
    clear hax hvb
    go_wp2_with fail
    refine HV.out.mono ?_
    rintro e w2 ⟨rfl, hb2⟩
    clear HV hwa e0 e1
    have HB3 := Lib.hid (below3 HBA.out hb2)
    have HB4 := Lib.hid (below3 hB2.out HB3.out)
    have HF3 := Lib.hid (hF.out.keep HB3.out)
    have HXB2 := Lib.hid (HXB.out.keep hb2)
    have hszb := hb2.size
    clear hb2 HBA HXB hF f0
    cases vb
    case false =>
      have HE : Hid (fibErr es gs ls bs ns = 1) := HAT.out 1 (by rw [HO.out, if_pos HVE.out]) (by omega)
      go_wp2
      go_ret
      exact ⟨ret_int HE.out.symm, HB4.out⟩
    have HO2 : Hid (rowErr gn es k = if 0 < k ∧ 0 ≤ cmpE (entAt es (k - 1)) ⟨xa, xl, xv⟩ then 16 else if xv < 0 ∨ (gn : Int) ≤ xv then 5 else 0) := by
      show _ = _
      rw [HO.out, if_neg (by rw [HVE.out]; simp)]
    clear HO HVE
    go_upto_region 7 with fail
    obtain ⟨wD, hwD⟩ : ∃ wD, w2.drew = wD := ⟨_, rfl⟩
    have HBD : Hid (Below w2.heap.size w2 wD) := by show Below _ _ _; rw [← hwD]; exact (Below.refl _ _).drew
    have VF := Lib.hid (HF3.out.keep HBD.out)
    have VX := Lib.hid (HXB2.out.keep HBD.out)
    have VB := Lib.hid (below3 HB4.out HBD.out)
    clear HF3 HXB2 HB4
    rcases Nat.eq_zero_or_pos k with hk0 | hk0
    · have HK0 := Lib.hid hk0
      have dk : decide ((0 : Int) < (k : Int)) = false := decide_eq_false (by omega)
      have dk' : decide (0 < k) = false := decide_eq_false (by omega)
      clear hk0
      have HO3 : Hid (rowErr gn es k = if xv < 0 ∨ (gn : Int) ≤ xv then 5 else 0) := by
        show _ = _
        rw [HO2.out, if_neg (by have := HK0.out; omega)]
      refine wp_region_noPanic ?_
      refine wp_region_held_drew (S := fun V => True) (by kernel_rfl) trivial (fun hHeld => ?_)
      rw [hwD] at *
      refine take_in (i := 0) _ (some 24) (by kernel_rfl) (by kernel_rfl) (by kernel_rfl) (by kernel_rfl) (fun _ _ _ h => h) (by rfl) (fun o ho w hSw => by cases ho; (try dsimp only at hSw); (try go_split_ands); go_simp; (try with_reducible rfl)) hHeld ?_
      try simp only [Act.put, List.setIfInBounds_toArray, List.set_cons_zero, List.set_cons_succ]
      refine take_in (i := 1) _ (some 25) (by kernel_rfl) (by kernel_rfl) (by kernel_rfl) (by kernel_rfl) (fun _ _ _ h => h) (by rfl) (fun o ho w hSw => by cases ho; (try dsimp only at hSw); (try go_split_ands); go_simp; (try with_reducible rfl)) hHeld ?_
      try simp only [Act.put, List.setIfInBounds_toArray, List.set_cons_zero, List.set_cons_succ]
      refine take_in (i := 2) _ (some 26) (by kernel_rfl) (by kernel_rfl) (by kernel_rfl) (by kernel_rfl) (fun _ _ _ h => h) (by rfl) (fun o ho w hSw => by cases ho; (try dsimp only at hSw); (try go_split_ands); go_simp; (try with_reducible rfl)) hHeld ?_
      try simp only [Act.put, List.setIfInBounds_toArray, List.set_cons_zero, List.set_cons_succ]
      refine take_un (i := 3) (some 27) (by kernel_rfl) (by kernel_rfl) (by kernel_rfl) (by kernel_rfl) (fun _ _ _ h => h) (by rfl) hHeld ?_
      try simp only [Act.put, List.setIfInBounds_toArray, List.set_cons_zero, List.set_cons_succ]
      refine take_un (i := 4) (some 28) (by kernel_rfl) (by kernel_rfl) (by kernel_rfl) (by kernel_rfl) (fun _ _ _ h => h) (by rfl) hHeld ?_
      try simp only [Act.put, List.setIfInBounds_toArray, List.set_cons_zero, List.set_cons_succ]
      refine take_un (i := 5) (some 29) (by kernel_rfl) (by kernel_rfl) (by kernel_rfl) (by kernel_rfl) (fun _ _ _ h => h) (by rfl) hHeld ?_
      try simp only [Act.put, List.setIfInBounds_toArray, List.set_cons_zero, List.set_cons_succ]
      refine take_un (i := 6) (some 30) (by kernel_rfl) (by kernel_rfl) (by kernel_rfl) (by kernel_rfl) (fun _ _ _ h => h) (by rfl) hHeld ?_
      try simp only [Act.put, List.setIfInBounds_toArray, List.set_cons_zero, List.set_cons_succ]
      refine take_un (i := 7) (some 31) (by kernel_rfl) (by kernel_rfl) (by kernel_rfl) (by kernel_rfl) (fun _ _ _ h => h) (by rfl) hHeld ?_
      try simp only [Act.put, List.setIfInBounds_toArray, List.set_cons_zero, List.set_cons_succ]
      refine take_un (i := 8) (some 32) (by kernel_rfl) (by kernel_rfl) (by kernel_rfl) (by kernel_rfl) (fun _ _ _ h => h) (by rfl) hHeld ?_
      try simp only [Act.put, List.setIfInBounds_toArray, List.set_cons_zero, List.set_cons_succ]
      refine take_un (i := 9) (some 33) (by kernel_rfl) (by kernel_rfl) (by kernel_rfl) (by kernel_rfl) (fun _ _ _ h => h) (by rfl) hHeld ?_
      try simp only [Act.put, List.setIfInBounds_toArray, List.set_cons_zero, List.set_cons_succ]
      refine take_un (i := 10) (some 34) (by kernel_rfl) (by kernel_rfl) (by kernel_rfl) (by kernel_rfl) (fun _ _ _ h => h) (by rfl) hHeld ?_
      try simp only [Act.put, List.setIfInBounds_toArray, List.set_cons_zero, List.set_cons_succ]
      refine take_un (i := 11) (some 35) (by kernel_rfl) (by kernel_rfl) (by kernel_rfl) (by kernel_rfl) (fun _ _ _ h => h) (by rfl) hHeld ?_
      try simp only [Act.put, List.setIfInBounds_toArray, List.set_cons_zero, List.set_cons_succ]
      refine take_un (i := 12) (some 36) (by kernel_rfl) (by kernel_rfl) (by kernel_rfl) (by kernel_rfl) (fun _ _ _ h => h) (by rfl) hHeld ?_
      try simp only [Act.put, List.setIfInBounds_toArray, List.set_cons_zero, List.set_cons_succ]
      refine take_un (i := 13) (some 37) (by kernel_rfl) (by kernel_rfl) (by kernel_rfl) (by kernel_rfl) (fun _ _ _ h => h) (by rfl) hHeld ?_
      try simp only [Act.put, List.setIfInBounds_toArray, List.set_cons_zero, List.set_cons_succ]
      refine take_in (i := 14) _ (some 38) (by kernel_rfl) (by kernel_rfl) (by kernel_rfl) (by kernel_rfl) (fun _ _ _ h => h) (by rfl) (fun o ho w hSw => by cases ho; (try dsimp only at hSw); (try go_split_ands); go_simp; (try with_reducible rfl)) hHeld ?_
      try simp only [Act.put, List.setIfInBounds_toArray, List.set_cons_zero, List.set_cons_succ]
      refine wpAnyH_done (by kernel_rfl) ?_ _
      refine NoPanic.normal ?_
      have g2 := VX.out.cell 2
      have f1 := VF.out.cell 1
      simp only [List.getElem?_cons_zero, List.getElem?_cons_succ] at g2 f1
      have g2l := VX.out.lt
      have f1l := VF.out.lt
      by_cases hv : xv < 0 ∨ (gn : Int) ≤ xv
      · have HE : Hid (fibErr es gs ls bs ns = 5) := HAT.out 5 (by rw [HO3.out, if_pos hv]) (by omega)
        by_cases hv0 : xv < 0
        · have dv : decide (xv < 0) = true := decide_eq_true hv0
          clear hv hv0
          go_wp2
          go_ret
          exact ⟨ret_int HE.out.symm, VB.out⟩
        · have dv : decide (xv < 0) = false := decide_eq_false hv0
          have dg : decide (xv ≥ (gn : Int)) = true := decide_eq_true (by omega)
          clear hv hv0
          go_wp2
          go_ret
          exact ⟨ret_int HE.out.symm, VB.out⟩
      · have HN := Lib.hid (HST.out (by rw [HO3.out, if_neg hv]))
        have dv : decide (xv < 0) = false := decide_eq_false (by omega)
        have dg : decide (xv ≥ (gn : Int)) = false := decide_eq_false (by omega)
        clear hv
        go_wp2
        go_roundw
        case rel => exact ⟨k + 1, by omega, by go_num, HN, VF, VB⟩
        case measure => simp [intOf]; omega
    · obtain ⟨b2, o2, y, hA2, _, hyk, hya, p0, p1, _⟩ := HX2.out.get (j := k - 1) (by omega)
      simp only [Option.some.injEq, Addr.mk.injEq] at hA2
      obtain ⟨rfl, rfl, _⟩ := hA2
      have hry := ent_of hyk
      obtain ⟨ya, yl, yv⟩ := y
      dsimp only at p0 p1
      rw [hry] at HO2
      have dk : decide ((0 : Int) < (k : Int)) = true := decide_eq_true (by omega)
      have dk' : decide (0 < k) = true := decide_eq_true (by omega)
      have hk1 : k - 1 < tn := by omega
      have hws : IntKind.i64.wrap ((k : Int) - 1) = ((k - 1 : Nat) : Int) := by rw [IntWalk.i64_in _ (by omega)]; omega
      have HO2 : Hid (rowErr gn es k = if 0 < k ∧ 0 ≤ cmpP ya yl xa xl then 16 else if xv < 0 ∨ (gn : Int) ≤ xv then 5 else 0) := HO2
      have HQ := Lib.hid (refCompare_any ya xa yl xl wD)
      obtain ⟨q, hq⟩ : ∃ q, cmpP ya yl xa xl = q := ⟨_, rfl⟩
      rw [hq] at HO2 HQ
      have hP : ∀ W, Below w2.heap.size w2 W → (W.cell? ⟨b, o + (k - 1) * 3, none⟩ = some (.int .u32 ya) ∧ W.cell? ⟨b, o + (k - 1) * 3 + 1, none⟩ = some (.int .i64 yl)) := by
        intro W hW
        have h := HB3.out.trans (hW.mono HB3.out.size)
        exact ⟨(h.cell (p := ⟨b, _, none⟩) hbw).trans p0, (h.cell (p := ⟨b, _, none⟩) hbw).trans p1⟩
      have HS1 : Hid ((wD.cell? ⟨b, o + (k - 1) * 3, none⟩ = some (.int .u32 ya) ∧ wD.cell? ⟨b, o + (k - 1) * 3 + 1, none⟩ = some (.int .i64 yl)) ∧ wD.cell? ⟨wr.heap.size, 0, none⟩ = some (.int .u32 xa) ∧ wD.cell? ⟨wr.heap.size, 1, none⟩ = some (.int .i64 xl) ∧ wD.cell? ⟨w.heap.size, 0, none⟩ = some (.slice (some ⟨b, o, none⟩) tn tc)) := ⟨hP _ HBD.out, VX.out.cell 0, VX.out.cell 1, VF.out.cell 0⟩
      have hbD : b < wD.heap.size := by have h1 := HB3.out.size; have h2 := HBD.out.size; omega
      clear hq hry hyk p0 p1 hP
      by_cases hq : 0 ≤ q
      case pos =>
        have HE : Hid (fibErr es gs ls bs ns = 16) := HAT.out 16 (by rw [HO2.out, if_pos ⟨hk0, hq⟩]) (by omega)
        have dq : decide (0 ≤ q) = true := decide_eq_true hq
        have dq' : decide (q ≥ 0) = true := decide_eq_true hq
        clear hq
        refine wp_region_noPanic ?_
        refine wp_region_held_drew (S := fun V => (V.cell? ⟨b, o + (k - 1) * 3, none⟩ = some (.int .u32 ya) ∧ V.cell? ⟨b, o + (k - 1) * 3 + 1, none⟩ = some (.int .i64 yl)) ∧ V.cell? ⟨wr.heap.size, 0, none⟩ = some (.int .u32 xa) ∧ V.cell? ⟨wr.heap.size, 1, none⟩ = some (.int .i64 xl) ∧ V.cell? ⟨w.heap.size, 0, none⟩ = some (.slice (some ⟨b, o, none⟩) tn tc)) (by kernel_rfl) (by rw [hwD]; exact HS1.out) (fun hHeld => ?_)
        rw [hwD] at *
        refine take_in (i := 0) _ (some 24) (by kernel_rfl) (by kernel_rfl) (by kernel_rfl) (by kernel_rfl) (fun _ _ _ h => h) (by rfl) (fun o ho w hSw => by cases ho; (try dsimp only at hSw); (try go_split_ands); go_simp; (try with_reducible rfl)) hHeld ?_
        try simp only [Act.put, List.setIfInBounds_toArray, List.set_cons_zero, List.set_cons_succ]
        refine take_in (i := 1) _ (some 25) (by kernel_rfl) (by kernel_rfl) (by kernel_rfl) (by kernel_rfl) (fun _ _ _ h => h) (by rfl) (fun o ho w hSw => by cases ho; (try dsimp only at hSw); (try go_split_ands); go_simp; (try with_reducible rfl)) hHeld ?_
        try simp only [Act.put, List.setIfInBounds_toArray, List.set_cons_zero, List.set_cons_succ]
        refine take_in (i := 2) _ (some 26) (by kernel_rfl) (by kernel_rfl) (by kernel_rfl) (by kernel_rfl) (fun _ _ _ h => h) (by rfl) (fun o ho w hSw => by cases ho; (try dsimp only at hSw); (try go_split_ands); go_simp; (try with_reducible rfl)) hHeld ?_
        try simp only [Act.put, List.setIfInBounds_toArray, List.set_cons_zero, List.set_cons_succ]
        refine take_in (i := 3) _ (some 27) (by kernel_rfl) (by kernel_rfl) (by kernel_rfl) (by kernel_rfl) (fun _ _ _ h => h) (by rfl) (fun o ho w hSw => by cases ho; (try dsimp only at hSw); (try go_split_ands); go_simp; (try with_reducible rfl)) hHeld ?_
        try simp only [Act.put, List.setIfInBounds_toArray, List.set_cons_zero, List.set_cons_succ]
        refine take_in (i := 4) _ (some 28) (by kernel_rfl) (by kernel_rfl) (by kernel_rfl) (by kernel_rfl) (fun _ _ _ h => h) (by rfl) (fun o ho w hSw => by cases ho; (try dsimp only at hSw); (try go_split_ands); go_simp; (try with_reducible rfl)) hHeld ?_
        try simp only [Act.put, List.setIfInBounds_toArray, List.set_cons_zero, List.set_cons_succ]
        refine take_in (i := 5) _ (some 29) (by kernel_rfl) (by kernel_rfl) (by kernel_rfl) (by kernel_rfl) (fun _ _ _ h => h) (by rfl) (fun o ho w hSw => by cases ho; (try dsimp only at hSw); (try go_split_ands); go_simp; (try with_reducible rfl)) hHeld ?_
        try simp only [Act.put, List.setIfInBounds_toArray, List.set_cons_zero, List.set_cons_succ]
        refine take_in (i := 6) _ (some 30) (by kernel_rfl) (by kernel_rfl) (by kernel_rfl) (by kernel_rfl) (fun _ _ _ h => h) (by rfl) (fun o ho w hSw => by cases ho; (try dsimp only at hSw); (try go_split_ands); go_simp; (try with_reducible rfl)) hHeld ?_
        try simp only [Act.put, List.setIfInBounds_toArray, List.set_cons_zero, List.set_cons_succ]
        refine take_in (i := 7) _ (some 31) (by kernel_rfl) (by kernel_rfl) (by kernel_rfl) (by kernel_rfl) (fun _ _ _ h => h) (by rfl) (fun o ho w hSw => by cases ho; (try dsimp only at hSw); (try go_split_ands); go_simp; (try with_reducible rfl)) hHeld ?_
        try simp only [Act.put, List.setIfInBounds_toArray, List.set_cons_zero, List.set_cons_succ]
        refine take_in (i := 8) _ (some 32) (by kernel_rfl) (by kernel_rfl) (by kernel_rfl) (by kernel_rfl) (fun _ _ _ h => h) (by rfl) (fun o ho w hSw => by cases ho; (try dsimp only at hSw); (try go_split_ands); go_simp; (try with_reducible rfl)) hHeld ?_
        try simp only [Act.put, List.setIfInBounds_toArray, List.set_cons_zero, List.set_cons_succ]
        refine take_in (i := 9) _ (some 33) (by kernel_rfl) (by kernel_rfl) (by kernel_rfl) (by kernel_rfl) (fun _ _ _ h => h) (by rfl) (fun o ho w hSw => by cases ho; (try dsimp only at hSw); (try go_split_ands); go_simp; (try with_reducible rfl)) hHeld ?_
        try simp only [Act.put, List.setIfInBounds_toArray, List.set_cons_zero, List.set_cons_succ]
        refine take_in (i := 10) _ (some 34) (by kernel_rfl) (by kernel_rfl) (by kernel_rfl) (by kernel_rfl) (fun _ _ _ h => h) (by rfl) (fun o ho w hSw => by cases ho; (try dsimp only at hSw); (try go_split_ands); go_simp; (try with_reducible rfl)) hHeld ?_
        try simp only [Act.put, List.setIfInBounds_toArray, List.set_cons_zero, List.set_cons_succ]
        refine take_in (i := 11) _ (some 35) (by kernel_rfl) (by kernel_rfl) (by kernel_rfl) (by kernel_rfl) (fun _ _ _ h => h) (by rfl) (fun o ho w hSw => by cases ho; (try dsimp only at hSw); (try go_split_ands); go_simp; (try with_reducible rfl)) hHeld ?_
        try simp only [Act.put, List.setIfInBounds_toArray, List.set_cons_zero, List.set_cons_succ]
        refine wpAnyH_ready (rs := [12]) (by kernel_rfl) (by simp) ?_
        refine AllReadyH.cons (o := _) rfl (fun K hK => ?_) AllReadyH.nil
        go_simp
        go_at_call 29
        with_reducible refine HQ.out.mono ?_
        rintro e wX ⟨rfl, hbX⟩
        have ZF := Lib.hid (VF.out.keep hbX)
        have ZX := Lib.hid (VX.out.keep hbX)
        have ZB := Lib.hid (below3 VB.out hbX)
        have HS2 := Lib.hid (And.intro (And.intro ((hbX.cell (p := ⟨b, _, none⟩) hbD).trans HS1.out.1.1) ((hbX.cell (p := ⟨b, _, none⟩) hbD).trans HS1.out.1.2)) (And.intro (ZX.out.cell 0) (And.intro (ZX.out.cell 1) (ZF.out.cell 0))))
        clear hbX
        refine hK.out _ _ HS2.out (fun hHeld => ?_)
        clear hK K
        try simp only [Act.put, List.setIfInBounds_toArray, List.set_cons_zero, List.set_cons_succ]
        refine take_in (i := 13) _ (some 37) (by kernel_rfl) (by kernel_rfl) (by kernel_rfl) (by kernel_rfl) (fun _ _ _ h => h) (by rfl) (fun o ho w hSw => by cases ho; (try dsimp only at hSw); (try go_split_ands); go_simp; (try with_reducible rfl)) hHeld ?_
        try simp only [Act.put, List.setIfInBounds_toArray, List.set_cons_zero, List.set_cons_succ]
        refine take_in (i := 14) _ (some 38) (by kernel_rfl) (by kernel_rfl) (by kernel_rfl) (by kernel_rfl) (fun _ _ _ h => h) (by rfl) (fun o ho w hSw => by cases ho; (try dsimp only at hSw); (try go_split_ands); go_simp; (try with_reducible rfl)) hHeld ?_
        try simp only [Act.put, List.setIfInBounds_toArray, List.set_cons_zero, List.set_cons_succ]
        refine wpAnyH_done (by kernel_rfl) ?_ _
        refine NoPanic.normal ?_
        clear HQ HS1 HS2 VF VX VB
        go_wp2
        go_ret
        exact ⟨ret_int HE.out.symm, ZB.out⟩
      have HO3 : Hid (rowErr gn es k = if xv < 0 ∨ (gn : Int) ≤ xv then 5 else 0) := by
        show _ = _
        rw [HO2.out, if_neg (by omega)]
      have dq : decide (0 ≤ q) = false := decide_eq_false hq
      have dq' : decide (q ≥ 0) = false := decide_eq_false hq
      clear hq
      refine wp_region_noPanic ?_
      refine wp_region_held_drew (S := fun V => (V.cell? ⟨b, o + (k - 1) * 3, none⟩ = some (.int .u32 ya) ∧ V.cell? ⟨b, o + (k - 1) * 3 + 1, none⟩ = some (.int .i64 yl)) ∧ V.cell? ⟨wr.heap.size, 0, none⟩ = some (.int .u32 xa) ∧ V.cell? ⟨wr.heap.size, 1, none⟩ = some (.int .i64 xl) ∧ V.cell? ⟨w.heap.size, 0, none⟩ = some (.slice (some ⟨b, o, none⟩) tn tc)) (by kernel_rfl) (by rw [hwD]; exact HS1.out) (fun hHeld => ?_)
      rw [hwD] at *
      refine take_in (i := 0) _ (some 24) (by kernel_rfl) (by kernel_rfl) (by kernel_rfl) (by kernel_rfl) (fun _ _ _ h => h) (by rfl) (fun o ho w hSw => by cases ho; (try dsimp only at hSw); (try go_split_ands); go_simp; (try with_reducible rfl)) hHeld ?_
      try simp only [Act.put, List.setIfInBounds_toArray, List.set_cons_zero, List.set_cons_succ]
      refine take_in (i := 1) _ (some 25) (by kernel_rfl) (by kernel_rfl) (by kernel_rfl) (by kernel_rfl) (fun _ _ _ h => h) (by rfl) (fun o ho w hSw => by cases ho; (try dsimp only at hSw); (try go_split_ands); go_simp; (try with_reducible rfl)) hHeld ?_
      try simp only [Act.put, List.setIfInBounds_toArray, List.set_cons_zero, List.set_cons_succ]
      refine take_in (i := 2) _ (some 26) (by kernel_rfl) (by kernel_rfl) (by kernel_rfl) (by kernel_rfl) (fun _ _ _ h => h) (by rfl) (fun o ho w hSw => by cases ho; (try dsimp only at hSw); (try go_split_ands); go_simp; (try with_reducible rfl)) hHeld ?_
      try simp only [Act.put, List.setIfInBounds_toArray, List.set_cons_zero, List.set_cons_succ]
      refine take_in (i := 3) _ (some 27) (by kernel_rfl) (by kernel_rfl) (by kernel_rfl) (by kernel_rfl) (fun _ _ _ h => h) (by rfl) (fun o ho w hSw => by cases ho; (try dsimp only at hSw); (try go_split_ands); go_simp; (try with_reducible rfl)) hHeld ?_
      try simp only [Act.put, List.setIfInBounds_toArray, List.set_cons_zero, List.set_cons_succ]
      refine take_in (i := 4) _ (some 28) (by kernel_rfl) (by kernel_rfl) (by kernel_rfl) (by kernel_rfl) (fun _ _ _ h => h) (by rfl) (fun o ho w hSw => by cases ho; (try dsimp only at hSw); (try go_split_ands); go_simp; (try with_reducible rfl)) hHeld ?_
      try simp only [Act.put, List.setIfInBounds_toArray, List.set_cons_zero, List.set_cons_succ]
      refine take_in (i := 5) _ (some 29) (by kernel_rfl) (by kernel_rfl) (by kernel_rfl) (by kernel_rfl) (fun _ _ _ h => h) (by rfl) (fun o ho w hSw => by cases ho; (try dsimp only at hSw); (try go_split_ands); go_simp; (try with_reducible rfl)) hHeld ?_
      try simp only [Act.put, List.setIfInBounds_toArray, List.set_cons_zero, List.set_cons_succ]
      refine take_in (i := 6) _ (some 30) (by kernel_rfl) (by kernel_rfl) (by kernel_rfl) (by kernel_rfl) (fun _ _ _ h => h) (by rfl) (fun o ho w hSw => by cases ho; (try dsimp only at hSw); (try go_split_ands); go_simp; (try with_reducible rfl)) hHeld ?_
      try simp only [Act.put, List.setIfInBounds_toArray, List.set_cons_zero, List.set_cons_succ]
      refine take_in (i := 7) _ (some 31) (by kernel_rfl) (by kernel_rfl) (by kernel_rfl) (by kernel_rfl) (fun _ _ _ h => h) (by rfl) (fun o ho w hSw => by cases ho; (try dsimp only at hSw); (try go_split_ands); go_simp; (try with_reducible rfl)) hHeld ?_
      try simp only [Act.put, List.setIfInBounds_toArray, List.set_cons_zero, List.set_cons_succ]
      refine take_in (i := 8) _ (some 32) (by kernel_rfl) (by kernel_rfl) (by kernel_rfl) (by kernel_rfl) (fun _ _ _ h => h) (by rfl) (fun o ho w hSw => by cases ho; (try dsimp only at hSw); (try go_split_ands); go_simp; (try with_reducible rfl)) hHeld ?_
      try simp only [Act.put, List.setIfInBounds_toArray, List.set_cons_zero, List.set_cons_succ]
      refine take_in (i := 9) _ (some 33) (by kernel_rfl) (by kernel_rfl) (by kernel_rfl) (by kernel_rfl) (fun _ _ _ h => h) (by rfl) (fun o ho w hSw => by cases ho; (try dsimp only at hSw); (try go_split_ands); go_simp; (try with_reducible rfl)) hHeld ?_
      try simp only [Act.put, List.setIfInBounds_toArray, List.set_cons_zero, List.set_cons_succ]
      refine take_in (i := 10) _ (some 34) (by kernel_rfl) (by kernel_rfl) (by kernel_rfl) (by kernel_rfl) (fun _ _ _ h => h) (by rfl) (fun o ho w hSw => by cases ho; (try dsimp only at hSw); (try go_split_ands); go_simp; (try with_reducible rfl)) hHeld ?_
      try simp only [Act.put, List.setIfInBounds_toArray, List.set_cons_zero, List.set_cons_succ]
      refine take_in (i := 11) _ (some 35) (by kernel_rfl) (by kernel_rfl) (by kernel_rfl) (by kernel_rfl) (fun _ _ _ h => h) (by rfl) (fun o ho w hSw => by cases ho; (try dsimp only at hSw); (try go_split_ands); go_simp; (try with_reducible rfl)) hHeld ?_
      try simp only [Act.put, List.setIfInBounds_toArray, List.set_cons_zero, List.set_cons_succ]
      refine wpAnyH_ready (rs := [12]) (by kernel_rfl) (by simp) ?_
      refine AllReadyH.cons (o := _) rfl (fun K hK => ?_) AllReadyH.nil
      go_simp
      go_at_call 29
      with_reducible refine HQ.out.mono ?_
      rintro e wX ⟨rfl, hbX⟩
      have ZF := Lib.hid (VF.out.keep hbX)
      have ZX := Lib.hid (VX.out.keep hbX)
      have ZB := Lib.hid (below3 VB.out hbX)
      have HS2 := Lib.hid (And.intro (And.intro ((hbX.cell (p := ⟨b, _, none⟩) hbD).trans HS1.out.1.1) ((hbX.cell (p := ⟨b, _, none⟩) hbD).trans HS1.out.1.2)) (And.intro (ZX.out.cell 0) (And.intro (ZX.out.cell 1) (ZF.out.cell 0))))
      clear hbX
      refine hK.out _ _ HS2.out (fun hHeld => ?_)
      clear hK K
      try simp only [Act.put, List.setIfInBounds_toArray, List.set_cons_zero, List.set_cons_succ]
      refine take_in (i := 13) _ (some 37) (by kernel_rfl) (by kernel_rfl) (by kernel_rfl) (by kernel_rfl) (fun _ _ _ h => h) (by rfl) (fun o ho w hSw => by cases ho; (try dsimp only at hSw); (try go_split_ands); go_simp; (try with_reducible rfl)) hHeld ?_
      try simp only [Act.put, List.setIfInBounds_toArray, List.set_cons_zero, List.set_cons_succ]
      refine take_in (i := 14) _ (some 38) (by kernel_rfl) (by kernel_rfl) (by kernel_rfl) (by kernel_rfl) (fun _ _ _ h => h) (by rfl) (fun o ho w hSw => by cases ho; (try dsimp only at hSw); (try go_split_ands); go_simp; (try with_reducible rfl)) hHeld ?_
      try simp only [Act.put, List.setIfInBounds_toArray, List.set_cons_zero, List.set_cons_succ]
      refine wpAnyH_done (by kernel_rfl) ?_ _
      refine NoPanic.normal ?_
      clear HQ HS1 HS2 VF VX VB
      have g2 := ZX.out.cell 2
      have f1 := ZF.out.cell 1
      simp only [List.getElem?_cons_zero, List.getElem?_cons_succ] at g2 f1
      have g2l := ZX.out.lt
      have f1l := ZF.out.lt
      by_cases hv : xv < 0 ∨ (gn : Int) ≤ xv
      · have HE : Hid (fibErr es gs ls bs ns = 5) := HAT.out 5 (by rw [HO3.out, if_pos hv]) (by omega)
        by_cases hv0 : xv < 0
        · have dv : decide (xv < 0) = true := decide_eq_true hv0
          clear hv hv0
          go_wp2
          go_ret
          exact ⟨ret_int HE.out.symm, ZB.out⟩
        · have dv : decide (xv < 0) = false := decide_eq_false hv0
          have dg : decide (xv ≥ (gn : Int)) = true := decide_eq_true (by omega)
          clear hv hv0
          go_wp2
          go_ret
          exact ⟨ret_int HE.out.symm, ZB.out⟩
      · have HN := Lib.hid (HST.out (by rw [HO3.out, if_neg hv]))
        have dv : decide (xv < 0) = false := decide_eq_false (by omega)
        have dg : decide (xv ≥ (gn : Int)) = false := decide_eq_false (by omega)
        clear hv
        go_wp2
        go_roundw
        case rel => exact ⟨k + 1, by omega, by go_num, HN, ZF, ZB⟩
        case measure => simp [intOf]; omega
end Go.Proofs.YtplppbgkkfjknaaGreatDoor
