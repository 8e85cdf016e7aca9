/- fib.Check: the walk. -/
import Derived.Test.YtplppbgkkfjknaaGreatDoorG11
namespace Go.Proofs.YtplppbgkkfjknaaGreatDoor
open Go.RowKit

set_option linter.unusedVariables false
set_option linter.unusedSimpArgs false
/-- a forwarding table in memory -/
structure FibAt (w : World) (B : Nat) (tA gA lA bA nA : Option Addr) (tn tc gn gc ln lc bn bc nn nc : Nat) (es : List Ent) (gs : List GE) (ls : List Int) (bs : List EV) (ns : List NH) : Prop where
  t : Ents w B tA tn tc es
  g : Grps w B gA gn gc gs
  l : Ints w B .u32 lA ln lc ls
  b : Tab w B bA bn bc bs
  n : Nears w B nA nn nc ns
  tn : tn ≤ 140737488355328
  gn : gn ≤ 140737488355328
  ln : ln ≤ 140737488355328
  bn : bn ≤ 140737488355328
  nn : nn ≤ 140737488355328
  gp : ∀ g ∈ gs, g.n ≤ 140737488355328
  bp : ∀ e ∈ bs, e.n ≤ 140737488355328
theorem FibAt.below {w w' : World} {B : Nat} {tA gA lA bA nA : Option Addr} {tn tc gn gc ln lc bn bc nn nc : Nat} {es : List Ent} {gs : List GE} {ls : List Int} {bs : List EV} {ns : List NH}
    (h : FibAt w B tA gA lA bA nA tn tc gn gc ln lc bn bc nn nc es gs ls bs ns) (hb : Below B w w') : FibAt w' B tA gA lA bA nA tn tc gn gc ln lc bn bc nn nc es gs ls bs ns :=
  ⟨h.t.below hb, h.g.below hb, h.l.below hb, h.b.below hb, Recs.below h.n hb, h.tn, h.gn, h.ln, h.bn, h.nn, h.gp, h.bp⟩
def ChkI (w : World) (lo n : Nat) (f : Nat → Int) (fv : List Value) (iv : Value) (W : World) : Prop :=
  ∃ k : Nat, lo ≤ k ∧ k ≤ max lo n ∧ iv = .int .i64 k ∧ Hid (firstE f k = 0) ∧ Hid (Blk W w.heap.size 35 fv) ∧ Hid (Below w.heap.size w W)
theorem firstE_less {f : Nat → Int} {n k : Nat} (h : firstE f k = 0) (hn : n ≤ k) : firstE f n = 0 := by
  by_cases hz : firstE f n = 0
  · exact hz
  · rw [firstE_keep hz hn] at h
    exact absurd h hz
theorem orE_ne {a b : Int} (h : a ≠ 0) : orE a b = a := if_neg h
theorem orE_z {a b : Int} (h : a = 0) : orE a b = b := if_pos h
set_option maxRecDepth 100000 in
set_option maxHeartbeats 8000000 in
theorem fibCheck_any (tA gA lA bA nA : Option Addr) (tn tc gn gc ln lc bn bc nn nc : Nat) (B : Nat) (es : List Ent) (gs : List GE) (ls : List Int) (bs : List EV) (ns : List NH) (w : World) (hx : FibAt w B tA gA lA bA nA tn tc gn gc ln lc bn bc nn nc es gs ls bs ns) (hB : B ≤ w.heap.size) :
    Calls Tryz.prog 59 #[.agg #[.slice tA tn tc, .slice gA gn gc, .slice lA ln lc, .slice bA bn bc, .slice nA nn nc]] w fun e w' => e = .returned (.int .i64 (fibErr es gs ls bs ns)) ∧ Below w.heap.size w w' := by
  have HX := Lib.hid hx
  obtain ⟨w1, hw1⟩ : ∃ w1, w.alloc (.cells #[.slice tA tn tc, .slice gA gn gc, .slice lA ln lc, .slice bA bn bc, .slice nA nn nc] 35) = w1 := ⟨_, rfl⟩
  have HF1 : Hid (Blk w1 w.heap.size 35 [.slice tA tn tc, .slice gA gn gc, .slice lA ln lc, .slice bA bn bc, .slice nA nn nc]) := by show Blk _ _ _ _; rw [← hw1]; exact Blk.new w _ _
  have HB1 : Hid (Below w.heap.size w w1) := by show Below _ _ _; rw [← hw1]; exact belowA _ _
  have hlt1 : w.heap.size < w1.heap.size := HF1.out.lt
  have HXW : Hid (∀ W, Below w.heap.size w W → FibAt W B tA gA lA bA nA tn tc gn gc ln lc bn bc nn nc es gs ls bs ns) := fun W h => HX.out.below (h.mono hB)
  have HR := Lib.hid (rows_any tA gA lA bA nA tn tc gn gc ln lc bn bc nn nc B es w1 (HXW.out _ HB1.out).t (by omega) hx.tn)
  have hgl : gs.length = gn := hx.g.1.2
  have hll : ls.length = ln := hx.l.len
  have hnl : ns.length = nn := hx.n.2
  obtain ⟨R, hR⟩ : ∃ R, rowsErr gn es = R := ⟨_, rfl⟩
  have HE : Hid (fibErr es gs ls bs ns = orE R (orE (firstE (fun i => geErr (gAt gs i)) gn) (orE (firstE (locErr ls) ln) (orE (tabErr bs) (firstE (nearErr ns) nn))))) := by
    show _ = _
    unfold fibErr
    rw [hgl, hll, hnl, hR]
  rw [hR] at HR
  have f0 := HF1.out.cell 0
  have f1 := HF1.out.cell 1
  have f2 := HF1.out.cell 2
  have f3 := HF1.out.cell 3
  have f4 := HF1.out.cell 4
  simp only [List.getElem?_cons_zero, List.getElem?_cons_succ] at f0 f1 f2 f3 f4
  have hgn := hx.gn
  have hln := hx.ln
  have hnn := hx.nn
  clear hx hgl hll hnl hR
  go_enter Tryz.func59, Tryz.ntmps59
  go_wp2_with fail
  refine HR.out.mono ?_
  rintro e w2 ⟨rfl, hb2⟩
  have HB2 := Lib.hid (below3 HB1.out hb2)
  have HF2 := Lib.hid (HF1.out.keep hb2)
  clear HR hw1 f0 f1 f2 f3 f4 hb2 HB1 HF1 hlt1
  by_cases hR : R = 0
  case neg =>
    have HF := Lib.hid (HE.out.trans (orE_ne hR))
    have dR : (R != 0) = true := by simp [hR]
    clear hR
    go_wp2
    go_ret
    exact ⟨ret_int HF.out.symm, HB2.out⟩
  subst hR
  have HE2 := Lib.hid (HE.out.trans (orE_z rfl))
  have f1 := HF2.out.cell 1
  simp only [List.getElem?_cons_zero, List.getElem?_cons_succ] at f1
  have hNw := HF2.out.lt
  have HI0 : Hid (ChkI w 0 gn (fun i => geErr (gAt gs i)) [.slice tA tn tc, .slice gA gn gc, .slice lA ln lc, .slice bA bn bc, .slice nA nn nc] (.int .i64 (0 : Nat)) w2) := ⟨0, Nat.le_refl _, Nat.zero_le _, rfl, Lib.hid rfl, HF2, HB2⟩
  clear HE
  go_wp2
  go_loopw [18] (fun iv wr => ChkI w 0 gn (fun i => geErr (gAt gs i)) [.slice tA tn tc, .slice gA gn gc, .slice lA ln lc, .slice bA bn bc, .slice nA nn nc] iv wr) (fun iv _ => gn - (intOf iv).toNat)
  case atStart => exact HI0.out
  case round =>
    obtain ⟨k, _, hk, rfl, h0, hF, hB3⟩ := hrel
    clear HI0 f1 HF2 HB2 hNw
    by_cases hlt : k < gn
    case pos =>
      obtain ⟨b, o, x, rfl, hbB, hxk, hxp, c0, c1⟩ := (HXW.out _ hB3.out).g.get hlt
      have hxn := HX.out.gp x (List.mem_of_getElem? hxk)
      have HO : Hid (geErr (gAt gs k) = gErr x.act x.n x.ps) := by show _ = _; rw [g_of hxk]; rfl
      have HAT : Hid (∀ v : Int, geErr (gAt gs k) = v → v ≠ 0 → fibErr es gs ls bs ns = v) := fun v hv hne => by
        have h := firstE_at (f := fun i => geErr (gAt gs i)) h0.out (by show geErr (gAt gs k) ≠ 0; rw [hv]; exact hne) hlt
        rw [HE2.out, h, orE_ne (by show geErr (gAt gs k) ≠ 0; rw [hv]; exact hne)]
        exact hv
      have HST : Hid (geErr (gAt gs k) = 0 → firstE (fun i => geErr (gAt gs i)) (k + 1) = 0) := fun hv => firstE_step h0.out hv
      have hbw : b < wr.heap.size := by have := hB3.out.size; omega
      obtain ⟨xc, xA, xn, xcap, xps⟩ := x
      dsimp only at hxn hxp c0 c1 HO
      obtain ⟨wa, hwa⟩ : ∃ wa, wr.alloc (.cells #[.int .i64 xc, .slice xA xn xcap] 47) = wa := ⟨_, rfl⟩
      have HXB : Hid (Blk wa wr.heap.size 47 [.int .i64 xc, .slice xA xn xcap]) := by show Blk _ _ _ _; rw [← hwa]; exact Blk.new wr _ _
      have HBA : Hid (Below wr.heap.size wr wa) := by show Below _ _ _; rw [← hwa]; exact belowA _ _
      have e0 := HXB.out.cell 0
      have e1 := HXB.out.cell 1
      simp only [List.getElem?_cons_zero, List.getElem?_cons_succ] at e0 e1
      have hlta : wr.heap.size < wa.heap.size := HXB.out.lt
      have HC := Lib.hid (check_any xA xn xcap B xc xps wa (hxp.below (HBA.out.mono (by have := hB3.out.size; omega))) (by have := hB3.out.size; omega) hxn)
      obtain ⟨q, hq⟩ : ∃ q, gErr xc xn xps = q := ⟨_, rfl⟩
      rw [hq] at HC HO
      clear hxk hxp hxn hq
      go_wp2_with fail
      refine HC.out.mono ?_
      rintro e w3 ⟨rfl, hb3⟩
      have HB4 := Lib.hid (below3 hB3.out (below3 HBA.out hb3))
      have HF4 := Lib.hid (hF.out.keep (below3 HBA.out hb3))
      clear HC hb3 e0 e1 hwa hlta c0 c1
      by_cases hq : q = 0
      case neg =>
        have HF := Lib.hid (HAT.out q HO.out hq)
        have dq : (q != 0) = true := by simp [hq]
        clear hq
        go_wp2
        go_ret
        exact ⟨ret_int HF.out.symm, HB4.out⟩
      subst hq
      have HN := Lib.hid (HST.out HO.out)
      go_wp2
      go_roundw
      case rel => exact ⟨k + 1, Nat.zero_le _, by omega, by go_num, HN, HF4, HB4⟩
      case measure => simp [intOf]; omega
    case neg =>
      have HE3 := Lib.hid (HE2.out.trans (orE_z (firstE_less h0.out (by omega))))
      obtain ⟨w4, rfl⟩ : ∃ w4, w4 = wr := ⟨_, rfl⟩
      have f2 := hF.out.cell 2
      simp only [List.getElem?_cons_zero, List.getElem?_cons_succ] at f2
      have hNw := hF.out.lt
      have HI1 : Hid (ChkI w 1 ln (locErr ls) [.slice tA tn tc, .slice gA gn gc, .slice lA ln lc, .slice bA bn bc, .slice nA nn nc] (.int .i64 (1 : Nat)) w4) := ⟨1, Nat.le_refl _, Nat.le_max_left _ _, rfl, Lib.hid rfl, hF, hB3⟩
      clear h0 HE2 hk
      go_wp2
      go_loopw [7] (fun iv wr => ChkI w 1 ln (locErr ls) [.slice tA tn tc, .slice gA gn gc, .slice lA ln lc, .slice bA bn bc, .slice nA nn nc] iv wr) (fun iv _ => ln - (intOf iv).toNat)
      case atStart => exact HI1.out
      case round =>
        obtain ⟨k, hk1, hk, rfl, h0, hF, hB4⟩ := hrel
        clear HI1 f2 hNw
        have f2 := hF.out.cell 2
        simp only [List.getElem?_cons_zero, List.getElem?_cons_succ] at f2
        have hNw := hF.out.lt
        by_cases hlt : k < ln
        case pos =>
          obtain ⟨b, o, x, rfl, hbB, c0, hX⟩ := (HXW.out _ hB4.out).l.cell hlt
          obtain ⟨b2, o2, y, hA2, _, c1, hY⟩ := (HXW.out _ hB4.out).l.cell (j := k - 1) (by omega)
          simp only [Option.some.injEq, Addr.mk.injEq] at hA2
          obtain ⟨rfl, rfl, _⟩ := hA2
          have hbw : b < wr.heap.size := by have := hB4.out.size; omega
          have HO : Hid (locErr ls k = if x ≤ y then 16 else 0) := by
            show _ = _
            unfold locErr
            rw [hX.out, hY.out]
            by_cases h : x ≤ y
            · rw [if_pos ⟨hk1, h⟩, if_pos h]
            · rw [if_neg (fun q => h q.2), if_neg h]
          have HAT : Hid (∀ v : Int, locErr ls k = v → v ≠ 0 → fibErr es gs ls bs ns = v) := fun v hv hne => by
            have h := firstE_at (f := locErr ls) h0.out (by rw [hv]; exact hne) hlt
            rw [HE3.out, h, orE_ne (by rw [hv]; exact hne)]
            exact hv
          have HST : Hid (locErr ls k = 0 → firstE (locErr ls) (k + 1) = 0) := fun hv => firstE_step h0.out hv
          have hws : IntKind.i64.wrap ((k : Int) - 1) = ((k - 1 : Nat) : Int) := by rw [IntWalk.i64_in _ (by omega)]; omega
          have hk2 : k - 1 < ln := by omega
          clear hX hY
          by_cases hle : x ≤ y
          case pos =>
            have HF := Lib.hid (HAT.out 16 (by rw [HO.out, if_pos hle]) (by omega))
            have dle : decide (x ≤ y) = true := decide_eq_true hle
            clear hle
            go_upto_region 14 with fail
            go_quiet (fail)
            go_wp2
            go_ret
            exact ⟨ret_int HF.out.symm, below_drewN hB4.out _⟩
          case neg =>
            have HN := Lib.hid (HST.out (by rw [HO.out, if_neg hle]))
            have dle : decide (x ≤ y) = false := decide_eq_false hle
            clear hle
            go_upto_region 14 with fail
            go_quiet (fail)
            clear hws
            go_wp2
            go_roundw
            case rel => exact ⟨k + 1, by omega, by omega, by go_num, HN, hF.out.keep (below_drewN (Below.refl _ _) _), below_drewN hB4.out _⟩
            case measure => simp [intOf]; omega
        case neg =>
          have HE4 := Lib.hid (HE3.out.trans (orE_z (firstE_less h0.out (by omega))))
          obtain ⟨w5, rfl⟩ : ∃ w5, w5 = wr := ⟨_, rfl⟩
          have f3 := hF.out.cell 3
          have f4 := hF.out.cell 4
          simp only [List.getElem?_cons_zero, List.getElem?_cons_succ] at f3 f4
          have HC := Lib.hid (check_anyL bA bn bc B bs w5 (HXW.out _ hB4.out).b (by have := hB4.out.size; omega) HX.out.bn HX.out.bp)
          obtain ⟨q, hq⟩ : ∃ q, tabErr bs = q := ⟨_, rfl⟩
          rw [hq] at HC HE4
          clear h0 HE3 hk hq
          go_wp2_with fail
          refine HC.out.mono ?_
          rintro e w6 ⟨rfl, hb6⟩
          have HB6 := Lib.hid (below3 hB4.out hb6)
          have HF6 := Lib.hid (hF.out.keep hb6)
          clear HC hb6 f2 f3 f4 hNw
          by_cases hq : q = 0
          case neg =>
            have HF := Lib.hid (HE4.out.trans (orE_ne hq))
            have dq : (q != 0) = true := by simp [hq]
            clear hq
            go_wp2
            go_ret
            exact ⟨ret_int HF.out.symm, HB6.out⟩
          subst hq
          have HE5 := Lib.hid (HE4.out.trans (orE_z rfl))
          have f4 := HF6.out.cell 4
          simp only [List.getElem?_cons_zero, List.getElem?_cons_succ] at f4
          have hNw := HF6.out.lt
          have HI2 : Hid (ChkI w 1 nn (nearErr ns) [.slice tA tn tc, .slice gA gn gc, .slice lA ln lc, .slice bA bn bc, .slice nA nn nc] (.int .i64 (1 : Nat)) w6) := ⟨1, Nat.le_refl _, Nat.le_max_left _ _, rfl, Lib.hid rfl, HF6, HB6⟩
          clear HE4
          go_wp2
          go_loopw [9] (fun iv wr => ChkI w 1 nn (nearErr ns) [.slice tA tn tc, .slice gA gn gc, .slice lA ln lc, .slice bA bn bc, .slice nA nn nc] iv wr) (fun iv _ => nn - (intOf iv).toNat)
          case atStart => exact HI2.out
          case round =>
            obtain ⟨k, hk1, hk, rfl, h0, hF, hB7⟩ := hrel
            clear HI2 f4 hNw
            have f4 := hF.out.cell 4
            simp only [List.getElem?_cons_zero, List.getElem?_cons_succ] at f4
            have hNw := hF.out.lt
            by_cases hlt : k < nn
            case neg =>
              have HE6 := Lib.hid (HE5.out.trans (firstE_less h0.out (by omega)))
              go_wp2
              go_ret
              exact ⟨ret_int HE6.out.symm, hB7.out⟩
            obtain ⟨b, o, x, rfl, hbB, hxk, c0, c1, c2⟩ := (HXW.out _ hB7.out).n.get hlt
            obtain ⟨b2, o2, y, hA2, _, hyk, p0, p1, p2⟩ := (HXW.out _ hB7.out).n.get (j := k - 1) (by omega)
            simp only [Option.some.injEq, Addr.mk.injEq] at hA2
            obtain ⟨rfl, rfl, _⟩ := hA2
            have hbw : b < wr.heap.size := by have := hB7.out.size; omega
            have HO : Hid (nearErr ns k = if bfH y x = false then 16 else 0) := by
              show _ = _
              unfold nearErr
              rw [n_of hxk, n_of hyk]
              by_cases h : bfH y x = false
              · rw [if_pos ⟨hk1, h⟩, if_pos h]
              · rw [if_neg (fun q => h q.2), if_neg h]
            have HAT : Hid (∀ v : Int, nearErr ns k = v → v ≠ 0 → fibErr es gs ls bs ns = v) := fun v hv hne => by
              rw [HE5.out, firstE_at (f := nearErr ns) h0.out (by rw [hv]; exact hne) hlt]
              exact hv
            have HST : Hid (nearErr ns k = 0 → firstE (nearErr ns) (k + 1) = 0) := fun hv => firstE_step h0.out hv
            have hws : IntKind.i64.wrap ((k : Int) - 1) = ((k - 1 : Nat) : Int) := by rw [IntWalk.i64_in _ (by omega)]; omega
            have hk2 : k - 1 < nn := by omega
            obtain ⟨xi, xa, xr⟩ := x
            obtain ⟨yi, ya, yr⟩ := y
            dsimp only at c0 c1 c2 p0 p1 p2
            obtain ⟨wD, hwD⟩ : ∃ wD, wr.drew = wD := ⟨_, rfl⟩
            have HBD : Hid (Below wr.heap.size wr wD) := by show Below _ _ _; rw [← hwD]; exact (Below.refl _ _).drew
            have HC := Lib.hid (before_any yi ya yr xi xa xr wD)
            obtain ⟨q, hq⟩ : ∃ q, bfH ⟨yi, ya, yr⟩ ⟨xi, xa, xr⟩ = q := ⟨_, rfl⟩
            rw [hq] at HC HO
            have HS : Hid (∀ W, Below wr.heap.size wr W → (W.cell? ⟨b, o + k * 3, none⟩ = some (.int .i64 xi) ∧ W.cell? ⟨b, o + k * 3 + 1, none⟩ = some (.int .u32 xa) ∧ W.cell? ⟨b, o + k * 3 + 2, none⟩ = some (.int .u32 xr)) ∧ (W.cell? ⟨b, o + (k - 1) * 3, none⟩ = some (.int .i64 yi) ∧ W.cell? ⟨b, o + (k - 1) * 3 + 1, none⟩ = some (.int .u32 ya) ∧ W.cell? ⟨b, o + (k - 1) * 3 + 2, none⟩ = some (.int .u32 yr)) ∧ W.cell? ⟨w.heap.size, 4, none⟩ = some (.slice (some ⟨b, o, none⟩) nn nc)) := fun W hW =>
              ⟨⟨(hW.cell (p := ⟨b, _, none⟩) hbw).trans c0, (hW.cell (p := ⟨b, _, none⟩) hbw).trans c1, (hW.cell (p := ⟨b, _, none⟩) hbw).trans c2⟩, ⟨(hW.cell (p := ⟨b, _, none⟩) hbw).trans p0, (hW.cell (p := ⟨b, _, none⟩) hbw).trans p1, (hW.cell (p := ⟨b, _, none⟩) hbw).trans p2⟩, (hF.out.keep hW).cell 4⟩
            clear hxk hyk hq c0 c1 c2 p0 p1 p2
            go_upto_region 22 with fail
            clear f4
            cases q
            case false =>
              have HF := Lib.hid (HAT.out 16 (by rw [HO.out, if_pos rfl]) (by omega))
              refine wp_region_noPanic ?_
              refine wp_region_held_drew (S := fun V => (V.cell? ⟨b, o + k * 3, none⟩ = some (.int .i64 xi) ∧ V.cell? ⟨b, o + k * 3 + 1, none⟩ = some (.int .u32 xa) ∧ V.cell? ⟨b, o + k * 3 + 2, none⟩ = some (.int .u32 xr)) ∧ (V.cell? ⟨b, o + (k - 1) * 3, none⟩ = some (.int .i64 yi) ∧ V.cell? ⟨b, o + (k - 1) * 3 + 1, none⟩ = some (.int .u32 ya) ∧ V.cell? ⟨b, o + (k - 1) * 3 + 2, none⟩ = some (.int .u32 yr)) ∧ V.cell? ⟨w.heap.size, 4, none⟩ = some (.slice (some ⟨b, o, none⟩) nn nc)) (by kernel_rfl) (by rw [hwD]; exact HS.out _ HBD.out) (fun hHeld => ?_)
              rw [hwD] at *
              refine take_in (i := 0) _ (some 60) (by kernel_rfl) (by kernel_rfl) (by kernel_rfl) (by kernel_rfl) (fun _ _ _ h => h) (by rfl) (fun o ho w hSw => by cases ho; (try dsimp only at hSw); (try go_split_ands); go_simp; (try with_reducible rfl)) hHeld ?_
              try simp only [Act.put, List.setIfInBounds_toArray, List.set_cons_zero, List.set_cons_succ]
              refine take_in (i := 1) _ (some 61) (by kernel_rfl) (by kernel_rfl) (by kernel_rfl) (by kernel_rfl) (fun _ _ _ h => h) (by rfl) (fun o ho w hSw => by cases ho; (try dsimp only at hSw); (try go_split_ands); go_simp; (try with_reducible rfl)) hHeld ?_
              try simp only [Act.put, List.setIfInBounds_toArray, List.set_cons_zero, List.set_cons_succ]
              refine take_in (i := 2) _ (some 62) (by kernel_rfl) (by kernel_rfl) (by kernel_rfl) (by kernel_rfl) (fun _ _ _ h => h) (by rfl) (fun o ho w hSw => by cases ho; (try dsimp only at hSw); (try go_split_ands); go_simp; (try with_reducible rfl)) hHeld ?_
              try simp only [Act.put, List.setIfInBounds_toArray, List.set_cons_zero, List.set_cons_succ]
              refine take_in (i := 3) _ (some 63) (by kernel_rfl) (by kernel_rfl) (by kernel_rfl) (by kernel_rfl) (fun _ _ _ h => h) (by rfl) (fun o ho w hSw => by cases ho; (try dsimp only at hSw); (try go_split_ands); go_simp; (try with_reducible rfl)) hHeld ?_
              try simp only [Act.put, List.setIfInBounds_toArray, List.set_cons_zero, List.set_cons_succ]
              refine take_in (i := 4) _ (some 64) (by kernel_rfl) (by kernel_rfl) (by kernel_rfl) (by kernel_rfl) (fun _ _ _ h => h) (by rfl) (fun o ho w hSw => by cases ho; (try dsimp only at hSw); (try go_split_ands); go_simp; (try with_reducible rfl)) hHeld ?_
              try simp only [Act.put, List.setIfInBounds_toArray, List.set_cons_zero, List.set_cons_succ]
              refine take_in (i := 5) _ (some 65) (by kernel_rfl) (by kernel_rfl) (by kernel_rfl) (by kernel_rfl) (fun _ _ _ h => h) (by rfl) (fun o ho w hSw => by cases ho; (try dsimp only at hSw); (try go_split_ands); go_simp; (try with_reducible rfl)) hHeld ?_
              try simp only [Act.put, List.setIfInBounds_toArray, List.set_cons_zero, List.set_cons_succ]
              refine take_in (i := 6) _ (some 66) (by kernel_rfl) (by kernel_rfl) (by kernel_rfl) (by kernel_rfl) (fun _ _ _ h => h) (by rfl) (fun o ho w hSw => by cases ho; (try dsimp only at hSw); (try go_split_ands); go_simp; (try with_reducible rfl)) hHeld ?_
              try simp only [Act.put, List.setIfInBounds_toArray, List.set_cons_zero, List.set_cons_succ]
              refine take_in (i := 7) _ (some 67) (by kernel_rfl) (by kernel_rfl) (by kernel_rfl) (by kernel_rfl) (fun _ _ _ h => h) (by rfl) (fun o ho w hSw => by cases ho; (try dsimp only at hSw); (try go_split_ands); go_simp; (try with_reducible rfl)) hHeld ?_
              try simp only [Act.put, List.setIfInBounds_toArray, List.set_cons_zero, List.set_cons_succ]
              refine take_in (i := 8) _ (some 68) (by kernel_rfl) (by kernel_rfl) (by kernel_rfl) (by kernel_rfl) (fun _ _ _ h => h) (by rfl) (fun o ho w hSw => by cases ho; (try dsimp only at hSw); (try go_split_ands); go_simp; (try with_reducible rfl)) hHeld ?_
              try simp only [Act.put, List.setIfInBounds_toArray, List.set_cons_zero, List.set_cons_succ]
              refine take_in (i := 9) _ (some 69) (by kernel_rfl) (by kernel_rfl) (by kernel_rfl) (by kernel_rfl) (fun _ _ _ h => h) (by rfl) (fun o ho w hSw => by cases ho; (try dsimp only at hSw); (try go_split_ands); go_simp; (try with_reducible rfl)) hHeld ?_
              try simp only [Act.put, List.setIfInBounds_toArray, List.set_cons_zero, List.set_cons_succ]
              refine take_in (i := 10) _ (some 70) (by kernel_rfl) (by kernel_rfl) (by kernel_rfl) (by kernel_rfl) (fun _ _ _ h => h) (by rfl) (fun o ho w hSw => by cases ho; (try dsimp only at hSw); (try go_split_ands); go_simp; (try with_reducible rfl)) hHeld ?_
              try simp only [Act.put, List.setIfInBounds_toArray, List.set_cons_zero, List.set_cons_succ]
              refine wpAnyH_ready (rs := [11]) (by kernel_rfl) (by simp) ?_
              refine AllReadyH.cons (o := _) rfl (fun K hK => ?_) AllReadyH.nil
              go_simp
              go_at_call 95
              with_reducible refine HC.out.mono ?_
              rintro e wX ⟨rfl, hbX⟩
              have HBX := Lib.hid (below3 HBD.out hbX)
              have ZF := Lib.hid (hF.out.keep HBX.out)
              have ZB := Lib.hid (below3 hB7.out HBX.out)
              clear hbX
              refine hK.out _ _ (HS.out _ HBX.out) (fun hHeld => ?_)
              clear hK K
              try simp only [Act.put, List.setIfInBounds_toArray, List.set_cons_zero, List.set_cons_succ]
              refine take_in (i := 12) _ (some 72) (by kernel_rfl) (by kernel_rfl) (by kernel_rfl) (by kernel_rfl) (fun _ _ _ h => h) (by rfl) (fun o ho w hSw => by cases ho; (try dsimp only at hSw); (try go_split_ands); go_simp; (try with_reducible rfl)) hHeld ?_
              try simp only [Act.put, List.setIfInBounds_toArray, List.set_cons_zero, List.set_cons_succ]
              refine wpAnyH_done (by kernel_rfl) ?_ _
              refine NoPanic.normal ?_
              clear HC HS HBD HBX
              go_wp2
              go_ret
              exact ⟨ret_int HF.out.symm, ZB.out⟩
            case true =>
              have HN := Lib.hid (HST.out (by rw [HO.out, if_neg (by simp)]))
              refine wp_region_noPanic ?_
              refine wp_region_held_drew (S := fun V => (V.cell? ⟨b, o + k * 3, none⟩ = some (.int .i64 xi) ∧ V.cell? ⟨b, o + k * 3 + 1, none⟩ = some (.int .u32 xa) ∧ V.cell? ⟨b, o + k * 3 + 2, none⟩ = some (.int .u32 xr)) ∧ (V.cell? ⟨b, o + (k - 1) * 3, none⟩ = some (.int .i64 yi) ∧ V.cell? ⟨b, o + (k - 1) * 3 + 1, none⟩ = some (.int .u32 ya) ∧ V.cell? ⟨b, o + (k - 1) * 3 + 2, none⟩ = some (.int .u32 yr)) ∧ V.cell? ⟨w.heap.size, 4, none⟩ = some (.slice (some ⟨b, o, none⟩) nn nc)) (by kernel_rfl) (by rw [hwD]; exact HS.out _ HBD.out) (fun hHeld => ?_)
              rw [hwD] at *
              refine take_in (i := 0) _ (some 60) (by kernel_rfl) (by kernel_rfl) (by kernel_rfl) (by kernel_rfl) (fun _ _ _ h => h) (by rfl) (fun o ho w hSw => by cases ho; (try dsimp only at hSw); (try go_split_ands); go_simp; (try with_reducible rfl)) hHeld ?_
              try simp only [Act.put, List.setIfInBounds_toArray, List.set_cons_zero, List.set_cons_succ]
              refine take_in (i := 1) _ (some 61) (by kernel_rfl) (by kernel_rfl) (by kernel_rfl) (by kernel_rfl) (fun _ _ _ h => h) (by rfl) (fun o ho w hSw => by cases ho; (try dsimp only at hSw); (try go_split_ands); go_simp; (try with_reducible rfl)) hHeld ?_
              try simp only [Act.put, List.setIfInBounds_toArray, List.set_cons_zero, List.set_cons_succ]
              refine take_in (i := 2) _ (some 62) (by kernel_rfl) (by kernel_rfl) (by kernel_rfl) (by kernel_rfl) (fun _ _ _ h => h) (by rfl) (fun o ho w hSw => by cases ho; (try dsimp only at hSw); (try go_split_ands); go_simp; (try with_reducible rfl)) hHeld ?_
              try simp only [Act.put, List.setIfInBounds_toArray, List.set_cons_zero, List.set_cons_succ]
              refine take_in (i := 3) _ (some 63) (by kernel_rfl) (by kernel_rfl) (by kernel_rfl) (by kernel_rfl) (fun _ _ _ h => h) (by rfl) (fun o ho w hSw => by cases ho; (try dsimp only at hSw); (try go_split_ands); go_simp; (try with_reducible rfl)) hHeld ?_
              try simp only [Act.put, List.setIfInBounds_toArray, List.set_cons_zero, List.set_cons_succ]
              refine take_in (i := 4) _ (some 64) (by kernel_rfl) (by kernel_rfl) (by kernel_rfl) (by kernel_rfl) (fun _ _ _ h => h) (by rfl) (fun o ho w hSw => by cases ho; (try dsimp only at hSw); (try go_split_ands); go_simp; (try with_reducible rfl)) hHeld ?_
              try simp only [Act.put, List.setIfInBounds_toArray, List.set_cons_zero, List.set_cons_succ]
              refine take_in (i := 5) _ (some 65) (by kernel_rfl) (by kernel_rfl) (by kernel_rfl) (by kernel_rfl) (fun _ _ _ h => h) (by rfl) (fun o ho w hSw => by cases ho; (try dsimp only at hSw); (try go_split_ands); go_simp; (try with_reducible rfl)) hHeld ?_
              try simp only [Act.put, List.setIfInBounds_toArray, List.set_cons_zero, List.set_cons_succ]
              refine take_in (i := 6) _ (some 66) (by kernel_rfl) (by kernel_rfl) (by kernel_rfl) (by kernel_rfl) (fun _ _ _ h => h) (by rfl) (fun o ho w hSw => by cases ho; (try dsimp only at hSw); (try go_split_ands); go_simp; (try with_reducible rfl)) hHeld ?_
              try simp only [Act.put, List.setIfInBounds_toArray, List.set_cons_zero, List.set_cons_succ]
              refine take_in (i := 7) _ (some 67) (by kernel_rfl) (by kernel_rfl) (by kernel_rfl) (by kernel_rfl) (fun _ _ _ h => h) (by rfl) (fun o ho w hSw => by cases ho; (try dsimp only at hSw); (try go_split_ands); go_simp; (try with_reducible rfl)) hHeld ?_
              try simp only [Act.put, List.setIfInBounds_toArray, List.set_cons_zero, List.set_cons_succ]
              refine take_in (i := 8) _ (some 68) (by kernel_rfl) (by kernel_rfl) (by kernel_rfl) (by kernel_rfl) (fun _ _ _ h => h) (by rfl) (fun o ho w hSw => by cases ho; (try dsimp only at hSw); (try go_split_ands); go_simp; (try with_reducible rfl)) hHeld ?_
              try simp only [Act.put, List.setIfInBounds_toArray, List.set_cons_zero, List.set_cons_succ]
              refine take_in (i := 9) _ (some 69) (by kernel_rfl) (by kernel_rfl) (by kernel_rfl) (by kernel_rfl) (fun _ _ _ h => h) (by rfl) (fun o ho w hSw => by cases ho; (try dsimp only at hSw); (try go_split_ands); go_simp; (try with_reducible rfl)) hHeld ?_
              try simp only [Act.put, List.setIfInBounds_toArray, List.set_cons_zero, List.set_cons_succ]
              refine take_in (i := 10) _ (some 70) (by kernel_rfl) (by kernel_rfl) (by kernel_rfl) (by kernel_rfl) (fun _ _ _ h => h) (by rfl) (fun o ho w hSw => by cases ho; (try dsimp only at hSw); (try go_split_ands); go_simp; (try with_reducible rfl)) hHeld ?_
              try simp only [Act.put, List.setIfInBounds_toArray, List.set_cons_zero, List.set_cons_succ]
              refine wpAnyH_ready (rs := [11]) (by kernel_rfl) (by simp) ?_
              refine AllReadyH.cons (o := _) rfl (fun K hK => ?_) AllReadyH.nil
              go_simp
              go_at_call 95
              with_reducible refine HC.out.mono ?_
              rintro e wX ⟨rfl, hbX⟩
              have HBX := Lib.hid (below3 HBD.out hbX)
              have ZF := Lib.hid (hF.out.keep HBX.out)
              have ZB := Lib.hid (below3 hB7.out HBX.out)
              clear hbX
              refine hK.out _ _ (HS.out _ HBX.out) (fun hHeld => ?_)
              clear hK K
              try simp only [Act.put, List.setIfInBounds_toArray, List.set_cons_zero, List.set_cons_succ]
              refine take_in (i := 12) _ (some 72) (by kernel_rfl) (by kernel_rfl) (by kernel_rfl) (by kernel_rfl) (fun _ _ _ h => h) (by rfl) (fun o ho w hSw => by cases ho; (try dsimp only at hSw); (try go_split_ands); go_simp; (try with_reducible rfl)) hHeld ?_
              try simp only [Act.put, List.setIfInBounds_toArray, List.set_cons_zero, List.set_cons_succ]
              refine wpAnyH_done (by kernel_rfl) ?_ _
              refine NoPanic.normal ?_
              clear HC HS HBD HBX
              clear hws
              go_wp2
              go_roundw
              case rel => exact ⟨k + 1, by omega, by omega, by go_num, HN, ZF, ZB⟩
              case measure => simp [intOf]; omega
end Go.Proofs.YtplppbgkkfjknaaGreatDoor
