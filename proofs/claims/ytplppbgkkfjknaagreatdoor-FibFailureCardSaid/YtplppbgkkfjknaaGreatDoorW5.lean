/- FibFailure: the law's walk. 'routing/routinglaw52.FibFailure': for every input the call returns true, and the input reads afterwards as it read before. Conditions: the library's tables read as the program's text lays them (the card ties them). The row's step around the walk of the text FLaw5. -/
import Derived.Test.YtplppbgkkfjknaaGreatDoorG33
import Derived.Test.YtplppbgkkfjknaaGreatDoorG32
import Derived.Test.YtplppbgkkfjknaaGreatDoorG28
import Derived.Test.YtplppbgkkfjknaaGreatDoorG24
import Derived.Test.YtplppbgkkfjknaaGreatDoorCards
import Derived.Test.YtplppbgkkfjknaaGreatDoorTie
import Derived.Deep.DeepHandedRow
import Derived.Test.YtplppbgkkfjknaaGreatDoorG26
import Derived.Test.YtplppbgkkfjknaaGreatDoorG25
namespace Go.Proofs.YtplppbgkkfjknaaGreatDoor
open Go.RowKit

set_option linter.unusedVariables false
set_option linter.unusedSimpArgs false
theorem bls_nil (w : World) (B : Nat) : Bls w B none 0 0 [] := ⟨Cells.nil w B 1, rfl⟩
theorem keyP_self (p : PV) : keyP p.dat = keyP p := rfl
theorem forward_active2 {es : List Ent} {gs : List GE} {ls : List Int} {bs : List EV} {ns : List NH} {p : PD} (hg : GoodGs gs) (hp : p.ls = []) (hz : (forwardR es gs ls bs ns [] p).2.2 = 0) :
    ∃ (g : GE) (k : Nat) (p0 : PV), lookG es gs p.dst.toNat = some g ∧ g ∈ gs ∧ (k : Int) < g.act ∧ k < g.n ∧ g.ps[k]? = some p0 ∧ (forwardR es gs ls bs ns [] p).2.1 = p0.dat := by
  obtain ⟨g, k, h1, h2, h3, h4, h5⟩ := forward_active hg hp hz
  have hl := (hg g h2).2
  have hk : g.ps[k]? = some g.ps[k] := List.getElem?_eq_getElem (by omega)
  refine ⟨g, k, g.ps[k], h1, h2, h3, h4, hk, ?_⟩
  rw [h5, List.getD_eq_getElem?_getD, List.getElem?_map, hk]
  rfl
theorem w32_lt {a : Int} (h : W32 a) : 0 ≤ a ∧ a < 4294967296 := by unfold W32 at h; omega
theorem w64_le {a : Int} (h : W64 a) : -9223372036854775808 ≤ a ∧ a ≤ 9223372036854775807 := by unfold W64 at h; omega
set_option maxHeartbeats 1000000 in
theorem refDown_any (A : Option Addr) (n c B : Nat) (ds : List Bool) (i : Int) (w : World) (hx : Bls w B A n c ds) (hB : B ≤ w.heap.size) : Calls Tryz.prog 22 #[.slice A n c, .int .i64 i] w fun e w' => e = .returned (.bool (downB ds i)) ∧ w = w' := by
  have hl : ds.length = n := hx.2
  by_cases h0 : i < 0
  · have HF : Hid (downB ds i = false) := by show _ = _; unfold downB; rw [if_neg (by omega)]
    have d0 : decide (i ≥ 0) = false := decide_eq_false (by omega)
    have d0' : decide (0 ≤ i) = false := decide_eq_false (by omega)
    clear hx hl h0
    go_enter Tryz.func22, Tryz.ntmps22
    go_wp2
    go_ret
    exact ⟨by rw [HF.out]; rfl, rfl⟩
  obtain ⟨k, rfl⟩ : ∃ k : Nat, i = k := ⟨i.toNat, by omega⟩
  by_cases hk : k < n
  · obtain ⟨b, o, x, rfl, hb, hxk, c0⟩ := hx.get hk
    have hbw : b < w.heap.size := by omega
    have HF : Hid (downB ds k = x) := by
      show _ = _
      unfold downB
      rw [if_pos (by omega), Int.toNat_natCast, List.getD_eq_getElem?_getD, hxk]
      rfl
    clear hx hl h0 hxk
    go_enter Tryz.func22, Tryz.ntmps22
    go_wp2
    all_goals
      go_ret
      exact ⟨by rw [HF.out]; first | rfl | simp, rfl⟩
  · have HF : Hid (downB ds k = false) := by
      show _ = _
      unfold downB
      rw [if_pos (by omega), Int.toNat_natCast, List.getD_eq_getElem?_getD, List.getElem?_eq_none (by omega)]
      rfl
    clear hx hl h0
    go_enter Tryz.func22, Tryz.ntmps22
    go_wp2
    go_ret
    exact ⟨by rw [HF.out]; rfl, rfl⟩
set_option maxRecDepth 100000 in
set_option maxHeartbeats 16000000 in
theorem fibFailure_main (A dA : Option Addr) (n c dn dc : Nat) (src dst flow ttl : Int) (xs : List Int) (ds : List Bool) (v : Value) (w : World) (hx : FibIn w v) (hp : PkIn2 w A n c ⟨src, dst, flow, ttl, xs⟩) (hd : Bls w w.heap.size dA dn dc ds) (hdn : dn ≤ 140737488355328) (henv : Env w) :
    Calls Tryz.prog 6 #[v, .agg #[.int .u32 src, .int .u32 dst, .int .u32 flow, .int .i64 ttl, .slice A n c], .slice dA dn dc] w fun e w' => e = .returned (.bool true) ∧ Below w.heap.size w w' := by
  obtain ⟨tA, gA, lA, bA, nA, tn, tc, gn, gc, ln, lc, bn, bc, nn, nc, es, gs, ls, bs, ns, rfl, hf⟩ := hx
  obtain ⟨w1, hw1⟩ : ∃ w1, (w.alloc (.cells #[.slice tA tn tc, .slice gA gn gc, .slice lA ln lc, .slice bA bn bc, .slice nA nn nc] 35)).alloc (.cells #[.int .u32 src, .int .u32 dst, .int .u32 flow, .int .i64 ttl, .slice A n c] 54) = w1 := ⟨_, rfl⟩
  have HF1 : Hid (Blk w1 w.heap.size 35 [.slice tA tn tc, .slice gA gn gc, .slice lA ln lc, .slice bA bn bc, .slice nA nn nc]) := by show Blk _ _ _ _; rw [← hw1]; exact (Blk.new w _ _).keep (belowA _ _)
  have HK1 : Hid (Blk w1 (w.heap.size + 1) 54 [.int .u32 src, .int .u32 dst, .int .u32 flow, .int .i64 ttl, .slice A n c]) := by show Blk _ _ _ _; rw [← hw1]; exact Blk.new2 w _ _ _
  have HB1 : Hid (Below w.heap.size w w1) := by show Below _ _ _; rw [← hw1]; exact below3 (belowA _ _) (belowA _ _)
  have HXW : Hid (∀ W, Below w.heap.size w W → FibAt W w.heap.size tA gA lA bA nA tn tc gn gc ln lc bn bc nn nc es gs ls bs ns) := fun W h => hf.below h
  have HPW : Hid (∀ W, Below w.heap.size w W → Ints W w.heap.size .i64 A n c xs) := fun W h => hp.ls.below h
  have HDW : Hid (∀ W, Below w.heap.size w W → Bls W w.heap.size dA dn dc ds) := fun W h => Recs.below hd h
  have HLV : Hid (∀ W, Below w.heap.size w W → Calls Tryz.prog 9 #[] W fun e w' => e = .returned (.bool true) ∧ Below W.heap.size W w') := fun W h => lives52_any W (henv.below h)
  have HWX : Hid (∀ x ∈ xs, -9223372036854775808 ≤ x ∧ x ≤ 9223372036854775807) := fun x hx => w64_le (hp.wide x hx)
  have hsr : 0 ≤ src ∧ src < 4294967296 := w32_lt hp.src
  have hds : 0 ≤ dst ∧ dst < 4294967296 := w32_lt hp.dst
  have hfl : 0 ≤ flow ∧ flow < 4294967296 := w32_lt hp.flow
  have htt : -9223372036854775808 ≤ ttl ∧ ttl ≤ 9223372036854775807 := w64_le hp.ttl
  have HN := Lib.hid (And.intro hsr (And.intro hds (And.intro hfl htt)))
  have HC := Lib.hid (few_any tA gA lA bA nA tn tc gn gc ln lc bn bc nn nc w.heap.size es gs ls bs ns w1 (HXW.out _ HB1.out).g (HXW.out _ HB1.out).b HB1.out.size)
  have f0 := HF1.out.cell 0
  have f1 := HF1.out.cell 1
  have f2 := HF1.out.cell 2
  have f3 := HF1.out.cell 3
  have f4 := HF1.out.cell 4
  simp only [List.getElem?_cons_zero, List.getElem?_cons_succ] at f0 f1 f2 f3 f4
  have hk1 := HK1.out.lt
  have hl1 : w.heap.size < w1.heap.size := by omega
  clear hf henv hp hd hsr hds hfl htt
  go_enter Tryz.func6, Tryz.ntmps6
  go_wp2_with fail
  refine HC.out.mono ?_
  rintro e w2 ⟨b, rfl, hfew, hb2⟩
  have HB2 := Lib.hid (below3 HB1.out hb2)
  have HF2 := Lib.hid (HF1.out.keep hb2)
  have HK2 := Lib.hid (HK1.out.keep hb2)
  clear HC hb2 f0 f1 f2 f3 f4 hw1 hl1 hk1
  cases b with
  | false =>
    clear hfew
    have HL := Lib.hid (HLV.out w2 HB2.out)
    go_wp2_with fail
    refine HL.out.mono ?_
    rintro e wL ⟨rfl, hbL⟩
    have HBL := Lib.hid (below3 HB2.out hbL)
    clear hbL
    go_wp2
    go_ret
    exact ⟨rfl, HBL.out⟩
  | true =>
    have hsm := hfew rfl
    have HSR : Hid (∀ g ∈ gs, g.n ≤ 1000 ∧ Short g.ps) := fun g hg => by
      have h1 := hsm.gs g hg
      refine ⟨by have := h1.1; omega, fun p hp => ?_⟩
      have h2 := h1.2 p hp
      omega
    have HSR2 : Hid (∀ g ∈ gs, g.n ≤ 1000 ∧ ∀ q ∈ g.ps, q.ls.length ≤ 1000) := fun g hg => by
      have h1 := hsm.gs g hg
      refine ⟨by have := h1.1; omega, fun p hp => ?_⟩
      have h2 := h1.2 p hp
      have h3 := ((HXW.out _ HB2.out).g.2 g hg).even p hp
      omega
    have HCK := Lib.hid (refFibCheck_any tA gA lA bA nA tn tc gn gc ln lc bn bc nn nc w.heap.size es gs ls bs ns w2 (HXW.out _ HB2.out) HB2.out.size)
    obtain ⟨E, hE⟩ : ∃ E, fibErr es gs ls bs ns = E := ⟨_, rfl⟩
    rw [hE] at HCK
    have HE := Lib.hid hE
    clear hfew hsm hE
    have f0 := HF2.out.cell 0
    have f1 := HF2.out.cell 1
    have f2 := HF2.out.cell 2
    have f3 := HF2.out.cell 3
    have f4 := HF2.out.cell 4
    simp only [List.getElem?_cons_zero, List.getElem?_cons_succ] at f0 f1 f2 f3 f4
    have k4 := HK2.out.cell 4
    simp only [List.getElem?_cons_zero, List.getElem?_cons_succ] at k4
    have hk2 := HK2.out.lt
    have hl2 : w.heap.size < w2.heap.size := by omega
    go_wp2_with fail
    refine HCK.out.mono ?_
    rintro e w3 ⟨rfl, hb3⟩
    have HB3 := Lib.hid (below3 HB2.out hb3)
    have HF3 := Lib.hid (HF2.out.keep hb3)
    have HK3 := Lib.hid (HK2.out.keep hb3)
    clear hb3 HCK f0 f1 f2 f3 f4 hl2 hk2 k4
    by_cases hE0 : E = 0
    case neg =>
      have d1 : (E != 0) = true := by simp [hE0]
      clear hE0
      have HL := Lib.hid (HLV.out w3 HB3.out)
      go_wp2_with fail
      refine HL.out.mono ?_
      rintro e wL ⟨rfl, hbL⟩
      have HBL := Lib.hid (below3 HB3.out hbL)
      clear hbL
      go_wp2
      go_ret
      exact ⟨rfl, HBL.out⟩
    subst hE0
    have k4 := HK3.out.cell 4
    simp only [List.getElem?_cons_zero, List.getElem?_cons_succ] at k4
    have hk3 := HK3.out.lt
    have hl3 : w.heap.size < w3.heap.size := by omega
    by_cases hn20 : n ≤ 20
    case neg =>
      have d2 : decide ((n : Int) > 20) = true := decide_eq_true (by omega)
      have d2' : decide ((20 : Int) < (n : Int)) = true := decide_eq_true (by omega)
      have HL := Lib.hid (HLV.out w3 HB3.out)
      go_wp2_with fail
      refine HL.out.mono ?_
      rintro e wL ⟨rfl, hbL⟩
      have HBL := Lib.hid (below3 HB3.out hbL)
      clear hbL
      go_wp2
      go_ret
      exact ⟨rfl, HBL.out⟩
    have d2 : decide ((n : Int) > 20) = false := decide_eq_false (by omega)
    have d2' : decide ((20 : Int) < (n : Int)) = false := decide_eq_false (by omega)
    by_cases hd30 : dn ≤ 30
    case neg =>
      have d3 : decide ((dn : Int) > 30) = true := decide_eq_true (by omega)
      have d3' : decide ((30 : Int) < (dn : Int)) = true := decide_eq_true (by omega)
      have HL := Lib.hid (HLV.out w3 HB3.out)
      go_wp2_with fail
      refine HL.out.mono ?_
      rintro e wL ⟨rfl, hbL⟩
      have HBL := Lib.hid (below3 HB3.out hbL)
      clear hbL
      go_wp2
      go_ret
      exact ⟨rfl, HBL.out⟩
    have d3 : decide ((dn : Int) > 30) = false := decide_eq_false (by omega)
    have d3' : decide ((30 : Int) < (dn : Int)) = false := decide_eq_false (by omega)
    have hgg : GoodGs gs := goodGs_of HE.out fun g hg => ⟨((HXW.out _ HB3.out).g.2 g hg).even, ((HXW.out _ HB3.out).g.2 g hg).1.2⟩
    have HG := Lib.hid hgg
    obtain ⟨hn1, hn2, hn3, hn4⟩ := HN.out
    have hFT := (HXW.out _ HB3.out).tn
    have HFC := Lib.hid (forward_fib_any tA gA lA bA nA tn tc gn gc ln lc bn bc nn nc dA A dn dc n c w.heap.size es gs ls bs ns ⟨src, dst, flow, ttl, xs⟩ ds w3 (HXW.out _ HB3.out) (HDW.out _ HB3.out) (HPW.out _ HB3.out) HB3.out.size hdn HSR2.out (by omega) HWX.out hn1 hn2 hn3 hn4)
    have HUP : Hid ((forwardR es gs ls bs ns ds ⟨src, dst, flow, ttl, xs⟩).2.2 = 0 → downB ds (forwardR es gs ls bs ns ds ⟨src, dst, flow, ttl, xs⟩).2.1.iface = false) := fun hz => forward_up hgg hz
    obtain ⟨R, hR⟩ : ∃ R, forwardR es gs ls bs ns ds ⟨src, dst, flow, ttl, xs⟩ = R := ⟨_, rfl⟩
    rw [hR] at HFC HUP
    clear hR hgg hn1 hn2 hn3 hn4
    obtain ⟨⟨r0, r1, r2, r3, rls⟩, ⟨pi, pa, pr, pw, pA0, pn0, pc0, pls, pb⟩, en⟩ := R
    have HFC1 : Hid (Calls Tryz.prog 18 #[.agg #[.slice tA tn tc, .slice gA gn gc, .slice lA ln lc, .slice bA bn bc, .slice nA nn nc], .agg #[.int .u32 src, .int .u32 dst, .int .u32 flow, .int .i64 ttl, .slice A n c], .slice dA dn dc] w3 fun e w' => ∃ A6 n6 c6 A7 n7 c7, e = .returned (.tuple #[.agg #[.int .u32 r0, .int .u32 r1, .int .u32 r2, .int .i64 r3, .slice A6 n6 c6], .agg #[.int .i64 pi, .int .u32 pa, .int .u32 pr, .int .i64 pw, .slice A7 n7 c7, .int .i64 pb], .int .i64 en]) ∧ Ints w' w'.heap.size .i64 A6 n6 c6 rls ∧ Ints w' w'.heap.size .i64 A7 n7 c7 pls ∧ (∀ ad, A6 = some ad → w3.heap.size ≤ ad.block) ∧ (∀ ad, A7 = some ad → w3.heap.size ≤ ad.block) ∧ Below w3.heap.size w3 w') := HFC
    have HUP1 : Hid (en = 0 → downB ds pi = false) := HUP
    clear HFC HUP
    have f0 := HF3.out.cell 0
    have f1 := HF3.out.cell 1
    have f2 := HF3.out.cell 2
    have f3 := HF3.out.cell 3
    have f4 := HF3.out.cell 4
    simp only [List.getElem?_cons_zero, List.getElem?_cons_succ] at f0 f1 f2 f3 f4
    have k0 := HK3.out.cell 0
    have k1 := HK3.out.cell 1
    have k2 := HK3.out.cell 2
    have k3 := HK3.out.cell 3
    simp only [List.getElem?_cons_zero, List.getElem?_cons_succ] at k0 k1 k2 k3
    go_wp2_with fail
    refine HFC1.out.mono ?_
    rintro e w5 ⟨A6, n6, c6, A7, n7, c7, rfl, _, _, _, _, hb5⟩
    have HB5 := Lib.hid (below3 HB3.out hb5)
    have HF5 := Lib.hid (HF3.out.keep hb5)
    have HK5 := Lib.hid (HK3.out.keep hb5)
    clear hb5 HFC1 f0 f1 f2 f3 f4 k0 k1 k2 k3 k4 hl3 hk3 d2 d2' d3 d3'
    obtain ⟨HYE1, HYE2, HYK1, HYK2, HYBV⟩ := two_boxes w5 [.int .u32 r0, .int .u32 r1, .int .u32 r2, .int .i64 r3, .slice A6 n6 c6] [.int .i64 pi, .int .u32 pa, .int .u32 pr, .int .i64 pw, .slice A7 n7 c7, .int .i64 pb]
    obtain ⟨V, hV⟩ : ∃ V, (((w5.alloc (.cells #[.int .u32 0, .int .u32 0, .int .u32 0, .int .i64 0, .slice none 0 0] 54)).alloc (.cells #[.int .i64 0, .int .u32 0, .int .u32 0, .int .i64 0, .slice none 0 0, .int .i64 0] 57)).setRow w5.heap.size #[.int .u32 r0, .int .u32 r1, .int .u32 r2, .int .i64 r3, .slice A6 n6 c6]).setRow (w5.heap.size + 1) #[.int .i64 pi, .int .u32 pa, .int .u32 pr, .int .i64 pw, .slice A7 n7 c7, .int .i64 pb] = V := ⟨_, rfl⟩
    rw [hV] at HYK1 HYK2 HYBV
    have HB6 := Lib.hid (below3 HB5.out HYBV.out)
    have HF6 := Lib.hid (HF5.out.keep HYBV.out)
    have HK6 := Lib.hid (HK5.out.keep HYBV.out)
    have HDN := Lib.hid (refDown_any dA dn dc w.heap.size ds pi V (HDW.out _ HB6.out) HB6.out.size)
    have y0 := HYK2.out.cell 0
    have k0 := HK6.out.cell 0
    have k1 := HK6.out.cell 1
    have k2 := HK6.out.cell 2
    have k3 := HK6.out.cell 3
    have k4 := HK6.out.cell 4
    simp only [List.getElem?_cons_zero, List.getElem?_cons_succ] at y0 k0 k1 k2 k3 k4
    have hyl := HYK2.out.lt
    have hkl := HK6.out.lt
    obtain ⟨be, hbe⟩ : ∃ be, (en == 0) = be := ⟨_, rfl⟩
    have HUP2 : Hid (be = true → downB ds pi = false) := fun h => HUP1.out (by rw [← hbe] at h; simpa using h)
    clear HUP1
    cases be
    case' false =>
      go_upto_region 6 with (first | (refine wpList_store_blk (cs := [.int .u32 r0, .int .u32 r1, .int .u32 r2, .int .i64 r3, .slice A6 n6 c6]) rfl 54 _ _ rfl w5.heap.size rfl rfl HYE1.out (by kernel_rfl) rfl (by kernel_rfl) ?_) | (refine wpList_store_blk (cs := [.int .i64 pi, .int .u32 pa, .int .u32 pr, .int .i64 pw, .slice A7 n7 c7, .int .i64 pb]) rfl 57 _ _ rfl (w5.heap.size + 1) rfl rfl HYE2.out (by kernel_rfl) rfl (by kernel_rfl) ?_))
      try rw [hV]
    case' true =>
      rw [HUP2.out rfl] at HDN
      go_wp2_with (first | (refine wpList_store_blk (cs := [.int .u32 r0, .int .u32 r1, .int .u32 r2, .int .i64 r3, .slice A6 n6 c6]) rfl 54 _ _ rfl w5.heap.size rfl rfl HYE1.out (by kernel_rfl) rfl (by kernel_rfl) ?_) | (refine wpList_store_blk (cs := [.int .i64 pi, .int .u32 pa, .int .u32 pr, .int .i64 pw, .slice A7 n7 c7, .int .i64 pb]) rfl 57 _ _ rfl (w5.heap.size + 1) rfl rfl HYE2.out (by kernel_rfl) rfl (by kernel_rfl) ?_))
      try rw [hV]
      refine HDN.out.mono ?_
      rintro e wX ⟨rfl, rfl⟩
      go_upto_region 6 with fail
    all_goals
      clear HDN HUP2 hbe y0 hyl
      have HK6n := HK6.out.lt
      obtain ⟨wQ, hwQ⟩ : ∃ wQ, V.alloc (.cells #[.int .u32 src, .int .u32 dst, .int .u32 flow, .int .i64 ttl, .slice A n c] 54) = wQ := ⟨_, rfl⟩
      have HQ1 : Hid (Blk wQ V.heap.size 54 [.int .u32 src, .int .u32 dst, .int .u32 flow, .int .i64 ttl, .slice A n c]) := by show Blk _ _ _ _; rw [← hwQ]; exact Blk.new V _ _
      have hbQ : Below V.heap.size V wQ := by rw [← hwQ]; exact belowA _ _
      obtain ⟨wR, hwR⟩ : ∃ wR, wQ.setCell ⟨V.heap.size, 4, none⟩ (.slice none 0 0) = wR := ⟨_, rfl⟩
      have hsR : Save V.heap.size wQ wR := by rw [← hwR]; exact Save.set
      have HQ2 : Hid (Blk wR V.heap.size 54 [.int .u32 src, .int .u32 dst, .int .u32 flow, .int .i64 ttl, .slice none 0 0]) := by show Blk _ _ _ _; rw [← hwR]; exact HQ1.out.set 4 _
      have HBQ := Lib.hid (below3 HB6.out hbQ)
      have HBR : Hid (Below w.heap.size w wR) := by show Below _ _ _; exact HBQ.out.trans (hsR.below HB6.out.size HBQ.out.size)
      have HFR := Lib.hid ((HF6.out.keep hbQ).save hsR (by omega))
      have HKR := Lib.hid ((HK6.out.keep hbQ).save hsR (by omega))
      have q4 := HQ1.out.cell 4
      simp only [List.getElem?_cons_zero, List.getElem?_cons_succ] at q4
      have qz := HQ1.out.frozen 4
      have hql := HQ1.out.lt
      go_upto_region 7 with fail
      try rw [hwQ]
      clear k0 k1 k2 k3 k4
      go_upto_region 8 with fail
      try rw [hwR]
      clear q4 qz hql hbQ hsR hwQ hwR HQ1 HBQ
      obtain ⟨hn1, hn2, hn3, hn4⟩ := HN.out
      have HFC := Lib.hid (forward_fib_any tA gA lA bA nA tn tc gn gc ln lc bn bc nn nc none none 0 0 0 0 w.heap.size es gs ls bs ns ⟨src, dst, flow, ttl, []⟩ [] wR (HXW.out _ HBR.out) (bls_nil _ _) (ints_nil _ _) HBR.out.size (by omega) HSR2.out (by omega) (fun x hx => by cases hx) hn1 hn2 hn3 hn4)
      have HAC : Hid ((forwardR es gs ls bs ns [] ⟨src, dst, flow, ttl, []⟩).2.2 = 0 → ∃ (g : GE) (k : Nat) (p0 : PV), lookG es gs dst.toNat = some g ∧ g ∈ gs ∧ (k : Int) < g.act ∧ k < g.n ∧ g.ps[k]? = some p0 ∧ (forwardR es gs ls bs ns [] ⟨src, dst, flow, ttl, []⟩).2.1 = p0.dat) := forward_active2 (p := ⟨src, dst, flow, ttl, []⟩) HG.out (by with_reducible rfl)
      obtain ⟨R, hR⟩ : ∃ R, forwardR es gs ls bs ns [] ⟨src, dst, flow, ttl, []⟩ = R := ⟨_, rfl⟩
      rw [hR] at HFC HAC
      clear hR hn1 hn2 hn3 hn4
      obtain ⟨⟨s0, s1, s2, s3, sls⟩, ⟨qi, qa, qr, qw, qA0, qn0, qc0, qls, qb⟩, la⟩ := R
      have HFC2 : Hid (Calls Tryz.prog 18 #[.agg #[.slice tA tn tc, .slice gA gn gc, .slice lA ln lc, .slice bA bn bc, .slice nA nn nc], .agg #[.int .u32 src, .int .u32 dst, .int .u32 flow, .int .i64 ttl, .slice none 0 0], .slice none 0 0] wR fun e w' => ∃ A6 n6 c6 A7 n7 c7, e = .returned (.tuple #[.agg #[.int .u32 s0, .int .u32 s1, .int .u32 s2, .int .i64 s3, .slice A6 n6 c6], .agg #[.int .i64 qi, .int .u32 qa, .int .u32 qr, .int .i64 qw, .slice A7 n7 c7, .int .i64 qb], .int .i64 la]) ∧ Ints w' w'.heap.size .i64 A6 n6 c6 sls ∧ Ints w' w'.heap.size .i64 A7 n7 c7 qls ∧ (∀ ad, A6 = some ad → wR.heap.size ≤ ad.block) ∧ (∀ ad, A7 = some ad → wR.heap.size ≤ ad.block) ∧ Below wR.heap.size wR w') := HFC
      have HAC2 : Hid (la = 0 → ∃ (g : GE) (k : Nat) (p0 : PV), lookG es gs dst.toNat = some g ∧ g ∈ gs ∧ (k : Int) < g.act ∧ k < g.n ∧ g.ps[k]? = some p0 ∧ (⟨qi, qa, qr, qw, qA0, qn0, qc0, qls, qb⟩ : PV) = p0.dat) := HAC
      clear HFC HAC
      have f0 := HFR.out.cell 0
      have f1 := HFR.out.cell 1
      have f2 := HFR.out.cell 2
      have f3 := HFR.out.cell 3
      have f4 := HFR.out.cell 4
      simp only [List.getElem?_cons_zero, List.getElem?_cons_succ] at f0 f1 f2 f3 f4
      have q0 := HQ2.out.cell 0
      have q1 := HQ2.out.cell 1
      have q2 := HQ2.out.cell 2
      have q3 := HQ2.out.cell 3
      have q4 := HQ2.out.cell 4
      simp only [List.getElem?_cons_zero, List.getElem?_cons_succ] at q0 q1 q2 q3 q4
      have hql := HQ2.out.lt
      have hfl := HFR.out.lt
      go_wp2_with fail
      refine HFC2.out.mono ?_
      rintro e wS ⟨A8, n8, c8, A9, n9, c9, rfl, _, hI9, _, _, hbS⟩
      have HBS := Lib.hid (below3 HBR.out hbS)
      have HFS := Lib.hid (HFR.out.keep hbS)
      have HKS := Lib.hid (HKR.out.keep hbS)
      clear hbS HFC2 f0 f1 f2 f3 f4 q0 q1 q2 q3 q4 hql hfl
      obtain ⟨HZE1, HZE2, HZK1, HZK2, HZBV⟩ := two_boxes wS [.int .u32 s0, .int .u32 s1, .int .u32 s2, .int .i64 s3, .slice A8 n8 c8] [.int .i64 qi, .int .u32 qa, .int .u32 qr, .int .i64 qw, .slice A9 n9 c9, .int .i64 qb]
      obtain ⟨V2, hV2⟩ : ∃ V2, (((wS.alloc (.cells #[.int .u32 0, .int .u32 0, .int .u32 0, .int .i64 0, .slice none 0 0] 54)).alloc (.cells #[.int .i64 0, .int .u32 0, .int .u32 0, .int .i64 0, .slice none 0 0, .int .i64 0] 57)).setRow wS.heap.size #[.int .u32 s0, .int .u32 s1, .int .u32 s2, .int .i64 s3, .slice A8 n8 c8]).setRow (wS.heap.size + 1) #[.int .i64 qi, .int .u32 qa, .int .u32 qr, .int .i64 qw, .slice A9 n9 c9, .int .i64 qb] = V2 := ⟨_, rfl⟩
      rw [hV2] at HZK1 HZK2 HZBV
      have HBT := Lib.hid (below3 HBS.out HZBV.out)
      have HFT := Lib.hid (HFS.out.keep HZBV.out)
      have HKT := Lib.hid (HKS.out.keep HZBV.out)
      have HI9 : Hid (∀ W, Below V2.heap.size V2 W → Ints W V2.heap.size .i64 A9 n9 c9 qls) := fun W h => ((hI9.below HZBV.out).more HZBV.out.size).below h
      have hFB := HXW.out _ HBT.out
      have HLK := Lib.hid (lookup_fib_any tA gA lA bA nA tn tc gn gc ln lc bn bc nn nc w.heap.size es gs dst.toNat V2 hFB.t hFB.g HBT.out.size hFB.tn (by obtain ⟨_, h, _⟩ := HN.out; omega) HSR.out)
      rw [show ((dst.toNat : Nat) : Int) = dst from by obtain ⟨_, h, _⟩ := HN.out; omega] at HLK
      obtain ⟨X, hX⟩ : ∃ X, lookG es gs dst.toNat = X := ⟨_, rfl⟩
      rw [hX] at HLK HAC2
      clear hX hFB hI9
      have f0 := HFT.out.cell 0
      have f1 := HFT.out.cell 1
      have f2 := HFT.out.cell 2
      have f3 := HFT.out.cell 3
      have f4 := HFT.out.cell 4
      simp only [List.getElem?_cons_zero, List.getElem?_cons_succ] at f0 f1 f2 f3 f4
      have k1 := HKT.out.cell 1
      simp only [List.getElem?_cons_zero, List.getElem?_cons_succ] at k1
      have hkt := HKT.out.lt
      have hft := HFT.out.lt
      go_wp2_with (first | (refine wpList_store_blk (cs := [.int .u32 s0, .int .u32 s1, .int .u32 s2, .int .i64 s3, .slice A8 n8 c8]) rfl 54 _ _ rfl wS.heap.size rfl rfl HZE1.out (by kernel_rfl) rfl (by kernel_rfl) ?_) | (refine wpList_store_blk (cs := [.int .i64 qi, .int .u32 qa, .int .u32 qr, .int .i64 qw, .slice A9 n9 c9, .int .i64 qb]) rfl 57 _ _ rfl (wS.heap.size + 1) rfl rfl HZE2.out (by kernel_rfl) rfl (by kernel_rfl) ?_))
      try rw [hV2]
      refine HLK.out.mono ?_
      clear HZE1 HZE2 hV2
      cases X with
      | none =>
        rintro e w4 ⟨rfl, hb4⟩
        have HL0 : Hid (la ≠ 0) := fun h => by
          obtain ⟨g, k, p0, h1, _⟩ := HAC2.out h
          cases h1
        have d1 : (la != 0) = true := by simp [HL0.out]
        have HB4 := Lib.hid (below3 HBT.out hb4)
        obtain ⟨w5x, hw5⟩ : ∃ w5x, w4.alloc (.cells #[.int .i64 0, .slice none 0 0] 47) = w5x := ⟨_, rfl⟩
        have HE5 : Hid (Blk w5x w4.heap.size 47 [.int .i64 0, .slice none 0 0]) := by show Blk _ _ _ _; rw [← hw5]; exact Blk.new w4 _ _
        have hb5 : Below w4.heap.size w4 w5x := by rw [← hw5]; exact belowA _ _
        obtain ⟨w6, hw6⟩ : ∃ w6, w5x.setRow w4.heap.size #[.int .i64 0, .slice none 0 0] = w6 := ⟨_, rfl⟩
        have hsr : Save w4.heap.size w5x w6 := by rw [← hw6]; exact Save.row _ _ _
        have HB5x := Lib.hid (below3 HB4.out hb5)
        have HB6x : Hid (Below w.heap.size w w6) := by show Below _ _ _; exact HB5x.out.trans (hsr.below HB4.out.size HB5x.out.size)
        have HL := Lib.hid (HLV.out w6 HB6x.out)
        clear hb4 hb5 hsr HLK f0 f1 f2 f3 f4 k1
        go_wp2_with (refine wpList_store_blk rfl 47 _ _ rfl w4.heap.size rfl rfl HE5.out (by kernel_rfl) rfl (by kernel_rfl) ?_)
        try rw [hw6]
        refine HL.out.mono ?_
        rintro e wL ⟨rfl, hbL⟩
        have HBL := Lib.hid (below3 HB6x.out hbL)
        clear hbL
        go_wp2
        go_ret
        exact ⟨rfl, HBL.out⟩
      | some g =>
        rintro e w4 ⟨gA5, gc5, qs, rfl, hps, hqd, _, hb4⟩
        have HB4 := Lib.hid (below3 HBT.out hb4)
        obtain ⟨w6, hw6⟩ : ∃ w6, w4.alloc (.cells #[.int .i64 g.act, .slice gA5 g.n gc5] 47) = w6 := ⟨_, rfl⟩
        have HE6 : Hid (Blk w6 w4.heap.size 47 [.int .i64 g.act, .slice gA5 g.n gc5]) := by show Blk _ _ _ _; rw [← hw6]; exact Blk.new w4 _ _
        have hb6 : Below w4.heap.size w4 w6 := by rw [← hw6]; exact belowA _ _
        have HB6x := Lib.hid (below3 HB4.out hb6)
        have HT6 := Lib.hid (below3 hb4 hb6)
        have HPT6 := Lib.hid (HZK2.out.keep HT6.out)
        by_cases hla : la = 0
        case neg =>
          have d1 : (la != 0) = true := by simp [hla]
          have HL := Lib.hid (HLV.out w6 HB6x.out)
          clear hb4 hb6 HLK f0 f1 f2 f3 f4 k1 hps hqd hla
          go_wp2_with fail
          try rw [hw6]
          refine HL.out.mono ?_
          rintro e wL ⟨rfl, hbL⟩
          have HBL := Lib.hid (below3 HB6x.out hbL)
          clear hbL
          go_wp2
          go_ret
          exact ⟨rfl, HBL.out⟩
        obtain ⟨g', kk, p0, hg', hgm, hka, hkn, hp0, hq0⟩ := HAC2.out hla
        obtain rfl := Option.some.inj hg'
        subst hla
        have HPG : Hid (∀ W, Below w6.heap.size w6 W → Paths W w6.heap.size gA5 g.n gc5 qs) := fun W h => ((hps.below hb6).more hb6.size).below h
        have HI96 : Hid (∀ W, Below w6.heap.size w6 W → Ints W w6.heap.size .i64 A9 n9 c9 qls) := fun W h => (HI9.out W (HT6.out.trans (h.mono HT6.out.size))).more HT6.out.size
        have hls : qls.length ≤ 1000 := by
          have h1 := (HSR2.out g hgm).2 p0 (List.mem_of_getElem? hp0)
          have h2 : qls = p0.dat.ls := congrArg PV.ls hq0
          have h3 : p0.dat.ls = p0.ls := rfl
          rw [h2, h3]
          exact h1
        have HSP : Hid (∀ y, qs[kk]? = some y → sameP ⟨qi, qa, qr, qw, A9, n9, c9, qls, qb⟩ y = true) := fun y hy => by
          have h1 : (qs.map PV.dat)[kk]? = (g.ps.map PV.dat)[kk]? := by rw [hqd]
          rw [List.getElem?_map, List.getElem?_map, hy, hp0] at h1
          have h2 : y.dat = p0.dat := Option.some.inj h1
          unfold sameP
          refine decide_eq_true ?_
          have h3 : keyP y = keyP p0.dat := by rw [← keyP_self y, h2]
          rw [h3, ← hq0]
          rfl
        have HSHq : Hid (∀ y ∈ qs, y.ln ≤ 17592186044416) := fun y hy => by
          have h1 : y.dat ∈ qs.map PV.dat := List.mem_map_of_mem hy
          rw [hqd] at h1
          obtain ⟨p2, h5, h6⟩ := List.mem_map.1 h1
          have h7 := (HSR2.out g hgm).2 p2 h5
          have h8 := hps.even y hy
          have h10 : p2.ls = y.ls := by have h11 : p2.dat.ls = y.dat.ls := congrArg PV.ls h6; exact h11
          rw [h10] at h7
          omega
        have hn9 : qls.length = n9 := (HI96.out w6 (Below.refl _ _)).len
        have hact : g.act ≤ (g.n : Int) := (HG.out g hgm).1.a1
        have hgm1 : g.n ≤ 1000 := (HSR.out g hgm).1
        obtain ⟨ga, hga⟩ : ∃ ga, g.act = ga := ⟨_, rfl⟩
        obtain ⟨gm, hgmm⟩ : ∃ gm, g.n = gm := ⟨_, rfl⟩
        have HGN := Lib.hid hgmm
        rw [hga] at HE6 hka hact hw6 ⊢
        rw [hgmm] at HE6 hkn hact hgm1 HPG hw6 ⊢
        have dgn : decide (ga > (gm : Int)) = false := decide_eq_false (by omega)
        have dgn' : decide ((gm : Int) < ga) = false := decide_eq_false (by omega)
        have HI2 : Hid (∃ i : Nat, i ≤ kk ∧ (Value.int .i64 (0 : Nat)) = .int .i64 i ∧ Hid (Below w6.heap.size w6 w6)) := ⟨0, Nat.zero_le _, rfl, Lib.hid (Below.refl _ _)⟩
        have e0 := HE6.out.cell 0
        have e1 := HE6.out.cell 1
        simp only [List.getElem?_cons_zero, List.getElem?_cons_succ] at e0 e1
        have hle := HE6.out.lt
        clear hb4 hb6 HLK f0 f1 f2 f3 f4 k1 hps hqd hp0 hq0 hga hgmm hgm HAC2 hg'
        go_wp2
        go_loopw [84] (fun iv wr => ∃ i : Nat, i ≤ kk ∧ iv = .int .i64 i ∧ Hid (Below w6.heap.size w6 wr)) (fun iv _ => kk + 1 - (intOf iv).toNat)
        case atStart => exact HI2.out
        case round =>
          obtain ⟨i, hi, rfl, hBi⟩ := hrel
          clear HI2 e0 e1 hw6
          have HBI := Lib.hid (below3 HB6x.out hBi.out)
          have dlt : decide ((i : Int) < ga) = true := decide_eq_true (by omega)
          obtain ⟨wD, hwD⟩ : ∃ wD, wr.drew = wD := ⟨_, rfl⟩
          have hbD : Below wr.heap.size wr wD := by rw [← hwD]; exact (Below.refl _ _).drew
          have HBD := Lib.hid (below3 hBi.out hbD)
          have HBW := Lib.hid (below3 HB6x.out HBD.out)
          have him : i < gm := by omega
          have HYD := Lib.hid (HPT6.out.keep HBD.out)
          have hed := HE6.out.keep HBD.out
          obtain ⟨b4, o4, y, hyA, hyB, hyk, hyI, m0, m1, m2, m3, m4, m5⟩ := (HPG.out _ HBD.out).get him
          subst hyA
          have hyl := HSHq.out y (List.mem_of_getElem? hyk)
          have HC := Lib.hid (samePath52_any ⟨qi, qa, qr, qw, A9, n9, c9, qls, qb⟩ y w6.heap.size wD (HI96.out _ HBD.out) hyI HBD.out.size (by show n9 ≤ _; omega) hyl)
          have HTR : Hid (i = kk → sameP ⟨qi, qa, qr, qw, A9, n9, c9, qls, qb⟩ y = true) := fun h => HSP.out y (by rw [← h]; exact hyk)
          obtain ⟨sb, hsb⟩ : ∃ sb, sameP ⟨qi, qa, qr, qw, A9, n9, c9, qls, qb⟩ y = sb := ⟨_, rfl⟩
          rw [hsb] at HC HTR
          obtain ⟨yi, ya, yr, yw, yA, yn, yc, yl, yb⟩ := y
          dsimp only at m0 m1 m2 m3 m4 m5 HC
          have e1 : wD.cell? ⟨w4.heap.size, 1, none⟩ = some (.slice (some ⟨b4, o4, none⟩) gm gc5) := hed.cell 1
          have hb4w : b4 < wD.heap.size := by have := HBD.out.size; omega
          have HSD : Hid ((True ∧ Blk wD (wS.heap.size + 1) 57 [.int .i64 qi, .int .u32 qa, .int .u32 qr, .int .i64 qw, .slice A9 n9 c9, .int .i64 qb]) ∧ wD.cell? ⟨w4.heap.size, 1, none⟩ = some (.slice (some ⟨b4, o4, none⟩) gm gc5) ∧ (wD.cell? ⟨b4, o4 + i * 6, none⟩ = some (.int .i64 yi) ∧ wD.cell? ⟨b4, o4 + i * 6 + 1, none⟩ = some (.int .u32 ya) ∧ wD.cell? ⟨b4, o4 + i * 6 + 2, none⟩ = some (.int .u32 yr) ∧ wD.cell? ⟨b4, o4 + i * 6 + 3, none⟩ = some (.int .i64 yw) ∧ wD.cell? ⟨b4, o4 + i * 6 + 4, none⟩ = some (.slice yA yn yc) ∧ wD.cell? ⟨b4, o4 + i * 6 + 5, none⟩ = some (.int .i64 yb))) := ⟨⟨trivial, HYD.out⟩, e1, m0, m1, m2, m3, m4, m5⟩
          have HSW : Hid (∀ V, Below wD.heap.size wD V → ((True ∧ Blk V (wS.heap.size + 1) 57 [.int .i64 qi, .int .u32 qa, .int .u32 qr, .int .i64 qw, .slice A9 n9 c9, .int .i64 qb]) ∧ V.cell? ⟨w4.heap.size, 1, none⟩ = some (.slice (some ⟨b4, o4, none⟩) gm gc5) ∧ (V.cell? ⟨b4, o4 + i * 6, none⟩ = some (.int .i64 yi) ∧ V.cell? ⟨b4, o4 + i * 6 + 1, none⟩ = some (.int .u32 ya) ∧ V.cell? ⟨b4, o4 + i * 6 + 2, none⟩ = some (.int .u32 yr) ∧ V.cell? ⟨b4, o4 + i * 6 + 3, none⟩ = some (.int .i64 yw) ∧ V.cell? ⟨b4, o4 + i * 6 + 4, none⟩ = some (.slice yA yn yc) ∧ V.cell? ⟨b4, o4 + i * 6 + 5, none⟩ = some (.int .i64 yb)))) := fun V hV => ⟨⟨trivial, HYD.out.keep hV⟩, (hV.cell (p := ⟨w4.heap.size, _, none⟩) hed.lt).trans e1, (hV.cell (p := ⟨b4, _, none⟩) hb4w).trans m0, (hV.cell (p := ⟨b4, _, none⟩) hb4w).trans m1, (hV.cell (p := ⟨b4, _, none⟩) hb4w).trans m2, (hV.cell (p := ⟨b4, _, none⟩) hb4w).trans m3, (hV.cell (p := ⟨b4, _, none⟩) hb4w).trans m4, (hV.cell (p := ⟨b4, _, none⟩) hb4w).trans m5⟩
          clear hsb hyk hyI hyl hbD hed m0 m1 m2 m3 m4 m5 e1
          go_upto_region 17 with fail
          refine wp_region_noPanic ?_
          refine wp_region_held_drew (S := fun V => (True ∧ Blk V (wS.heap.size + 1) 57 [.int .i64 qi, .int .u32 qa, .int .u32 qr, .int .i64 qw, .slice A9 n9 c9, .int .i64 qb]) ∧ V.cell? ⟨w4.heap.size, 1, none⟩ = some (.slice (some ⟨b4, o4, none⟩) gm gc5) ∧ (V.cell? ⟨b4, o4 + i * 6, none⟩ = some (.int .i64 yi) ∧ V.cell? ⟨b4, o4 + i * 6 + 1, none⟩ = some (.int .u32 ya) ∧ V.cell? ⟨b4, o4 + i * 6 + 2, none⟩ = some (.int .u32 yr) ∧ V.cell? ⟨b4, o4 + i * 6 + 3, none⟩ = some (.int .i64 yw) ∧ V.cell? ⟨b4, o4 + i * 6 + 4, none⟩ = some (.slice yA yn yc) ∧ V.cell? ⟨b4, o4 + i * 6 + 5, none⟩ = some (.int .i64 yb))) (by kernel_rfl) (by rw [hwD]; exact HSD.out) (fun hHeld => ?_)
          rw [hwD] at hHeld ⊢
          clear hwD
          refine take_in (i := 0) _ (some 87) (by kernel_rfl) (by kernel_rfl) (by kernel_rfl) (by kernel_rfl) (fun _ _ _ h => h) (by rfl) (fun o ho w hSw => by cases ho; exact run_load_blk _ _ rfl _ rfl (hSw.1.2) _ Tryz.underlying57 rfl (by kernel_rfl)) hHeld ?_
          try simp only [Act.put, List.setIfInBounds_toArray, List.set_cons_zero, List.set_cons_succ]
          refine take_in (i := 1) _ (some 88) (by kernel_rfl) (by kernel_rfl) (by kernel_rfl) (by kernel_rfl) (fun _ _ _ h => h) (by rfl) (fun o ho w hSw => by cases ho; (try dsimp only at hSw); (try go_split_ands); go_simp; (try with_reducible rfl)) hHeld ?_
          try simp only [Act.put, List.setIfInBounds_toArray, List.set_cons_zero, List.set_cons_succ]
          refine take_in (i := 2) _ (some 89) (by kernel_rfl) (by kernel_rfl) (by kernel_rfl) (by kernel_rfl) (fun _ _ _ h => h) (by rfl) (fun o ho w hSw => by cases ho; (try dsimp only at hSw); (try go_split_ands); go_simp; (try with_reducible rfl)) hHeld ?_
          try simp only [Act.put, List.setIfInBounds_toArray, List.set_cons_zero, List.set_cons_succ]
          refine take_in (i := 3) _ (some 90) (by kernel_rfl) (by kernel_rfl) (by kernel_rfl) (by kernel_rfl) (fun _ _ _ h => h) (by rfl) (fun o ho w hSw => by cases ho; (try dsimp only at hSw); (try go_split_ands); go_simp; (try with_reducible rfl)) hHeld ?_
          try simp only [Act.put, List.setIfInBounds_toArray, List.set_cons_zero, List.set_cons_succ]
          refine take_in (i := 4) _ (some 91) (by kernel_rfl) (by kernel_rfl) (by kernel_rfl) (by kernel_rfl) (fun _ _ _ h => h) (by rfl) (fun o ho w hSw => by cases ho; (try dsimp only at hSw); (try go_split_ands); go_simp; (try with_reducible rfl)) hHeld ?_
          try simp only [Act.put, List.setIfInBounds_toArray, List.set_cons_zero, List.set_cons_succ]
          refine take_in (i := 5) _ (some 92) (by kernel_rfl) (by kernel_rfl) (by kernel_rfl) (by kernel_rfl) (fun _ _ _ h => h) (by rfl) (fun o ho w hSw => by cases ho; (try dsimp only at hSw); (try go_split_ands); go_simp; (try with_reducible rfl)) hHeld ?_
          try simp only [Act.put, List.setIfInBounds_toArray, List.set_cons_zero, List.set_cons_succ]
          refine wpAnyH_ready (rs := [6]) (by kernel_rfl) (by simp) ?_
          refine AllReadyH.cons (o := _) rfl (fun K hK => ?_) AllReadyH.nil
          go_simp
          go_at_call 21
          with_reducible refine HC.out.mono ?_
          rintro e w7 ⟨rfl, hb7⟩
          have HB7 := Lib.hid (below3 HBD.out hb7)
          have HS7 := Lib.hid (HSW.out _ hb7)
          have HBW7 := Lib.hid (below3 HBW.out hb7)
          clear hb7
          refine hK.out _ _ HS7.out (fun hHeld => ?_)
          clear hK K
          try simp only [Act.put, List.setIfInBounds_toArray, List.set_cons_zero, List.set_cons_succ]
          refine wpAnyH_done (by kernel_rfl) ?_ _
          refine NoPanic.normal ?_
          clear HSD HSW HS7 HC
          cases sb with
          | true =>
            have HL := Lib.hid (HLV.out w7 HBW7.out)
            go_wp2_with fail
            refine HL.out.mono ?_
            rintro e wL ⟨rfl, hbL⟩
            have HBL := Lib.hid (below3 HBW7.out hbL)
            clear hbL
            go_wp2
            go_ret
            exact ⟨rfl, HBL.out⟩
          | false =>
            have hne : i ≠ kk := fun h => by
              have := HTR.out h
              cases this
            go_wp2
            go_roundw
            case rel => exact ⟨i + 1, by omega, by go_num, HB7⟩
            case measure => simp [intOf]; omega
theorem fibFailure_walk (v0 v1 v2 : Value) (w : World) (hx : FibIn w v0) (hp : PacketIn2 w v1) (hd : FlagsIn w v2) (henv : Env w) :
    Calls Tryz.prog 6 #[v0, v1, v2] w fun e w' => e = .returned (.bool true) ∧ Below w.heap.size w w' := by
  obtain ⟨A, n, c, ⟨src, dst, flow, ttl, xs⟩, rfl, hp⟩ := hp
  obtain ⟨dA, dn, dc, ds, rfl, hd, hdn⟩ := hd
  exact fibFailure_main A dA n c dn dc src dst flow ttl xs ds v0 w hx hp hd hdn henv
end Go.Proofs.YtplppbgkkfjknaaGreatDoor
namespace Go.Proofs.YtplppbgkkfjknaaGreatDoor.fibFailure
open Go.ChangeShapes Go.WideShapes Go.ChangeAt Go.RowKit
open Go.ChangeMaps (open_string shut_string)
set_option linter.unusedVariables false

theorem reads (os : Os) {H : Type} (enc : TypeId × Value → H) : ∃ places, DataW.whole enc Tryz.prog ((laidWorld os).forCall (fun _ _ => 0) ⟨#[], #[.agg #[.slice none 0 0, .slice none 0 0, .slice none 0 0, .slice none 0 0, .slice none 0 0], .agg #[.int .u32 0, .int .u32 0, .int .u32 0, .int .i64 0, .slice none 0 0], .slice none 0 0], []⟩).memory Tryz.f6.params.toList Rows.fibFailureSpec.vars false (#[.agg #[.slice none 0 0, .slice none 0 0, .slice none 0 0, .slice none 0 0, .slice none 0 0], .agg #[.int .u32 0, .int .u32 0, .int .u32 0, .int .i64 0, .slice none 0 0], .slice none 0 0] : Array Value).toList 8 = some ([.agg [.nil, .nil, .nil, .nil, .nil], .agg [.lit (.int .u32 0), .lit (.int .u32 0), .lit (.int .u32 0), .lit (.int .i64 0), .nil], .nil], [], places) :=
  ⟨[], by kernel_rfl⟩
set_option maxRecDepth 100000 in
theorem lifted (os : Os) (started : os.Started) (H : Type) (enc : TypeId × Value → H) (F : Stop.Interp) :
    ReturnsInHanded {} Tryz.checked os 6 .any ((OpenSpec.ofChange Rows.fibFailureSpec).preRow enc Tryz.prog Tryz.f6 Rows.fibFailureRow.domain false Rows.fibFailureRow.laid) (((OpenSpec.ofChange Rows.fibFailureSpec).at F).post enc Tryz.prog Tryz.f6 false true false false) := by
  obtain ⟨places, hx⟩ := reads os enc
  refine returnsInHanded_of_row (C := Tryz.checked) (s := (OpenSpec.ofChange Rows.fibFailureSpec)) own started (by kernel_rfl) Tryz.func6
    (witness_row_at (enc := enc) (C := Tryz.checked) false (laidWorld os) #[.agg #[.slice none 0 0, .slice none 0 0, .slice none 0 0, .slice none 0 0, .slice none 0 0], .agg #[.int .u32 0, .int .u32 0, .int .u32 0, .int .i64 0, .slice none 0 0], .slice none 0 0] rfl (by kernel_rfl) (by kernel_rfl) (by kernel_rfl)
      (OpenSpec.preRow_of_cond 8 hx (by kernel_rfl) (fun k hk => by cases hk) (by kernel_rfl) (laid_met os _))) ?_
  intro W base args ds gs before hval0 hW hcnd hcond hsz0 hL0 hsh _
  have hval : ∀ (j : Nat) t v, Tryz.f6.params[j]? = some t → args[j]? = some v → Value.okWide Tryz.prog W .any base t v := hval0
  have hsz : (DataW.weightsEach Tryz.prog (Tryz.f6.params.toList ++ Rows.fibFailureSpec.plain.varTypes Tryz.prog) (ds ++ gs)).all (· ≤ reachBytes) = true := hsz0
  have henv : Env W := env_of hL0 hsh
  have hW' := hW
  obtain ⟨p, q, hA0, hV, rfl, hfz, hnd⟩ := hW
  have hA : DataW.TrodAll enc Tryz.prog W 0 (fun _ => true) true Tryz.f6.params.toList args.toList ds p := hA0
  rw [Tryz.params6] at hA hval hsz
  obtain ⟨v0, vs0, d0, ds0, p0, q0, hargs, rfl, rfl, h0, rR0⟩ := trodAll_cons hA
  obtain ⟨v1, vs1, d1, ds1, p1, q1, rfl, rfl, rfl, h1, rR1⟩ := trodAll_cons rR0
  obtain ⟨v2, vs2, d2, ds2, p2, q2, rfl, rfl, rfl, h2, rR2⟩ := trodAll_cons rR1
  obtain ⟨rfl, rfl, rfl⟩ := trodAll_nil rR2
  obtain rfl : args = #[v0, v1, v2] := by cases args; simp_all
  obtain ⟨rfl, rfl⟩ := trodVars_none hV
  have k0 := h0
  have lt0 : ∀ x ∈ p0, x.block < W.heap.size := by obtain ⟨m, hm⟩ := k0; exact DataW.trod_lt m _ _ _ hm
  have X0 := open_fib (hval 0 35 v0 rfl rfl) (Arg.of h0 hsz (j := 0) rfl rfl)
  have k1 := h1
  have lt1 : ∀ x ∈ p1, x.block < W.heap.size := by obtain ⟨m, hm⟩ := k1; exact DataW.trod_lt m _ _ _ hm
  have X1 := open_packet2 (hval 1 54 v1 rfl rfl) (Arg.of h1 hsz (j := 1) rfl rfl)
  have k2 := h2
  have lt2 : ∀ x ∈ p2, x.block < W.heap.size := by obtain ⟨m, hm⟩ := k2; exact DataW.trod_lt m _ _ _ hm
  have X2 := open_flags (hval 2 55 v2 rfl rfl) (Arg.of h2 hsz (j := 2) rfl rfl)
  clear hA0 hval0 hsz0
  refine (fibFailure_walk v0 v1 v2 W X0 X1 X2  henv).mono fun e W' ⟨he, bel⟩ => ?_
  subst he
  exact ⟨_, rfl, _, _, _, [], _, [], hW', trodAll_mk1 (shut_bool Tryz.underlying4 _), (trodAll_cons_mk (Below.trod laidOut (by kernel_rfl) (of_decide_eq_true (by kernel_rfl)) k0 bel lt0) (trodAll_cons_mk (Below.trod laidOut (by kernel_rfl) (of_decide_eq_true (by kernel_rfl)) k1 bel lt1) (trodAll_cons_mk (Below.trod laidOut (by kernel_rfl) (of_decide_eq_true (by kernel_rfl)) k2 bel lt2) trodAll_mk0))), rfl, bel.frame _, fun h => by cases h⟩

theorem said : Rows.FibFailureSaid :=
  OpenClaim.holds_of_cond 6 Tryz.f6 rfl rfl rfl rfl rfl rfl rfl ⟨rfl, rfl, rfl, rfl, rfl⟩ rfl rfl rfl rfl rfl (by kernel_rfl) Tryz.func6 (by kernel_rfl)
    (of_decide_eq_true (by kernel_rfl)) (by unfold Func.isWrapper; first | (rw [if_pos (by decide +kernel)]; kernel_rfl) | (rw [if_neg (by decide +kernel)]; exact ⟨rfl, rfl⟩))
    (fun os started H enc _ F => by rw [OpenClaim.pre_eq_preRow]; exact lifted os started H enc F)
theorem plain (f : FuncId) (fn : Func) (hf : Tryz.pinned.checked.prog.funcNamed "routing/routinglaw52.FibFailure" = some f) (hfn : Tryz.pinned.checked.prog.funcs[f]? = some fn) :
    false = Tryz.pinned.checked.prog.looks [] ∧ ∀ (j : Nat) t, fn.params[j]? = some t → Tryz.pinned.checked.prog.wantsStandIn t = false := by
  obtain rfl : f = 6 := Option.some.inj ((show Tryz.prog.funcNamed "routing/routinglaw52.FibFailure" = some 6 by kernel_rfl).symm.trans hf) |>.symm
  obtain rfl : fn = Tryz.f6 := (Option.some.inj (Tryz.func6.symm.trans hfn)).symm
  refine ⟨by kernel_rfl, fun j t ht => ?_⟩
  rw [Tryz.params6] at ht
  have hm : t ∈ [35, 54, 55] := by simpa using Array.mem_of_getElem? ht
  have hall : ([35, 54, 55].all fun u => !Tryz.prog.wantsStandIn u) = true := by kernel_rfl
  exact (show Tryz.prog.wantsStandIn t = false by simpa using List.all_eq_true.1 hall t hm)
theorem card : Rows.FibFailureCardSaid :=
  Claim7.holds_tied_plain_at .later [] _ _ _ _ said (fun _ h => by cases h) (by kernel_rfl) (fun _ h => by cases h) fibFailure_row_tie rfl ⟨rfl, rfl⟩ (by kernel_rfl) rfl plain (by kernel_rfl)
#print axioms card
end Go.Proofs.YtplppbgkkfjknaaGreatDoor.fibFailure
