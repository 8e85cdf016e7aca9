/- FibTable: the law's walk. 'routing/routinglaw52.FibTable': for every input the call returns true, and the input reads afterwards as it read before. Conditions: the library's tables read as the program's text lays them (the card ties them). The row's step around the walk of the text FLaw3. -/
import Derived.Test.YtplppbgkkfjknaaDoorG30
import Derived.Test.YtplppbgkkfjknaaDoorCards
import Derived.Test.YtplppbgkkfjknaaDoorTie
import Derived.Deep.DeepHandedRow
import Derived.Test.YtplppbgkkfjknaaDoorG26
import Derived.Test.YtplppbgkkfjknaaDoorG25
namespace Go.Proofs.YtplppbgkkfjknaaDoor
open Go.RowKit

set_option linter.unusedVariables false
set_option linter.unusedSimpArgs false
theorem xh_cells {w : World} {B n c : Nat} {A : Option Addr} {hs : List XH} (h : XHops w B A n c hs) {j : Nat} (hj : j < n) :
    ∃ b o x, A = some ⟨b, o, none⟩ ∧ b < B ∧ hs[j]? = some x ∧ w.cell? ⟨b, o + j * 6, none⟩ = some (.int .u32 x.addr) ∧ w.cell? ⟨b, o + j * 6 + 1, none⟩ = some (.int .i64 x.iface) ∧ w.cell? ⟨b, o + j * 6 + 2, none⟩ = some (.int .u32 x.router) ∧ w.cell? ⟨b, o + j * 6 + 3, none⟩ = some (.int .i64 x.weight) ∧ w.cell? ⟨b, o + j * 6 + 4, none⟩ = some (.int .u32 x.va) ∧ w.cell? ⟨b, o + j * 6 + 5, none⟩ = some (.int .i64 x.vl) := by
  obtain ⟨b, o, x, hA, hb, he, hc⟩ := Recs.get XH.vals_len h hj
  exact ⟨b, o, x, hA, hb, he, hc 0 (by omega), hc 1 (by omega), hc 2 (by omega), hc 3 (by omega), hc 4 (by omega), hc 5 (by omega)⟩
def Tb1 (w4 : World) (n : Nat) (P : List (Nat × Int)) (a : Nat) (bv iv : Value) (W : World) : Prop :=
  ∃ k : Nat, k ≤ n ∧ bv = .int .i64 (bestTo P a k) ∧ iv = .int .i64 (k : Nat) ∧ Hid (Below w4.heap.size w4 W)
set_option maxRecDepth 100000 in
set_option maxHeartbeats 8000000 in
theorem fibTable_main (v : Value) (a : Nat) (w : World) (ha : a < 4294967296) (hx : PlanIn w v) (henv : Env w) : Calls Tryd.prog 4 #[v, .int .u32 a] w fun e w' => e = .returned (.bool true) ∧ Below w.heap.size w w' := by
  obtain ⟨rA, lA, kA, bA, oA, nA, rn, rc, ln, lc, kn, kc, bn, bc, on, oc, nn, nc, rs, ls, ks, bs, os, ns, rfl, hf⟩ := hx
  obtain ⟨w1, hw1⟩ : ∃ w1, w.alloc (.cells #[.slice rA rn rc, .slice lA ln lc, .slice kA kn kc, .slice bA bn bc, .slice oA on oc, .slice nA nn nc] 37) = w1 := ⟨_, rfl⟩
  have HF1 : Hid (Blk w1 w.heap.size 37 [.slice rA rn rc, .slice lA ln lc, .slice kA kn kc, .slice bA bn bc, .slice oA on oc, .slice nA nn nc]) := by show Blk _ _ _ _; rw [← hw1]; exact Blk.new w _ _
  have HB1 : Hid (Below w.heap.size w w1) := by show Below _ _ _; rw [← hw1]; exact belowA _ _
  have HXW : Hid (∀ W, Below w.heap.size w W → PlanAt W w.heap.size rA lA kA bA oA nA rn rc ln lc kn kc bn bc on oc nn nc rs ls ks bs os ns) := fun W h => hf.below h
  have HEW : Hid (∀ W, Below w.heap.size w W → Env W) := fun W h => henv.below h
  have HLV : Hid (∀ W, Below w.heap.size w W → Calls Tryd.prog 7 #[] W fun e w' => e = .returned (.bool true) ∧ Below W.heap.size W w') := fun W h => lives52_any W (henv.below h)
  have HC := Lib.hid (small_any rA lA kA bA oA nA rn rc ln lc kn kc bn bc on oc nn nc w.heap.size rs ls ks bs os ns w1 (HXW.out _ HB1.out) HB1.out.size)
  have f0 := HF1.out.cell 0
  have f1 := HF1.out.cell 1
  have f2 := HF1.out.cell 2
  have f3 := HF1.out.cell 3
  have f4 := HF1.out.cell 4
  have f5 := HF1.out.cell 5
  simp only [List.getElem?_cons_zero, List.getElem?_cons_succ] at f0 f1 f2 f3 f4 f5
  have hl1 := HF1.out.lt
  clear hf henv
  go_enter Tryd.func4, Tryd.ntmps4
  go_wp2_with fail
  refine HC.out.mono ?_
  rintro e w2 ⟨b, rfl, hsm, hb2⟩
  have HB2 := Lib.hid (below3 HB1.out hb2)
  have HF2 := Lib.hid (HF1.out.keep hb2)
  clear HC hb2 f0 f1 f2 f3 f4 f5 hw1
  cases b with
  | false =>
    have HL := Lib.hid (HLV.out w2 HB2.out)
    go_wp2_with fail
    refine HL.out.mono ?_
    rintro e w3 ⟨rfl, hb3⟩
    have HB3 := Lib.hid (below3 HB2.out hb3)
    clear hb3
    go_wp2
    go_ret
    exact ⟨rfl, HB3.out⟩
  | true =>
    have hS := hsm rfl
    have HC2 := Lib.hid (build52_any rA lA kA bA oA nA rn rc ln lc kn kc bn bc on oc nn nc w.heap.size rs ls ks bs os ns w2 (HXW.out _ HB2.out) HB2.out.size hS (HEW.out _ HB2.out))
    have hrl : rs.length = rn := (HXW.out _ HB2.out).r.1.2
    have HT : Hid (∀ (gs : List GE) (bs2 : List EV), gs.map GE.dat = (buildS ks os rs).1 → fibErr (buildS ks os rs).2 gs ls bs2 ns = 0 → (buildS ks os rs).2.length = rs.length ∧ ((bestTo (rs.map preR) a rs.length = -1 ∧ lookG (buildS ks os rs).2 gs a = none) ∨ ∃ (i : Nat) (r : RT) (g : GE), bestTo (rs.map preR) a rs.length = i ∧ i < rs.length ∧ rs[i]? = some r ∧ lookG (buildS ks os rs).2 gs a = some g ∧ g ∈ gs ∧ GrpOf r g)) := fun gs bs2 h1 h2 => tab_law h1 h2 (fun r hr => ((HXW.out _ HB2.out).r.2 r hr).1) ha
    have f0 := HF2.out.cell 0
    have f1 := HF2.out.cell 1
    have f2 := HF2.out.cell 2
    have f3 := HF2.out.cell 3
    have f4 := HF2.out.cell 4
    have f5 := HF2.out.cell 5
    simp only [List.getElem?_cons_zero, List.getElem?_cons_succ] at f0 f1 f2 f3 f4 f5
    have hl2 := HF2.out.lt
    have HSB : Hid (∀ gs : List GE, gs.map GE.dat = (buildS ks os rs).1 → ∀ g ∈ gs, ∀ p ∈ g.ps, p.ls.length ≤ 1) := fun gs hg => built_short (HXW.out _ HB2.out).wide (fun r hr => by
      have h1 := ((HXW.out _ HB2.out).r.2 r hr).2.2.2
      have h2 := hS.rs r hr
      omega) hg
    obtain ⟨Q, hQ⟩ : ∃ Q, buildS ks os rs = Q := ⟨_, rfl⟩
    rw [hQ] at HC2 HT HSB
    clear hsm hS hQ
    go_wp2_with fail
    refine Calls.mono HC2.out ?_
    rintro e w3 ⟨hb3, hor⟩
    have HB3 := Lib.hid (below3 HB2.out hb3)
    have hs3 := hb3.size
    have hcs : (∃ R, R ≠ 0 ∧ e = .returned (.tuple #[.agg #[.slice none 0 0, .slice none 0 0, .slice none 0 0, .slice none 0 0, .slice none 0 0], .int .i64 R])) ∨ (∃ gs bs2, gs.map GE.dat = Q.1 ∧ ∃ tA gA lA2 bA2 nA2 tc gc lc2 bc2 nc2, e = .returned (.tuple #[.agg #[.slice tA rn tc, .slice gA gs.length gc, .slice lA2 ln lc2, .slice bA2 bn bc2, .slice nA2 nn nc2], .int .i64 0]) ∧
        FibAt w3 w3.heap.size tA gA lA2 bA2 nA2 rn tc gs.length gc ln lc2 bn bc2 nn nc2 Q.2 gs ls bs2 ns ∧ (∀ g ∈ gs, g.n ≤ 1000) ∧ fibErr Q.2 gs ls bs2 ns = 0) := by
      rcases hor with ⟨h1, h2⟩ | ⟨_, gs, bs2, hg, _, _, _, hor⟩
      · exact .inl ⟨_, h1, h2⟩
      · rcases hor with ⟨h1, h2⟩ | ⟨hz0, h⟩
        · exact .inl ⟨_, h1, h2⟩
        · obtain ⟨x1, x2, x3, x4, x5, x6, x7, x8, x9, x10, h3, h4, h5⟩ := h
          exact .inr ⟨gs, bs2, hg, x1, x2, x3, x4, x5, x6, x7, x8, x9, x10, h3, h4, h5, hz0⟩
    have hb3' := hb3
    clear HC2 hb3 f0 f1 f2 f3 f4 f5 hor
    rcases hcs with ⟨R, hR, rfl⟩ | ⟨gs, bs2, hg, tA, gA, lA2, bA2, nA2, tc, gc, lc2, bc2, nc2, rfl, hfa, hg3, hz0⟩
    · have d1 : (R != 0) = true := by simp [hR]
      clear hR
      obtain ⟨w4, hw4⟩ : ∃ w4, w3.alloc (.cells #[.slice none 0 0, .slice none 0 0, .slice none 0 0, .slice none 0 0, .slice none 0 0] 28) = w4 := ⟨_, rfl⟩
      have hb4 : Below w3.heap.size w3 w4 := by rw [← hw4]; exact belowA _ _
      have HE4 : Hid (Blk w4 w3.heap.size 28 [.slice none 0 0, .slice none 0 0, .slice none 0 0, .slice none 0 0, .slice none 0 0]) := by show Blk _ _ _ _; rw [← hw4]; exact Blk.new w3 _ _
      obtain ⟨w5, hw5⟩ : ∃ w5, w4.setRow w3.heap.size #[.slice none 0 0, .slice none 0 0, .slice none 0 0, .slice none 0 0, .slice none 0 0] = w5 := ⟨_, rfl⟩
      have hsr : Save w3.heap.size w4 w5 := by rw [← hw5]; exact Save.row _ _ _
      have HF5 : Hid (Blk w5 w3.heap.size 28 [.slice none 0 0, .slice none 0 0, .slice none 0 0, .slice none 0 0, .slice none 0 0]) := by show Blk _ _ _ _; rw [← hw5]; exact HE4.out.row _
      have HB4 := below3 HB3.out hb4
      have HB5 := Lib.hid (HB4.trans (hsr.below (by have := HB3.out.size; omega) HB4.size))
      have HL := Lib.hid (HLV.out w5 HB5.out)
      have z1 := HF5.out.cell 0
      simp only [List.getElem?_cons_zero, List.getElem?_cons_succ] at z1
      have hl5 := HF5.out.lt
      clear hb4 HB4 hsr
      go_upto_region 5 with (refine wpList_store_blk rfl 28 _ _ rfl w3.heap.size rfl rfl HE4.out (by kernel_rfl) rfl (by kernel_rfl) ?_)
      try rw [hw5]
      go_wp2_with fail
      refine HL.out.mono ?_
      rintro e w6 ⟨rfl, hb6⟩
      have HB6 := Lib.hid (below3 HB5.out hb6)
      clear hb6 HL
      go_wp2
      go_ret
      exact ⟨rfl, HB6.out⟩
    obtain ⟨gn, hgn⟩ : ∃ gn, gs.length = gn := ⟨_, rfl⟩
    rw [hgn] at hfa ⊢
    obtain ⟨w4, hw4⟩ : ∃ w4, w3.alloc (.cells #[.slice tA rn tc, .slice gA gn gc, .slice lA2 ln lc2, .slice bA2 bn bc2, .slice nA2 nn nc2] 28) = w4 := ⟨_, rfl⟩
    have hb4 : Below w3.heap.size w3 w4 := by rw [← hw4]; exact belowA _ _
    have HF4 : Hid (Blk w4 w3.heap.size 28 [.slice tA rn tc, .slice gA gn gc, .slice lA2 ln lc2, .slice bA2 bn bc2, .slice nA2 nn nc2]) := by show Blk _ _ _ _; rw [← hw4]; exact Blk.new w3 _ _
    have HB4 := Lib.hid (below3 HB3.out hb4)
    have HP4 := Lib.hid (HF2.out.keep (below3 hb3' hb4))
    have HFW : Hid (∀ W, Below w4.heap.size w4 W → FibAt W w4.heap.size tA gA lA2 bA2 nA2 rn tc gn gc ln lc2 bn bc2 nn nc2 Q.2 gs ls bs2 ns) := fun W h => ((hfa.below hb4).more hb4.size).below h
    have HSH := Lib.hid (HSB.out gs hg)
    have HTT := Lib.hid (HT.out gs bs2 hg hz0).2
    have HG3 := Lib.hid hg3
    have HZ0 := Lib.hid hz0
    have hrnn := hfa.tn
    obtain ⟨P, hP⟩ : ∃ P, rs.map preR = P := ⟨_, rfl⟩
    rw [hP, hrl] at HTT
    have HPR : Hid (∀ i x, rs[i]? = some x → preAt P i = (x.a, x.l)) := fun i x h => by
      rw [← hP]
      unfold preAt
      rw [List.getElem?_map, h]
      rfl
    have q0 := HP4.out.cell 0
    simp only [List.getElem?_cons_zero, List.getElem?_cons_succ] at q0
    have hlp4 := HP4.out.lt
    have hl4 := HF4.out.lt
    have HI0 : Hid (Tb1 w4 rn P a (.int .i64 (-1)) (.int .i64 (0 : Nat)) w4) := ⟨0, Nat.zero_le _, rfl, rfl, Lib.hid (Below.refl _ _)⟩
    clear hfa hb4 hg hgn hg3 hz0 hP HT HSB
    go_wp2
    go_loopw [7, 34] (fun bv iv wr => Tb1 w4 rn P a bv iv wr) (fun _ iv _ => rn - (intOf iv).toNat)
    case atStart => exact HI0.out
    case round =>
      obtain ⟨k, hk, rfl, rfl, hB⟩ := hrel
      clear HI0 q0 hw4 hl4
      obtain ⟨wq, rfl⟩ : ∃ wq, wq = wr := ⟨_, rfl⟩
      have HPQ := Lib.hid (HP4.out.keep hB.out)
      have HFQ := Lib.hid (HF4.out.keep hB.out)
      have q0 := HPQ.out.cell 0
      simp only [List.getElem?_cons_zero, List.getElem?_cons_succ] at q0
      have hlpq := HPQ.out.lt
      have hlq := HFQ.out.lt
      have HBQ := Lib.hid (below3 HB4.out hB.out)
      by_cases hlt : k < rn
      case pos =>
        obtain ⟨wD, hwD⟩ : ∃ wD, wq.drew = wD := ⟨_, rfl⟩
        have hbD : Below wq.heap.size wq wD := by rw [← hwD]; exact (Below.refl _ _).drew
        have HBD := Lib.hid (below3 hB.out hbD)
        have HBW := Lib.hid (below3 HBQ.out hbD)
        have hFD := HPQ.out.keep hbD
        obtain ⟨b, o, x, hbA, hbB, hxk, ⟨hxa, _, _⟩, c0, c1, _⟩ := (HXW.out _ HBW.out).r.get hlt
        subst hbA
        have hbb : b < wD.heap.size := by have := HBW.out.size; omega
        have HX := Lib.hid (HPR.out k x hxk)
        have g0 : wD.cell? ⟨w.heap.size, 0, none⟩ = some (.slice (some ⟨b, o, none⟩) rn rc) := hFD.cell 0
        obtain ⟨xa, xl, xp, xd, xm, xt, xA, xn, xc, xh⟩ := x
        dsimp only at hxa c0 c1 HX
        have HC := Lib.hid (contains_any xa xl a wD hxa ha)
        obtain ⟨z, hz⟩ : ∃ z, bestTo P a k = z := ⟨_, rfl⟩
        have HN0 : Hid (bestTo P a (k + 1) = if inP xa xl a = true ∧ (z < 0 ∨ (preAt P z.toNat).2 < xl) then (k : Int) else z) := by
          show _ = _
          rw [bestTo, hz, HX.out]
        have HZS : Hid (z = -1 ∨ ∃ i : Nat, i < k ∧ z = i) := by
          rw [← hz]
          rcases bestTo_spec P a k with ⟨h1, _⟩ | ⟨i, h1, h2, _⟩
          · exact .inl h1
          · exact .inr ⟨i, h1, h2⟩
        rw [hz]
        obtain ⟨ib, hib⟩ : ∃ ib, inP xa xl a = ib := ⟨_, rfl⟩
        rw [hib] at HN0 HC
        clear hz hib hxk hbD q0 hlpq hlq HPQ HFQ HX
        cases ib with
        | false =>
          have HN : Hid (bestTo P a (k + 1) = z) := by show _ = _; rw [HN0.out, if_neg (by simp)]
          clear HN0
          have HSD : Hid (wD.cell? ⟨w.heap.size, 0, none⟩ = some (.slice (some ⟨b, o, none⟩) rn rc) ∧ wD.cell? ⟨b, o + k * 7, none⟩ = some (.int .u32 xa) ∧ wD.cell? ⟨b, o + k * 7 + 1, none⟩ = some (.int .i64 xl)) := ⟨g0, c0, c1⟩
          have HSW : Hid (∀ V, Below wD.heap.size wD V → V.cell? ⟨w.heap.size, 0, none⟩ = some (.slice (some ⟨b, o, none⟩) rn rc) ∧ V.cell? ⟨b, o + k * 7, none⟩ = some (.int .u32 xa) ∧ V.cell? ⟨b, o + k * 7 + 1, none⟩ = some (.int .i64 xl)) := fun V hV => ⟨(hV.cell (p := ⟨w.heap.size, _, none⟩) hFD.lt).trans g0, (hV.cell (p := ⟨b, _, none⟩) hbb).trans c0, (hV.cell (p := ⟨b, _, none⟩) hbb).trans c1⟩
          clear g0 c0 c1 hFD
          go_upto_region 10 with fail
          refine wp_region_noPanic ?_
          refine wp_region_held_drew (S := fun V => V.cell? ⟨w.heap.size, 0, none⟩ = some (.slice (some ⟨b, o, none⟩) rn rc) ∧ V.cell? ⟨b, o + k * 7, none⟩ = some (.int .u32 xa) ∧ V.cell? ⟨b, o + k * 7 + 1, none⟩ = some (.int .i64 xl)) (by kernel_rfl) (by rw [hwD]; exact HSD.out) (fun hHeld => ?_)
          rw [hwD] at hHeld ⊢
          clear hwD
          refine take_in (i := 0) _ (some 37) (by kernel_rfl) (by kernel_rfl) (by kernel_rfl) (by kernel_rfl) (fun _ _ _ h => h) (by rfl) (fun o ho w hSw => by cases ho; (try dsimp only at hSw); (try go_split_ands); go_simp; (try with_reducible rfl)) hHeld ?_
          try simp only [Act.put, List.setIfInBounds_toArray, List.set_cons_zero, List.set_cons_succ]
          refine take_in (i := 1) _ (some 38) (by kernel_rfl) (by kernel_rfl) (by kernel_rfl) (by kernel_rfl) (fun _ _ _ h => h) (by rfl) (fun o ho w hSw => by cases ho; (try dsimp only at hSw); (try go_split_ands); go_simp; (try with_reducible rfl)) hHeld ?_
          try simp only [Act.put, List.setIfInBounds_toArray, List.set_cons_zero, List.set_cons_succ]
          refine take_in (i := 2) _ (some 39) (by kernel_rfl) (by kernel_rfl) (by kernel_rfl) (by kernel_rfl) (fun _ _ _ h => h) (by rfl) (fun o ho w hSw => by cases ho; (try dsimp only at hSw); (try go_split_ands); go_simp; (try with_reducible rfl)) hHeld ?_
          try simp only [Act.put, List.setIfInBounds_toArray, List.set_cons_zero, List.set_cons_succ]
          refine take_in (i := 3) _ (some 40) (by kernel_rfl) (by kernel_rfl) (by kernel_rfl) (by kernel_rfl) (fun _ _ _ h => h) (by rfl) (fun o ho w hSw => by cases ho; (try dsimp only at hSw); (try go_split_ands); go_simp; (try with_reducible rfl)) hHeld ?_
          try simp only [Act.put, List.setIfInBounds_toArray, List.set_cons_zero, List.set_cons_succ]
          refine take_in (i := 4) _ (some 41) (by kernel_rfl) (by kernel_rfl) (by kernel_rfl) (by kernel_rfl) (fun _ _ _ h => h) (by rfl) (fun o ho w hSw => by cases ho; (try dsimp only at hSw); (try go_split_ands); go_simp; (try with_reducible rfl)) hHeld ?_
          try simp only [Act.put, List.setIfInBounds_toArray, List.set_cons_zero, List.set_cons_succ]
          refine take_in (i := 5) _ (some 42) (by kernel_rfl) (by kernel_rfl) (by kernel_rfl) (by kernel_rfl) (fun _ _ _ h => h) (by rfl) (fun o ho w hSw => by cases ho; (try dsimp only at hSw); (try go_split_ands); go_simp; (try with_reducible rfl)) hHeld ?_
          try simp only [Act.put, List.setIfInBounds_toArray, List.set_cons_zero, List.set_cons_succ]
          refine take_in (i := 6) _ (some 43) (by kernel_rfl) (by kernel_rfl) (by kernel_rfl) (by kernel_rfl) (fun _ _ _ h => h) (by rfl) (fun o ho w hSw => by cases ho; (try dsimp only at hSw); (try go_split_ands); go_simp; (try with_reducible rfl)) hHeld ?_
          try simp only [Act.put, List.setIfInBounds_toArray, List.set_cons_zero, List.set_cons_succ]
          refine wpAnyH_ready (rs := [7]) (by kernel_rfl) (by simp) ?_
          refine AllReadyH.cons (o := _) rfl (fun K hK => ?_) AllReadyH.nil
          go_simp
          go_at_call 12
          with_reducible refine HC.out.mono ?_
          rintro e w7 ⟨rfl, hb7⟩
          have HB7 := Lib.hid (below3 HBD.out hb7)
          have HS7 := Lib.hid (HSW.out _ hb7)
          clear hb7
          refine hK.out _ _ HS7.out (fun hHeld => ?_)
          clear hK K
          try simp only [Act.put, List.setIfInBounds_toArray, List.set_cons_zero, List.set_cons_succ]
          refine take_in (i := 8) _ (some 45) (by kernel_rfl) (by kernel_rfl) (by kernel_rfl) (by kernel_rfl) (fun _ _ _ h => h) (by rfl) (fun o ho w hSw => by cases ho; (try dsimp only at hSw); (try go_split_ands); go_simp; (try with_reducible rfl)) hHeld ?_
          try simp only [Act.put, List.setIfInBounds_toArray, List.set_cons_zero, List.set_cons_succ]
          refine take_un (i := 9) (some 46) (by kernel_rfl) (by kernel_rfl) (by kernel_rfl) (by kernel_rfl) (fun _ _ _ h => h) (by rfl) hHeld ?_
          try simp only [Act.put, List.setIfInBounds_toArray, List.set_cons_zero, List.set_cons_succ]
          refine take_un (i := 10) (some 47) (by kernel_rfl) (by kernel_rfl) (by kernel_rfl) (by kernel_rfl) (fun _ _ _ h => h) (by rfl) hHeld ?_
          try simp only [Act.put, List.setIfInBounds_toArray, List.set_cons_zero, List.set_cons_succ]
          refine take_un (i := 11) (some 48) (by kernel_rfl) (by kernel_rfl) (by kernel_rfl) (by kernel_rfl) (fun _ _ _ h => h) (by rfl) hHeld ?_
          try simp only [Act.put, List.setIfInBounds_toArray, List.set_cons_zero, List.set_cons_succ]
          refine take_un (i := 12) (some 49) (by kernel_rfl) (by kernel_rfl) (by kernel_rfl) (by kernel_rfl) (fun _ _ _ h => h) (by rfl) hHeld ?_
          try simp only [Act.put, List.setIfInBounds_toArray, List.set_cons_zero, List.set_cons_succ]
          refine take_un (i := 13) (some 50) (by kernel_rfl) (by kernel_rfl) (by kernel_rfl) (by kernel_rfl) (fun _ _ _ h => h) (by rfl) hHeld ?_
          try simp only [Act.put, List.setIfInBounds_toArray, List.set_cons_zero, List.set_cons_succ]
          refine take_un (i := 14) (some 51) (by kernel_rfl) (by kernel_rfl) (by kernel_rfl) (by kernel_rfl) (fun _ _ _ h => h) (by rfl) hHeld ?_
          try simp only [Act.put, List.setIfInBounds_toArray, List.set_cons_zero, List.set_cons_succ]
          refine take_un (i := 15) (some 52) (by kernel_rfl) (by kernel_rfl) (by kernel_rfl) (by kernel_rfl) (fun _ _ _ h => h) (by rfl) hHeld ?_
          try simp only [Act.put, List.setIfInBounds_toArray, List.set_cons_zero, List.set_cons_succ]
          refine take_un (i := 16) (some 53) (by kernel_rfl) (by kernel_rfl) (by kernel_rfl) (by kernel_rfl) (fun _ _ _ h => h) (by rfl) hHeld ?_
          try simp only [Act.put, List.setIfInBounds_toArray, List.set_cons_zero, List.set_cons_succ]
          refine take_un (i := 17) (some 54) (by kernel_rfl) (by kernel_rfl) (by kernel_rfl) (by kernel_rfl) (fun _ _ _ h => h) (by rfl) hHeld ?_
          try simp only [Act.put, List.setIfInBounds_toArray, List.set_cons_zero, List.set_cons_succ]
          refine take_un (i := 18) (some 55) (by kernel_rfl) (by kernel_rfl) (by kernel_rfl) (by kernel_rfl) (fun _ _ _ h => h) (by rfl) hHeld ?_
          try simp only [Act.put, List.setIfInBounds_toArray, List.set_cons_zero, List.set_cons_succ]
          refine take_un (i := 19) (some 56) (by kernel_rfl) (by kernel_rfl) (by kernel_rfl) (by kernel_rfl) (fun _ _ _ h => h) (by rfl) hHeld ?_
          try simp only [Act.put, List.setIfInBounds_toArray, List.set_cons_zero, List.set_cons_succ]
          refine take_un (i := 20) (some 57) (by kernel_rfl) (by kernel_rfl) (by kernel_rfl) (by kernel_rfl) (fun _ _ _ h => h) (by rfl) hHeld ?_
          try simp only [Act.put, List.setIfInBounds_toArray, List.set_cons_zero, List.set_cons_succ]
          refine take_un (i := 21) (some 58) (by kernel_rfl) (by kernel_rfl) (by kernel_rfl) (by kernel_rfl) (fun _ _ _ h => h) (by rfl) hHeld ?_
          try simp only [Act.put, List.setIfInBounds_toArray, List.set_cons_zero, List.set_cons_succ]
          refine take_un (i := 22) (some 59) (by kernel_rfl) (by kernel_rfl) (by kernel_rfl) (by kernel_rfl) (fun _ _ _ h => h) (by rfl) hHeld ?_
          try simp only [Act.put, List.setIfInBounds_toArray, List.set_cons_zero, List.set_cons_succ]
          refine take_un (i := 23) (some 60) (by kernel_rfl) (by kernel_rfl) (by kernel_rfl) (by kernel_rfl) (fun _ _ _ h => h) (by rfl) hHeld ?_
          try simp only [Act.put, List.setIfInBounds_toArray, List.set_cons_zero, List.set_cons_succ]
          refine take_un (i := 24) (some 61) (by kernel_rfl) (by kernel_rfl) (by kernel_rfl) (by kernel_rfl) (fun _ _ _ h => h) (by rfl) hHeld ?_
          try simp only [Act.put, List.setIfInBounds_toArray, List.set_cons_zero, List.set_cons_succ]
          refine take_un (i := 25) (some 62) (by kernel_rfl) (by kernel_rfl) (by kernel_rfl) (by kernel_rfl) (fun _ _ _ h => h) (by rfl) hHeld ?_
          try simp only [Act.put, List.setIfInBounds_toArray, List.set_cons_zero, List.set_cons_succ]
          refine take_un (i := 26) (some 63) (by kernel_rfl) (by kernel_rfl) (by kernel_rfl) (by kernel_rfl) (fun _ _ _ h => h) (by rfl) hHeld ?_
          try simp only [Act.put, List.setIfInBounds_toArray, List.set_cons_zero, List.set_cons_succ]
          refine take_un (i := 27) (some 64) (by kernel_rfl) (by kernel_rfl) (by kernel_rfl) (by kernel_rfl) (fun _ _ _ h => h) (by rfl) hHeld ?_
          try simp only [Act.put, List.setIfInBounds_toArray, List.set_cons_zero, List.set_cons_succ]
          refine take_in (i := 28) _ (some 65) (by kernel_rfl) (by kernel_rfl) (by kernel_rfl) (by kernel_rfl) (fun _ _ _ h => h) (by rfl) (fun o ho w hSw => by cases ho; (try dsimp only at hSw); (try go_split_ands); go_simp; (try with_reducible rfl)) hHeld ?_
          try simp only [Act.put, List.setIfInBounds_toArray, List.set_cons_zero, List.set_cons_succ]
          refine wpAnyH_done (by kernel_rfl) ?_ _
          refine NoPanic.normal ?_
          clear HSD HSW HS7 HC
          go_wp2
          go_roundw
          case rel => exact ⟨k + 1, by omega, by rw [HN.out], by go_num, HB7⟩
          case measure => simp [intOf]; omega
        | true =>
          rcases HZS.out with hzs | ⟨i, hik, hzs⟩
          · subst hzs
            have HN : Hid (bestTo P a (k + 1) = (k : Int)) := by show _ = _; rw [HN0.out, if_pos ⟨rfl, .inl (by omega)⟩]
            clear HN0 HZS
            have dz : decide ((-1 : Int) < 0) = true := by decide
            have HSD : Hid (wD.cell? ⟨w.heap.size, 0, none⟩ = some (.slice (some ⟨b, o, none⟩) rn rc) ∧ wD.cell? ⟨b, o + k * 7, none⟩ = some (.int .u32 xa) ∧ wD.cell? ⟨b, o + k * 7 + 1, none⟩ = some (.int .i64 xl)) := ⟨g0, c0, c1⟩
            have HSW : Hid (∀ V, Below wD.heap.size wD V → V.cell? ⟨w.heap.size, 0, none⟩ = some (.slice (some ⟨b, o, none⟩) rn rc) ∧ V.cell? ⟨b, o + k * 7, none⟩ = some (.int .u32 xa) ∧ V.cell? ⟨b, o + k * 7 + 1, none⟩ = some (.int .i64 xl)) := fun V hV => ⟨(hV.cell (p := ⟨w.heap.size, _, none⟩) hFD.lt).trans g0, (hV.cell (p := ⟨b, _, none⟩) hbb).trans c0, (hV.cell (p := ⟨b, _, none⟩) hbb).trans c1⟩
            clear g0 c0 c1 hFD
            go_upto_region 10 with fail
            refine wp_region_noPanic ?_
            refine wp_region_held_drew (S := fun V => V.cell? ⟨w.heap.size, 0, none⟩ = some (.slice (some ⟨b, o, none⟩) rn rc) ∧ V.cell? ⟨b, o + k * 7, none⟩ = some (.int .u32 xa) ∧ V.cell? ⟨b, o + k * 7 + 1, none⟩ = some (.int .i64 xl)) (by kernel_rfl) (by rw [hwD]; exact HSD.out) (fun hHeld => ?_)
            rw [hwD] at hHeld ⊢
            clear hwD
            refine take_in (i := 0) _ (some 37) (by kernel_rfl) (by kernel_rfl) (by kernel_rfl) (by kernel_rfl) (fun _ _ _ h => h) (by rfl) (fun o ho w hSw => by cases ho; (try dsimp only at hSw); (try go_split_ands); go_simp; (try with_reducible rfl)) hHeld ?_
            try simp only [Act.put, List.setIfInBounds_toArray, List.set_cons_zero, List.set_cons_succ]
            refine take_in (i := 1) _ (some 38) (by kernel_rfl) (by kernel_rfl) (by kernel_rfl) (by kernel_rfl) (fun _ _ _ h => h) (by rfl) (fun o ho w hSw => by cases ho; (try dsimp only at hSw); (try go_split_ands); go_simp; (try with_reducible rfl)) hHeld ?_
            try simp only [Act.put, List.setIfInBounds_toArray, List.set_cons_zero, List.set_cons_succ]
            refine take_in (i := 2) _ (some 39) (by kernel_rfl) (by kernel_rfl) (by kernel_rfl) (by kernel_rfl) (fun _ _ _ h => h) (by rfl) (fun o ho w hSw => by cases ho; (try dsimp only at hSw); (try go_split_ands); go_simp; (try with_reducible rfl)) hHeld ?_
            try simp only [Act.put, List.setIfInBounds_toArray, List.set_cons_zero, List.set_cons_succ]
            refine take_in (i := 3) _ (some 40) (by kernel_rfl) (by kernel_rfl) (by kernel_rfl) (by kernel_rfl) (fun _ _ _ h => h) (by rfl) (fun o ho w hSw => by cases ho; (try dsimp only at hSw); (try go_split_ands); go_simp; (try with_reducible rfl)) hHeld ?_
            try simp only [Act.put, List.setIfInBounds_toArray, List.set_cons_zero, List.set_cons_succ]
            refine take_in (i := 4) _ (some 41) (by kernel_rfl) (by kernel_rfl) (by kernel_rfl) (by kernel_rfl) (fun _ _ _ h => h) (by rfl) (fun o ho w hSw => by cases ho; (try dsimp only at hSw); (try go_split_ands); go_simp; (try with_reducible rfl)) hHeld ?_
            try simp only [Act.put, List.setIfInBounds_toArray, List.set_cons_zero, List.set_cons_succ]
            refine take_in (i := 5) _ (some 42) (by kernel_rfl) (by kernel_rfl) (by kernel_rfl) (by kernel_rfl) (fun _ _ _ h => h) (by rfl) (fun o ho w hSw => by cases ho; (try dsimp only at hSw); (try go_split_ands); go_simp; (try with_reducible rfl)) hHeld ?_
            try simp only [Act.put, List.setIfInBounds_toArray, List.set_cons_zero, List.set_cons_succ]
            refine take_in (i := 6) _ (some 43) (by kernel_rfl) (by kernel_rfl) (by kernel_rfl) (by kernel_rfl) (fun _ _ _ h => h) (by rfl) (fun o ho w hSw => by cases ho; (try dsimp only at hSw); (try go_split_ands); go_simp; (try with_reducible rfl)) hHeld ?_
            try simp only [Act.put, List.setIfInBounds_toArray, List.set_cons_zero, List.set_cons_succ]
            refine wpAnyH_ready (rs := [7]) (by kernel_rfl) (by simp) ?_
            refine AllReadyH.cons (o := _) rfl (fun K hK => ?_) AllReadyH.nil
            go_simp
            go_at_call 12
            with_reducible refine HC.out.mono ?_
            rintro e w7 ⟨rfl, hb7⟩
            have HB7 := Lib.hid (below3 HBD.out hb7)
            have HS7 := Lib.hid (HSW.out _ hb7)
            clear hb7
            refine hK.out _ _ HS7.out (fun hHeld => ?_)
            clear hK K
            try simp only [Act.put, List.setIfInBounds_toArray, List.set_cons_zero, List.set_cons_succ]
            refine take_in (i := 8) _ (some 45) (by kernel_rfl) (by kernel_rfl) (by kernel_rfl) (by kernel_rfl) (fun _ _ _ h => h) (by rfl) (fun o ho w hSw => by cases ho; (try dsimp only at hSw); (try go_split_ands); go_simp; (try with_reducible rfl)) hHeld ?_
            try simp only [Act.put, List.setIfInBounds_toArray, List.set_cons_zero, List.set_cons_succ]
            refine take_in (i := 9) _ (some 46) (by kernel_rfl) (by kernel_rfl) (by kernel_rfl) (by kernel_rfl) (fun _ _ _ h => h) (by rfl) (fun o ho w hSw => by cases ho; (try dsimp only at hSw); (try go_split_ands); go_simp; (try with_reducible rfl)) hHeld ?_
            try simp only [Act.put, List.setIfInBounds_toArray, List.set_cons_zero, List.set_cons_succ]
            refine take_in (i := 10) _ (some 47) (by kernel_rfl) (by kernel_rfl) (by kernel_rfl) (by kernel_rfl) (fun _ _ _ h => h) (by rfl) (fun o ho w hSw => by cases ho; (try dsimp only at hSw); (try go_split_ands); go_simp; (try with_reducible rfl)) hHeld ?_
            try simp only [Act.put, List.setIfInBounds_toArray, List.set_cons_zero, List.set_cons_succ]
            refine take_in (i := 11) _ (some 48) (by kernel_rfl) (by kernel_rfl) (by kernel_rfl) (by kernel_rfl) (fun _ _ _ h => h) (by rfl) (fun o ho w hSw => by cases ho; (try dsimp only at hSw); (try go_split_ands); go_simp; (try with_reducible rfl)) hHeld ?_
            try simp only [Act.put, List.setIfInBounds_toArray, List.set_cons_zero, List.set_cons_succ]
            refine take_un (i := 12) (some 49) (by kernel_rfl) (by kernel_rfl) (by kernel_rfl) (by kernel_rfl) (fun _ _ _ h => h) (by rfl) hHeld ?_
            try simp only [Act.put, List.setIfInBounds_toArray, List.set_cons_zero, List.set_cons_succ]
            refine take_un (i := 13) (some 50) (by kernel_rfl) (by kernel_rfl) (by kernel_rfl) (by kernel_rfl) (fun _ _ _ h => h) (by rfl) hHeld ?_
            try simp only [Act.put, List.setIfInBounds_toArray, List.set_cons_zero, List.set_cons_succ]
            refine take_un (i := 14) (some 51) (by kernel_rfl) (by kernel_rfl) (by kernel_rfl) (by kernel_rfl) (fun _ _ _ h => h) (by rfl) hHeld ?_
            try simp only [Act.put, List.setIfInBounds_toArray, List.set_cons_zero, List.set_cons_succ]
            refine take_un (i := 15) (some 52) (by kernel_rfl) (by kernel_rfl) (by kernel_rfl) (by kernel_rfl) (fun _ _ _ h => h) (by rfl) hHeld ?_
            try simp only [Act.put, List.setIfInBounds_toArray, List.set_cons_zero, List.set_cons_succ]
            refine take_un (i := 16) (some 53) (by kernel_rfl) (by kernel_rfl) (by kernel_rfl) (by kernel_rfl) (fun _ _ _ h => h) (by rfl) hHeld ?_
            try simp only [Act.put, List.setIfInBounds_toArray, List.set_cons_zero, List.set_cons_succ]
            refine take_un (i := 17) (some 54) (by kernel_rfl) (by kernel_rfl) (by kernel_rfl) (by kernel_rfl) (fun _ _ _ h => h) (by rfl) hHeld ?_
            try simp only [Act.put, List.setIfInBounds_toArray, List.set_cons_zero, List.set_cons_succ]
            refine take_un (i := 18) (some 55) (by kernel_rfl) (by kernel_rfl) (by kernel_rfl) (by kernel_rfl) (fun _ _ _ h => h) (by rfl) hHeld ?_
            try simp only [Act.put, List.setIfInBounds_toArray, List.set_cons_zero, List.set_cons_succ]
            refine take_un (i := 19) (some 56) (by kernel_rfl) (by kernel_rfl) (by kernel_rfl) (by kernel_rfl) (fun _ _ _ h => h) (by rfl) hHeld ?_
            try simp only [Act.put, List.setIfInBounds_toArray, List.set_cons_zero, List.set_cons_succ]
            refine take_un (i := 20) (some 57) (by kernel_rfl) (by kernel_rfl) (by kernel_rfl) (by kernel_rfl) (fun _ _ _ h => h) (by rfl) hHeld ?_
            try simp only [Act.put, List.setIfInBounds_toArray, List.set_cons_zero, List.set_cons_succ]
            refine take_un (i := 21) (some 58) (by kernel_rfl) (by kernel_rfl) (by kernel_rfl) (by kernel_rfl) (fun _ _ _ h => h) (by rfl) hHeld ?_
            try simp only [Act.put, List.setIfInBounds_toArray, List.set_cons_zero, List.set_cons_succ]
            refine take_un (i := 22) (some 59) (by kernel_rfl) (by kernel_rfl) (by kernel_rfl) (by kernel_rfl) (fun _ _ _ h => h) (by rfl) hHeld ?_
            try simp only [Act.put, List.setIfInBounds_toArray, List.set_cons_zero, List.set_cons_succ]
            refine take_un (i := 23) (some 60) (by kernel_rfl) (by kernel_rfl) (by kernel_rfl) (by kernel_rfl) (fun _ _ _ h => h) (by rfl) hHeld ?_
            try simp only [Act.put, List.setIfInBounds_toArray, List.set_cons_zero, List.set_cons_succ]
            refine take_un (i := 24) (some 61) (by kernel_rfl) (by kernel_rfl) (by kernel_rfl) (by kernel_rfl) (fun _ _ _ h => h) (by rfl) hHeld ?_
            try simp only [Act.put, List.setIfInBounds_toArray, List.set_cons_zero, List.set_cons_succ]
            refine take_un (i := 25) (some 62) (by kernel_rfl) (by kernel_rfl) (by kernel_rfl) (by kernel_rfl) (fun _ _ _ h => h) (by rfl) hHeld ?_
            try simp only [Act.put, List.setIfInBounds_toArray, List.set_cons_zero, List.set_cons_succ]
            refine take_un (i := 26) (some 63) (by kernel_rfl) (by kernel_rfl) (by kernel_rfl) (by kernel_rfl) (fun _ _ _ h => h) (by rfl) hHeld ?_
            try simp only [Act.put, List.setIfInBounds_toArray, List.set_cons_zero, List.set_cons_succ]
            refine take_in (i := 27) _ (some 64) (by kernel_rfl) (by kernel_rfl) (by kernel_rfl) (by kernel_rfl) (fun _ _ _ h => h) (by rfl) (fun o ho w hSw => by cases ho; (try dsimp only at hSw); (try go_split_ands); go_simp; (try with_reducible rfl)) hHeld ?_
            try simp only [Act.put, List.setIfInBounds_toArray, List.set_cons_zero, List.set_cons_succ]
            refine take_in (i := 28) _ (some 65) (by kernel_rfl) (by kernel_rfl) (by kernel_rfl) (by kernel_rfl) (fun _ _ _ h => h) (by rfl) (fun o ho w hSw => by cases ho; (try dsimp only at hSw); (try go_split_ands); go_simp; (try with_reducible rfl)) hHeld ?_
            try simp only [Act.put, List.setIfInBounds_toArray, List.set_cons_zero, List.set_cons_succ]
            refine wpAnyH_done (by kernel_rfl) ?_ _
            refine NoPanic.normal ?_
            clear HSD HSW HS7 HC
            go_wp2
            go_roundw
            case rel => exact ⟨k + 1, by omega, by rw [HN.out], by go_num, HB7⟩
            case measure => simp [intOf]; omega
          · subst hzs
            have hirn : i < rn := by omega
            have dz : decide ((i : Int) < 0) = false := decide_eq_false (by omega)
            obtain ⟨b', o', y, hbA', _, hyk, _, d0, d1, _⟩ := (HXW.out _ HBW.out).r.get hirn
            simp only [Option.some.injEq, Addr.mk.injEq] at hbA'
            obtain ⟨rfl, rfl, _⟩ := hbA'
            have hpy := HPR.out i y hyk
            obtain ⟨ya, yl, yp, yd, ym, yt, yA, yn, yc, yh⟩ := y
            dsimp only at d1 hpy
            rw [Int.toNat_natCast, hpy] at HN0
            clear hpy hyk d0 HZS
            by_cases hgt : yl < xl
            · have HN : Hid (bestTo P a (k + 1) = (k : Int)) := by show _ = _; rw [HN0.out, if_pos ⟨rfl, .inr hgt⟩]
              have dg : decide (yl < xl) = true := decide_eq_true hgt
              have dg' : decide (xl > yl) = true := decide_eq_true hgt
              clear HN0 hgt
              have HSD : Hid (wD.cell? ⟨w.heap.size, 0, none⟩ = some (.slice (some ⟨b, o, none⟩) rn rc) ∧ wD.cell? ⟨b, o + k * 7, none⟩ = some (.int .u32 xa) ∧ wD.cell? ⟨b, o + k * 7 + 1, none⟩ = some (.int .i64 xl) ∧ wD.cell? ⟨b, o + i * 7 + 1, none⟩ = some (.int .i64 yl)) := ⟨g0, c0, c1, d1⟩
              have HSW : Hid (∀ V, Below wD.heap.size wD V → V.cell? ⟨w.heap.size, 0, none⟩ = some (.slice (some ⟨b, o, none⟩) rn rc) ∧ V.cell? ⟨b, o + k * 7, none⟩ = some (.int .u32 xa) ∧ V.cell? ⟨b, o + k * 7 + 1, none⟩ = some (.int .i64 xl) ∧ V.cell? ⟨b, o + i * 7 + 1, none⟩ = some (.int .i64 yl)) := fun V hV => ⟨(hV.cell (p := ⟨w.heap.size, _, none⟩) hFD.lt).trans g0, (hV.cell (p := ⟨b, _, none⟩) hbb).trans c0, (hV.cell (p := ⟨b, _, none⟩) hbb).trans c1, (hV.cell (p := ⟨b, _, none⟩) hbb).trans d1⟩
              clear g0 c0 c1 d1 hFD
              go_upto_region 10 with fail
              refine wp_region_noPanic ?_
              refine wp_region_held_drew (S := fun V => V.cell? ⟨w.heap.size, 0, none⟩ = some (.slice (some ⟨b, o, none⟩) rn rc) ∧ V.cell? ⟨b, o + k * 7, none⟩ = some (.int .u32 xa) ∧ V.cell? ⟨b, o + k * 7 + 1, none⟩ = some (.int .i64 xl) ∧ V.cell? ⟨b, o + i * 7 + 1, none⟩ = some (.int .i64 yl)) (by kernel_rfl) (by rw [hwD]; exact HSD.out) (fun hHeld => ?_)
              rw [hwD] at hHeld ⊢
              clear hwD
              refine take_in (i := 0) _ (some 37) (by kernel_rfl) (by kernel_rfl) (by kernel_rfl) (by kernel_rfl) (fun _ _ _ h => h) (by rfl) (fun o ho w hSw => by cases ho; (try dsimp only at hSw); (try go_split_ands); go_simp; (try with_reducible rfl)) hHeld ?_
              try simp only [Act.put, List.setIfInBounds_toArray, List.set_cons_zero, List.set_cons_succ]
              refine take_in (i := 1) _ (some 38) (by kernel_rfl) (by kernel_rfl) (by kernel_rfl) (by kernel_rfl) (fun _ _ _ h => h) (by rfl) (fun o ho w hSw => by cases ho; (try dsimp only at hSw); (try go_split_ands); go_simp; (try with_reducible rfl)) hHeld ?_
              try simp only [Act.put, List.setIfInBounds_toArray, List.set_cons_zero, List.set_cons_succ]
              refine take_in (i := 2) _ (some 39) (by kernel_rfl) (by kernel_rfl) (by kernel_rfl) (by kernel_rfl) (fun _ _ _ h => h) (by rfl) (fun o ho w hSw => by cases ho; (try dsimp only at hSw); (try go_split_ands); go_simp; (try with_reducible rfl)) hHeld ?_
              try simp only [Act.put, List.setIfInBounds_toArray, List.set_cons_zero, List.set_cons_succ]
              refine take_in (i := 3) _ (some 40) (by kernel_rfl) (by kernel_rfl) (by kernel_rfl) (by kernel_rfl) (fun _ _ _ h => h) (by rfl) (fun o ho w hSw => by cases ho; (try dsimp only at hSw); (try go_split_ands); go_simp; (try with_reducible rfl)) hHeld ?_
              try simp only [Act.put, List.setIfInBounds_toArray, List.set_cons_zero, List.set_cons_succ]
              refine take_in (i := 4) _ (some 41) (by kernel_rfl) (by kernel_rfl) (by kernel_rfl) (by kernel_rfl) (fun _ _ _ h => h) (by rfl) (fun o ho w hSw => by cases ho; (try dsimp only at hSw); (try go_split_ands); go_simp; (try with_reducible rfl)) hHeld ?_
              try simp only [Act.put, List.setIfInBounds_toArray, List.set_cons_zero, List.set_cons_succ]
              refine take_in (i := 5) _ (some 42) (by kernel_rfl) (by kernel_rfl) (by kernel_rfl) (by kernel_rfl) (fun _ _ _ h => h) (by rfl) (fun o ho w hSw => by cases ho; (try dsimp only at hSw); (try go_split_ands); go_simp; (try with_reducible rfl)) hHeld ?_
              try simp only [Act.put, List.setIfInBounds_toArray, List.set_cons_zero, List.set_cons_succ]
              refine take_in (i := 6) _ (some 43) (by kernel_rfl) (by kernel_rfl) (by kernel_rfl) (by kernel_rfl) (fun _ _ _ h => h) (by rfl) (fun o ho w hSw => by cases ho; (try dsimp only at hSw); (try go_split_ands); go_simp; (try with_reducible rfl)) hHeld ?_
              try simp only [Act.put, List.setIfInBounds_toArray, List.set_cons_zero, List.set_cons_succ]
              refine wpAnyH_ready (rs := [7]) (by kernel_rfl) (by simp) ?_
              refine AllReadyH.cons (o := _) rfl (fun K hK => ?_) AllReadyH.nil
              go_simp
              go_at_call 12
              with_reducible refine HC.out.mono ?_
              rintro e w7 ⟨rfl, hb7⟩
              have HB7 := Lib.hid (below3 HBD.out hb7)
              have HS7 := Lib.hid (HSW.out _ hb7)
              clear hb7
              refine hK.out _ _ HS7.out (fun hHeld => ?_)
              clear hK K
              try simp only [Act.put, List.setIfInBounds_toArray, List.set_cons_zero, List.set_cons_succ]
              refine take_in (i := 8) _ (some 45) (by kernel_rfl) (by kernel_rfl) (by kernel_rfl) (by kernel_rfl) (fun _ _ _ h => h) (by rfl) (fun o ho w hSw => by cases ho; (try dsimp only at hSw); (try go_split_ands); go_simp; (try with_reducible rfl)) hHeld ?_
              try simp only [Act.put, List.setIfInBounds_toArray, List.set_cons_zero, List.set_cons_succ]
              refine take_in (i := 9) _ (some 46) (by kernel_rfl) (by kernel_rfl) (by kernel_rfl) (by kernel_rfl) (fun _ _ _ h => h) (by rfl) (fun o ho w hSw => by cases ho; (try dsimp only at hSw); (try go_split_ands); go_simp; (try with_reducible rfl)) hHeld ?_
              try simp only [Act.put, List.setIfInBounds_toArray, List.set_cons_zero, List.set_cons_succ]
              refine take_in (i := 10) _ (some 47) (by kernel_rfl) (by kernel_rfl) (by kernel_rfl) (by kernel_rfl) (fun _ _ _ h => h) (by rfl) (fun o ho w hSw => by cases ho; (try dsimp only at hSw); (try go_split_ands); go_simp; (try with_reducible rfl)) hHeld ?_
              try simp only [Act.put, List.setIfInBounds_toArray, List.set_cons_zero, List.set_cons_succ]
              refine take_in (i := 11) _ (some 48) (by kernel_rfl) (by kernel_rfl) (by kernel_rfl) (by kernel_rfl) (fun _ _ _ h => h) (by rfl) (fun o ho w hSw => by cases ho; (try dsimp only at hSw); (try go_split_ands); go_simp; (try with_reducible rfl)) hHeld ?_
              try simp only [Act.put, List.setIfInBounds_toArray, List.set_cons_zero, List.set_cons_succ]
              refine take_in (i := 12) _ (some 49) (by kernel_rfl) (by kernel_rfl) (by kernel_rfl) (by kernel_rfl) (fun _ _ _ h => h) (by rfl) (fun o ho w hSw => by cases ho; (try dsimp only at hSw); (try go_split_ands); go_simp; (try with_reducible rfl)) hHeld ?_
              try simp only [Act.put, List.setIfInBounds_toArray, List.set_cons_zero, List.set_cons_succ]
              refine take_in (i := 13) _ (some 50) (by kernel_rfl) (by kernel_rfl) (by kernel_rfl) (by kernel_rfl) (fun _ _ _ h => h) (by rfl) (fun o ho w hSw => by cases ho; (try dsimp only at hSw); (try go_split_ands); go_simp; (try with_reducible rfl)) hHeld ?_
              try simp only [Act.put, List.setIfInBounds_toArray, List.set_cons_zero, List.set_cons_succ]
              refine take_in (i := 14) _ (some 51) (by kernel_rfl) (by kernel_rfl) (by kernel_rfl) (by kernel_rfl) (fun _ _ _ h => h) (by rfl) (fun o ho w hSw => by cases ho; (try dsimp only at hSw); (try go_split_ands); go_simp; (try with_reducible rfl)) hHeld ?_
              try simp only [Act.put, List.setIfInBounds_toArray, List.set_cons_zero, List.set_cons_succ]
              refine take_in (i := 15) _ (some 52) (by kernel_rfl) (by kernel_rfl) (by kernel_rfl) (by kernel_rfl) (fun _ _ _ h => h) (by rfl) (fun o ho w hSw => by cases ho; (try dsimp only at hSw); (try go_split_ands); go_simp; (try with_reducible rfl)) hHeld ?_
              try simp only [Act.put, List.setIfInBounds_toArray, List.set_cons_zero, List.set_cons_succ]
              refine take_in (i := 16) _ (some 53) (by kernel_rfl) (by kernel_rfl) (by kernel_rfl) (by kernel_rfl) (fun _ _ _ h => h) (by rfl) (fun o ho w hSw => by cases ho; (try dsimp only at hSw); (try go_split_ands); go_simp; (try with_reducible rfl)) hHeld ?_
              try simp only [Act.put, List.setIfInBounds_toArray, List.set_cons_zero, List.set_cons_succ]
              refine take_in (i := 17) _ (some 54) (by kernel_rfl) (by kernel_rfl) (by kernel_rfl) (by kernel_rfl) (fun _ _ _ h => h) (by rfl) (fun o ho w hSw => by cases ho; (try dsimp only at hSw); (try go_split_ands); go_simp; (try with_reducible rfl)) hHeld ?_
              try simp only [Act.put, List.setIfInBounds_toArray, List.set_cons_zero, List.set_cons_succ]
              refine take_in (i := 18) _ (some 55) (by kernel_rfl) (by kernel_rfl) (by kernel_rfl) (by kernel_rfl) (fun _ _ _ h => h) (by rfl) (fun o ho w hSw => by cases ho; (try dsimp only at hSw); (try go_split_ands); go_simp; (try with_reducible rfl)) hHeld ?_
              try simp only [Act.put, List.setIfInBounds_toArray, List.set_cons_zero, List.set_cons_succ]
              refine take_in (i := 19) _ (some 56) (by kernel_rfl) (by kernel_rfl) (by kernel_rfl) (by kernel_rfl) (fun _ _ _ h => h) (by rfl) (fun o ho w hSw => by cases ho; (try dsimp only at hSw); (try go_split_ands); go_simp; (try with_reducible rfl)) hHeld ?_
              try simp only [Act.put, List.setIfInBounds_toArray, List.set_cons_zero, List.set_cons_succ]
              refine take_in (i := 20) _ (some 57) (by kernel_rfl) (by kernel_rfl) (by kernel_rfl) (by kernel_rfl) (fun _ _ _ h => h) (by rfl) (fun o ho w hSw => by cases ho; (try dsimp only at hSw); (try go_split_ands); go_simp; (try with_reducible rfl)) hHeld ?_
              try simp only [Act.put, List.setIfInBounds_toArray, List.set_cons_zero, List.set_cons_succ]
              refine take_in (i := 21) _ (some 58) (by kernel_rfl) (by kernel_rfl) (by kernel_rfl) (by kernel_rfl) (fun _ _ _ h => h) (by rfl) (fun o ho w hSw => by cases ho; (try dsimp only at hSw); (try go_split_ands); go_simp; (try with_reducible rfl)) hHeld ?_
              try simp only [Act.put, List.setIfInBounds_toArray, List.set_cons_zero, List.set_cons_succ]
              refine take_in (i := 22) _ (some 59) (by kernel_rfl) (by kernel_rfl) (by kernel_rfl) (by kernel_rfl) (fun _ _ _ h => h) (by rfl) (fun o ho w hSw => by cases ho; (try dsimp only at hSw); (try go_split_ands); go_simp; (try with_reducible rfl)) hHeld ?_
              try simp only [Act.put, List.setIfInBounds_toArray, List.set_cons_zero, List.set_cons_succ]
              refine take_in (i := 23) _ (some 60) (by kernel_rfl) (by kernel_rfl) (by kernel_rfl) (by kernel_rfl) (fun _ _ _ h => h) (by rfl) (fun o ho w hSw => by cases ho; (try dsimp only at hSw); (try go_split_ands); go_simp; (try with_reducible rfl)) hHeld ?_
              try simp only [Act.put, List.setIfInBounds_toArray, List.set_cons_zero, List.set_cons_succ]
              refine take_in (i := 24) _ (some 61) (by kernel_rfl) (by kernel_rfl) (by kernel_rfl) (by kernel_rfl) (fun _ _ _ h => h) (by rfl) (fun o ho w hSw => by cases ho; (try dsimp only at hSw); (try go_split_ands); go_simp; (try with_reducible rfl)) hHeld ?_
              try simp only [Act.put, List.setIfInBounds_toArray, List.set_cons_zero, List.set_cons_succ]
              refine take_in (i := 25) _ (some 62) (by kernel_rfl) (by kernel_rfl) (by kernel_rfl) (by kernel_rfl) (fun _ _ _ h => h) (by rfl) (fun o ho w hSw => by cases ho; (try dsimp only at hSw); (try go_split_ands); go_simp; (try with_reducible rfl)) hHeld ?_
              try simp only [Act.put, List.setIfInBounds_toArray, List.set_cons_zero, List.set_cons_succ]
              refine take_in (i := 26) _ (some 63) (by kernel_rfl) (by kernel_rfl) (by kernel_rfl) (by kernel_rfl) (fun _ _ _ h => h) (by rfl) (fun o ho w hSw => by cases ho; (try dsimp only at hSw); (try go_split_ands); go_simp; (try with_reducible rfl)) hHeld ?_
              try simp only [Act.put, List.setIfInBounds_toArray, List.set_cons_zero, List.set_cons_succ]
              refine take_in (i := 27) _ (some 64) (by kernel_rfl) (by kernel_rfl) (by kernel_rfl) (by kernel_rfl) (fun _ _ _ h => h) (by rfl) (fun o ho w hSw => by cases ho; (try dsimp only at hSw); (try go_split_ands); go_simp; (try with_reducible rfl)) hHeld ?_
              try simp only [Act.put, List.setIfInBounds_toArray, List.set_cons_zero, List.set_cons_succ]
              refine take_in (i := 28) _ (some 65) (by kernel_rfl) (by kernel_rfl) (by kernel_rfl) (by kernel_rfl) (fun _ _ _ h => h) (by rfl) (fun o ho w hSw => by cases ho; (try dsimp only at hSw); (try go_split_ands); go_simp; (try with_reducible rfl)) hHeld ?_
              try simp only [Act.put, List.setIfInBounds_toArray, List.set_cons_zero, List.set_cons_succ]
              refine wpAnyH_done (by kernel_rfl) ?_ _
              refine NoPanic.normal ?_
              clear HSD HSW HS7 HC
              go_wp2
              go_roundw
              case rel => exact ⟨k + 1, by omega, by rw [HN.out], by go_num, HB7⟩
              case measure => simp [intOf]; omega
            · have HN : Hid (bestTo P a (k + 1) = (i : Int)) := by show _ = _; rw [HN0.out, if_neg (by rintro ⟨_, h | h⟩ <;> omega)]
              have dg : decide (yl < xl) = false := decide_eq_false hgt
              have dg' : decide (xl > yl) = false := decide_eq_false hgt
              clear HN0 hgt
              have HSD : Hid (wD.cell? ⟨w.heap.size, 0, none⟩ = some (.slice (some ⟨b, o, none⟩) rn rc) ∧ wD.cell? ⟨b, o + k * 7, none⟩ = some (.int .u32 xa) ∧ wD.cell? ⟨b, o + k * 7 + 1, none⟩ = some (.int .i64 xl) ∧ wD.cell? ⟨b, o + i * 7 + 1, none⟩ = some (.int .i64 yl)) := ⟨g0, c0, c1, d1⟩
              have HSW : Hid (∀ V, Below wD.heap.size wD V → V.cell? ⟨w.heap.size, 0, none⟩ = some (.slice (some ⟨b, o, none⟩) rn rc) ∧ V.cell? ⟨b, o + k * 7, none⟩ = some (.int .u32 xa) ∧ V.cell? ⟨b, o + k * 7 + 1, none⟩ = some (.int .i64 xl) ∧ V.cell? ⟨b, o + i * 7 + 1, none⟩ = some (.int .i64 yl)) := fun V hV => ⟨(hV.cell (p := ⟨w.heap.size, _, none⟩) hFD.lt).trans g0, (hV.cell (p := ⟨b, _, none⟩) hbb).trans c0, (hV.cell (p := ⟨b, _, none⟩) hbb).trans c1, (hV.cell (p := ⟨b, _, none⟩) hbb).trans d1⟩
              clear g0 c0 c1 d1 hFD
              go_upto_region 10 with fail
              refine wp_region_noPanic ?_
              refine wp_region_held_drew (S := fun V => V.cell? ⟨w.heap.size, 0, none⟩ = some (.slice (some ⟨b, o, none⟩) rn rc) ∧ V.cell? ⟨b, o + k * 7, none⟩ = some (.int .u32 xa) ∧ V.cell? ⟨b, o + k * 7 + 1, none⟩ = some (.int .i64 xl) ∧ V.cell? ⟨b, o + i * 7 + 1, none⟩ = some (.int .i64 yl)) (by kernel_rfl) (by rw [hwD]; exact HSD.out) (fun hHeld => ?_)
              rw [hwD] at hHeld ⊢
              clear hwD
              refine take_in (i := 0) _ (some 37) (by kernel_rfl) (by kernel_rfl) (by kernel_rfl) (by kernel_rfl) (fun _ _ _ h => h) (by rfl) (fun o ho w hSw => by cases ho; (try dsimp only at hSw); (try go_split_ands); go_simp; (try with_reducible rfl)) hHeld ?_
              try simp only [Act.put, List.setIfInBounds_toArray, List.set_cons_zero, List.set_cons_succ]
              refine take_in (i := 1) _ (some 38) (by kernel_rfl) (by kernel_rfl) (by kernel_rfl) (by kernel_rfl) (fun _ _ _ h => h) (by rfl) (fun o ho w hSw => by cases ho; (try dsimp only at hSw); (try go_split_ands); go_simp; (try with_reducible rfl)) hHeld ?_
              try simp only [Act.put, List.setIfInBounds_toArray, List.set_cons_zero, List.set_cons_succ]
              refine take_in (i := 2) _ (some 39) (by kernel_rfl) (by kernel_rfl) (by kernel_rfl) (by kernel_rfl) (fun _ _ _ h => h) (by rfl) (fun o ho w hSw => by cases ho; (try dsimp only at hSw); (try go_split_ands); go_simp; (try with_reducible rfl)) hHeld ?_
              try simp only [Act.put, List.setIfInBounds_toArray, List.set_cons_zero, List.set_cons_succ]
              refine take_in (i := 3) _ (some 40) (by kernel_rfl) (by kernel_rfl) (by kernel_rfl) (by kernel_rfl) (fun _ _ _ h => h) (by rfl) (fun o ho w hSw => by cases ho; (try dsimp only at hSw); (try go_split_ands); go_simp; (try with_reducible rfl)) hHeld ?_
              try simp only [Act.put, List.setIfInBounds_toArray, List.set_cons_zero, List.set_cons_succ]
              refine take_in (i := 4) _ (some 41) (by kernel_rfl) (by kernel_rfl) (by kernel_rfl) (by kernel_rfl) (fun _ _ _ h => h) (by rfl) (fun o ho w hSw => by cases ho; (try dsimp only at hSw); (try go_split_ands); go_simp; (try with_reducible rfl)) hHeld ?_
              try simp only [Act.put, List.setIfInBounds_toArray, List.set_cons_zero, List.set_cons_succ]
              refine take_in (i := 5) _ (some 42) (by kernel_rfl) (by kernel_rfl) (by kernel_rfl) (by kernel_rfl) (fun _ _ _ h => h) (by rfl) (fun o ho w hSw => by cases ho; (try dsimp only at hSw); (try go_split_ands); go_simp; (try with_reducible rfl)) hHeld ?_
              try simp only [Act.put, List.setIfInBounds_toArray, List.set_cons_zero, List.set_cons_succ]
              refine take_in (i := 6) _ (some 43) (by kernel_rfl) (by kernel_rfl) (by kernel_rfl) (by kernel_rfl) (fun _ _ _ h => h) (by rfl) (fun o ho w hSw => by cases ho; (try dsimp only at hSw); (try go_split_ands); go_simp; (try with_reducible rfl)) hHeld ?_
              try simp only [Act.put, List.setIfInBounds_toArray, List.set_cons_zero, List.set_cons_succ]
              refine wpAnyH_ready (rs := [7]) (by kernel_rfl) (by simp) ?_
              refine AllReadyH.cons (o := _) rfl (fun K hK => ?_) AllReadyH.nil
              go_simp
              go_at_call 12
              with_reducible refine HC.out.mono ?_
              rintro e w7 ⟨rfl, hb7⟩
              have HB7 := Lib.hid (below3 HBD.out hb7)
              have HS7 := Lib.hid (HSW.out _ hb7)
              clear hb7
              refine hK.out _ _ HS7.out (fun hHeld => ?_)
              clear hK K
              try simp only [Act.put, List.setIfInBounds_toArray, List.set_cons_zero, List.set_cons_succ]
              refine take_in (i := 8) _ (some 45) (by kernel_rfl) (by kernel_rfl) (by kernel_rfl) (by kernel_rfl) (fun _ _ _ h => h) (by rfl) (fun o ho w hSw => by cases ho; (try dsimp only at hSw); (try go_split_ands); go_simp; (try with_reducible rfl)) hHeld ?_
              try simp only [Act.put, List.setIfInBounds_toArray, List.set_cons_zero, List.set_cons_succ]
              refine take_in (i := 9) _ (some 46) (by kernel_rfl) (by kernel_rfl) (by kernel_rfl) (by kernel_rfl) (fun _ _ _ h => h) (by rfl) (fun o ho w hSw => by cases ho; (try dsimp only at hSw); (try go_split_ands); go_simp; (try with_reducible rfl)) hHeld ?_
              try simp only [Act.put, List.setIfInBounds_toArray, List.set_cons_zero, List.set_cons_succ]
              refine take_in (i := 10) _ (some 47) (by kernel_rfl) (by kernel_rfl) (by kernel_rfl) (by kernel_rfl) (fun _ _ _ h => h) (by rfl) (fun o ho w hSw => by cases ho; (try dsimp only at hSw); (try go_split_ands); go_simp; (try with_reducible rfl)) hHeld ?_
              try simp only [Act.put, List.setIfInBounds_toArray, List.set_cons_zero, List.set_cons_succ]
              refine take_in (i := 11) _ (some 48) (by kernel_rfl) (by kernel_rfl) (by kernel_rfl) (by kernel_rfl) (fun _ _ _ h => h) (by rfl) (fun o ho w hSw => by cases ho; (try dsimp only at hSw); (try go_split_ands); go_simp; (try with_reducible rfl)) hHeld ?_
              try simp only [Act.put, List.setIfInBounds_toArray, List.set_cons_zero, List.set_cons_succ]
              refine take_in (i := 12) _ (some 49) (by kernel_rfl) (by kernel_rfl) (by kernel_rfl) (by kernel_rfl) (fun _ _ _ h => h) (by rfl) (fun o ho w hSw => by cases ho; (try dsimp only at hSw); (try go_split_ands); go_simp; (try with_reducible rfl)) hHeld ?_
              try simp only [Act.put, List.setIfInBounds_toArray, List.set_cons_zero, List.set_cons_succ]
              refine take_in (i := 13) _ (some 50) (by kernel_rfl) (by kernel_rfl) (by kernel_rfl) (by kernel_rfl) (fun _ _ _ h => h) (by rfl) (fun o ho w hSw => by cases ho; (try dsimp only at hSw); (try go_split_ands); go_simp; (try with_reducible rfl)) hHeld ?_
              try simp only [Act.put, List.setIfInBounds_toArray, List.set_cons_zero, List.set_cons_succ]
              refine take_in (i := 14) _ (some 51) (by kernel_rfl) (by kernel_rfl) (by kernel_rfl) (by kernel_rfl) (fun _ _ _ h => h) (by rfl) (fun o ho w hSw => by cases ho; (try dsimp only at hSw); (try go_split_ands); go_simp; (try with_reducible rfl)) hHeld ?_
              try simp only [Act.put, List.setIfInBounds_toArray, List.set_cons_zero, List.set_cons_succ]
              refine take_in (i := 15) _ (some 52) (by kernel_rfl) (by kernel_rfl) (by kernel_rfl) (by kernel_rfl) (fun _ _ _ h => h) (by rfl) (fun o ho w hSw => by cases ho; (try dsimp only at hSw); (try go_split_ands); go_simp; (try with_reducible rfl)) hHeld ?_
              try simp only [Act.put, List.setIfInBounds_toArray, List.set_cons_zero, List.set_cons_succ]
              refine take_in (i := 16) _ (some 53) (by kernel_rfl) (by kernel_rfl) (by kernel_rfl) (by kernel_rfl) (fun _ _ _ h => h) (by rfl) (fun o ho w hSw => by cases ho; (try dsimp only at hSw); (try go_split_ands); go_simp; (try with_reducible rfl)) hHeld ?_
              try simp only [Act.put, List.setIfInBounds_toArray, List.set_cons_zero, List.set_cons_succ]
              refine take_in (i := 17) _ (some 54) (by kernel_rfl) (by kernel_rfl) (by kernel_rfl) (by kernel_rfl) (fun _ _ _ h => h) (by rfl) (fun o ho w hSw => by cases ho; (try dsimp only at hSw); (try go_split_ands); go_simp; (try with_reducible rfl)) hHeld ?_
              try simp only [Act.put, List.setIfInBounds_toArray, List.set_cons_zero, List.set_cons_succ]
              refine take_in (i := 18) _ (some 55) (by kernel_rfl) (by kernel_rfl) (by kernel_rfl) (by kernel_rfl) (fun _ _ _ h => h) (by rfl) (fun o ho w hSw => by cases ho; (try dsimp only at hSw); (try go_split_ands); go_simp; (try with_reducible rfl)) hHeld ?_
              try simp only [Act.put, List.setIfInBounds_toArray, List.set_cons_zero, List.set_cons_succ]
              refine take_in (i := 19) _ (some 56) (by kernel_rfl) (by kernel_rfl) (by kernel_rfl) (by kernel_rfl) (fun _ _ _ h => h) (by rfl) (fun o ho w hSw => by cases ho; (try dsimp only at hSw); (try go_split_ands); go_simp; (try with_reducible rfl)) hHeld ?_
              try simp only [Act.put, List.setIfInBounds_toArray, List.set_cons_zero, List.set_cons_succ]
              refine take_in (i := 20) _ (some 57) (by kernel_rfl) (by kernel_rfl) (by kernel_rfl) (by kernel_rfl) (fun _ _ _ h => h) (by rfl) (fun o ho w hSw => by cases ho; (try dsimp only at hSw); (try go_split_ands); go_simp; (try with_reducible rfl)) hHeld ?_
              try simp only [Act.put, List.setIfInBounds_toArray, List.set_cons_zero, List.set_cons_succ]
              refine take_in (i := 21) _ (some 58) (by kernel_rfl) (by kernel_rfl) (by kernel_rfl) (by kernel_rfl) (fun _ _ _ h => h) (by rfl) (fun o ho w hSw => by cases ho; (try dsimp only at hSw); (try go_split_ands); go_simp; (try with_reducible rfl)) hHeld ?_
              try simp only [Act.put, List.setIfInBounds_toArray, List.set_cons_zero, List.set_cons_succ]
              refine take_in (i := 22) _ (some 59) (by kernel_rfl) (by kernel_rfl) (by kernel_rfl) (by kernel_rfl) (fun _ _ _ h => h) (by rfl) (fun o ho w hSw => by cases ho; (try dsimp only at hSw); (try go_split_ands); go_simp; (try with_reducible rfl)) hHeld ?_
              try simp only [Act.put, List.setIfInBounds_toArray, List.set_cons_zero, List.set_cons_succ]
              refine take_in (i := 23) _ (some 60) (by kernel_rfl) (by kernel_rfl) (by kernel_rfl) (by kernel_rfl) (fun _ _ _ h => h) (by rfl) (fun o ho w hSw => by cases ho; (try dsimp only at hSw); (try go_split_ands); go_simp; (try with_reducible rfl)) hHeld ?_
              try simp only [Act.put, List.setIfInBounds_toArray, List.set_cons_zero, List.set_cons_succ]
              refine take_in (i := 24) _ (some 61) (by kernel_rfl) (by kernel_rfl) (by kernel_rfl) (by kernel_rfl) (fun _ _ _ h => h) (by rfl) (fun o ho w hSw => by cases ho; (try dsimp only at hSw); (try go_split_ands); go_simp; (try with_reducible rfl)) hHeld ?_
              try simp only [Act.put, List.setIfInBounds_toArray, List.set_cons_zero, List.set_cons_succ]
              refine take_in (i := 25) _ (some 62) (by kernel_rfl) (by kernel_rfl) (by kernel_rfl) (by kernel_rfl) (fun _ _ _ h => h) (by rfl) (fun o ho w hSw => by cases ho; (try dsimp only at hSw); (try go_split_ands); go_simp; (try with_reducible rfl)) hHeld ?_
              try simp only [Act.put, List.setIfInBounds_toArray, List.set_cons_zero, List.set_cons_succ]
              refine take_in (i := 26) _ (some 63) (by kernel_rfl) (by kernel_rfl) (by kernel_rfl) (by kernel_rfl) (fun _ _ _ h => h) (by rfl) (fun o ho w hSw => by cases ho; (try dsimp only at hSw); (try go_split_ands); go_simp; (try with_reducible rfl)) hHeld ?_
              try simp only [Act.put, List.setIfInBounds_toArray, List.set_cons_zero, List.set_cons_succ]
              refine take_in (i := 27) _ (some 64) (by kernel_rfl) (by kernel_rfl) (by kernel_rfl) (by kernel_rfl) (fun _ _ _ h => h) (by rfl) (fun o ho w hSw => by cases ho; (try dsimp only at hSw); (try go_split_ands); go_simp; (try with_reducible rfl)) hHeld ?_
              try simp only [Act.put, List.setIfInBounds_toArray, List.set_cons_zero, List.set_cons_succ]
              refine take_in (i := 28) _ (some 65) (by kernel_rfl) (by kernel_rfl) (by kernel_rfl) (by kernel_rfl) (fun _ _ _ h => h) (by rfl) (fun o ho w hSw => by cases ho; (try dsimp only at hSw); (try go_split_ands); go_simp; (try with_reducible rfl)) hHeld ?_
              try simp only [Act.put, List.setIfInBounds_toArray, List.set_cons_zero, List.set_cons_succ]
              refine wpAnyH_done (by kernel_rfl) ?_ _
              refine NoPanic.normal ?_
              clear HSD HSW HS7 HC
              go_wp2
              go_roundw
              case rel => exact ⟨k + 1, by omega, by rw [HN.out], by go_num, HB7⟩
              case measure => simp [intOf]; omega
      case neg =>
        obtain rfl : k = rn := by omega
        have HFB := HFW.out _ hB.out
        have hsr : ∀ g ∈ gs, g.n ≤ 1000 ∧ Short g.ps := fun g hg => ⟨HG3.out g hg, fun p hp => by
          have h1 := HSH.out g hg p hp
          have h2 := (HFB.g.2 g hg).even p hp
          omega⟩
        have HLK := Lib.hid (lookup_fib_any tA gA lA2 bA2 nA2 k tc gn gc ln lc2 bn bc2 nn nc2 w4.heap.size Q.2 gs a wq HFB.t HFB.g hB.out.size HFB.tn ha hsr)
        clear HFB hsr
        rcases HTT.out with ⟨hb0, hl0⟩ | ⟨i, r, g, hb0, hi, hr, hl0, hgm, hgo⟩
        · rw [hl0] at HLK
          rw [hb0]
          clear hb0 hl0 HTT HPR
          have HLK2 : Hid (Calls Tryd.prog 13 #[.agg #[.slice tA k tc, .slice gA gn gc, .slice lA2 ln lc2, .slice bA2 bn bc2, .slice nA2 nn nc2], .int .u32 a] wq fun e w' => e = .returned (.tuple #[.agg #[.int .i64 0, .slice none 0 0], .bool false]) ∧ Below wq.heap.size wq w') := HLK
          clear HLK
          have z0 := HFQ.out.cell 0
          have z1 := HFQ.out.cell 1
          have z2 := HFQ.out.cell 2
          have z3 := HFQ.out.cell 3
          have z4 := HFQ.out.cell 4
          simp only [List.getElem?_cons_zero, List.getElem?_cons_succ] at z0 z1 z2 z3 z4
          go_wp2_with fail
          refine HLK2.out.mono ?_
          rintro e w5 ⟨rfl, hb5⟩
          clear z0 z1 z2 z3 z4
          have hB5 := Lib.hid (below3 hB.out hb5)
          obtain ⟨w6, hw6⟩ : ∃ w6, w5.alloc (.cells #[.int .i64 0, .slice none 0 0] 51) = w6 := ⟨_, rfl⟩
          have HE6 : Hid (Blk w6 w5.heap.size 51 [.int .i64 0, .slice none 0 0]) := by show Blk _ _ _ _; rw [← hw6]; exact Blk.new w5 _ _
          have hb6 : Below w5.heap.size w5 w6 := by rw [← hw6]; exact belowA _ _
          obtain ⟨w7, hw7⟩ : ∃ w7, w6.setRow w5.heap.size #[.int .i64 0, .slice none 0 0] = w7 := ⟨_, rfl⟩
          have hsr : Save w5.heap.size w6 w7 := by rw [← hw7]; exact Save.row _ _ _
          have hB6 := Lib.hid (below3 hB5.out hb6)
          have hB7 : Hid (Below w4.heap.size w4 w7) := by
            show Below _ _ _
            exact hB6.out.trans (hsr.below hB5.out.size hB6.out.size)
          clear hb5 hb6 hsr
          have HF7 := Lib.hid (HF4.out.keep hB7.out)
          have HP7 := Lib.hid (HP4.out.keep hB7.out)
          have HB7 := Lib.hid (below3 HB4.out hB7.out)
          have HCK := Lib.hid (fibCheck_any tA gA lA2 bA2 nA2 k tc gn gc ln lc2 bn bc2 nn nc2 w4.heap.size Q.2 gs ls bs2 ns w7 (HFW.out _ hB7.out) hB7.out.size)
          rw [HZ0.out] at HCK
          have z0 := HF7.out.cell 0
          have z1 := HF7.out.cell 1
          have z2 := HF7.out.cell 2
          have z3 := HF7.out.cell 3
          have z4 := HF7.out.cell 4
          have p0 := HP7.out.cell 0
          simp only [List.getElem?_cons_zero, List.getElem?_cons_succ] at z0 z1 z2 z3 z4 p0
          have hlz := HF7.out.lt
          have hlpz := HP7.out.lt
          go_upto_region 14 with (refine wpList_store_blk rfl 51 _ _ rfl w5.heap.size rfl rfl HE6.out (by kernel_rfl) rfl (by kernel_rfl) ?_)
          try rw [hw7]
          go_wp2_with fail
          refine HCK.out.mono ?_
          rintro e w8 ⟨rfl, hb8⟩
          have hB8 := Lib.hid (below3 hB7.out hb8)
          have HF8 := Lib.hid (HF7.out.keep hb8)
          have HP8 := Lib.hid (HP7.out.keep hb8)
          have HB8 := Lib.hid (below3 HB7.out hb8)
          have HL := Lib.hid (HLV.out w8 HB8.out)
          clear hb8 HCK z0 z1 z2 z3 z4 p0 hlz hlpz
          have z0 := HF8.out.cell 0
          have z1 := HF8.out.cell 1
          have z2 := HF8.out.cell 2
          have z3 := HF8.out.cell 3
          have z4 := HF8.out.cell 4
          have p0 := HP8.out.cell 0
          simp only [List.getElem?_cons_zero, List.getElem?_cons_succ] at z0 z1 z2 z3 z4 p0
          have hlz := HF8.out.lt
          have hlpz := HP8.out.lt
          go_wp2_with fail
          refine HL.out.mono ?_
          rintro e w9 ⟨rfl, hb9⟩
          have HB9 := Lib.hid (below3 HB8.out hb9)
          clear hb9 HL
          go_wp2
          go_ret
          exact ⟨rfl, HB9.out⟩
        · rw [hl0] at HLK
          rw [hb0]
          clear hb0 hl0 HTT HPR
          have HLK2 : Hid (Calls Tryd.prog 13 #[.agg #[.slice tA k tc, .slice gA gn gc, .slice lA2 ln lc2, .slice bA2 bn bc2, .slice nA2 nn nc2], .int .u32 a] wq fun e w' => ∃ A c qs, e = .returned (.tuple #[.agg #[.int .i64 g.act, .slice A g.n c], .bool true]) ∧ Paths w' w'.heap.size A g.n c qs ∧ qs.map PV.dat = g.ps.map PV.dat ∧ (∀ p ∈ qs, FreshL wq.heap.size p) ∧ Below wq.heap.size wq w') := HLK
          clear HLK
          obtain ⟨ra, rl, rp, rd, rm, rt, hA, hn, hc, hs⟩ := r
          have hrn80 : hn ≤ 140737488355328 := ((HXW.out _ HBQ.out).r.2 _ (List.mem_of_getElem? hr)).2.1
          have hrhl : hs.length = hn := ((HXW.out _ HBQ.out).r.2 _ (List.mem_of_getElem? hr)).2.2.2
          have hgl : g.ps.length = g.n := ((HFW.out _ hB.out).g.2 g hgm).1.2
          have hact : g.act = (hn : Nat) := hgo.act
          have hglen : hn ≤ g.n := by have h1 : hs.length ≤ g.ps.length := hgo.len; omega
          obtain ⟨gp, hgp⟩ : ∃ gp, g.n = gp := ⟨_, rfl⟩
          rw [hact, hgp] at HLK2
          rw [hgp] at hglen
          have hirn : i < k := by omega
          have HHO : Hid (∀ (qs : List PV), qs.map PV.dat = g.ps.map PV.dat → ∀ (j : Nat) (h : XH) (q : PV), hs[j]? = some h → qs[j]? = some q → HopP h q) := fun qs hqs j h q h1 h2 => hopP_of hgo hqs h1 h2
          have HR := Lib.hid hr
          clear hgm hgo hgl hact hgp hr
          have z0 := HFQ.out.cell 0
          have z1 := HFQ.out.cell 1
          have z2 := HFQ.out.cell 2
          have z3 := HFQ.out.cell 3
          have z4 := HFQ.out.cell 4
          simp only [List.getElem?_cons_zero, List.getElem?_cons_succ] at z0 z1 z2 z3 z4
          go_wp2_with fail
          refine HLK2.out.mono ?_
          rintro e w5 ⟨gA5, gc5, qs, rfl, hps, hqd, _, hb5⟩
          clear z0 z1 z2 z3 z4
          have hB5 := Lib.hid (below3 hB.out hb5)
          have HHP := Lib.hid (HHO.out qs hqd)
          obtain ⟨w6, hw6⟩ : ∃ w6, w5.alloc (.cells #[.int .i64 hn, .slice gA5 gp gc5] 51) = w6 := ⟨_, rfl⟩
          have HE6 : Hid (Blk w6 w5.heap.size 51 [.int .i64 hn, .slice gA5 gp gc5]) := by show Blk _ _ _ _; rw [← hw6]; exact Blk.new w5 _ _
          have hb6 : Below w5.heap.size w5 w6 := by rw [← hw6]; exact belowA _ _
          have hB6 := Lib.hid (below3 hB5.out hb6)
          have HPW : Hid (∀ W, Below w6.heap.size w6 W → Paths W w6.heap.size gA5 gp gc5 qs) := fun W h => ((hps.below hb6).more hb6.size).below h
          clear hb5 hb6 hps hqd HHO
          have HF6 := Lib.hid (HF4.out.keep hB6.out)
          have HP6 := Lib.hid (HP4.out.keep hB6.out)
          have HB6 := Lib.hid (below3 HB4.out hB6.out)
          have HCK := Lib.hid (fibCheck_any tA gA lA2 bA2 nA2 k tc gn gc ln lc2 bn bc2 nn nc2 w4.heap.size Q.2 gs ls bs2 ns w6 (HFW.out _ hB6.out) hB6.out.size)
          rw [HZ0.out] at HCK
          have d1 : decide ((i : Int) ≥ 0) = true := decide_eq_true (by omega)
          have d2 : decide ((0 : Int) ≤ (i : Int)) = true := decide_eq_true (by omega)
          have z0 := HF6.out.cell 0
          have z1 := HF6.out.cell 1
          have z2 := HF6.out.cell 2
          have z3 := HF6.out.cell 3
          have z4 := HF6.out.cell 4
          have p0 := HP6.out.cell 0
          simp only [List.getElem?_cons_zero, List.getElem?_cons_succ] at z0 z1 z2 z3 z4 p0
          have hlz := HF6.out.lt
          have hlpz := HP6.out.lt
          go_wp2_with fail
          refine HCK.out.mono ?_
          rintro e w8 ⟨rfl, hb8⟩
          have hB8 := Lib.hid (below3 hB6.out hb8)
          have HF8 := Lib.hid (HF6.out.keep hb8)
          have HP8 := Lib.hid (HP6.out.keep hb8)
          have HE8 := Lib.hid (HE6.out.keep hb8)
          have HB8 := Lib.hid (below3 HB6.out hb8)
          have HB68 := Lib.hid hb8
          clear hb8 HCK z0 z1 z2 z3 z4 p0 hlz hlpz
          have z0 := HF8.out.cell 0
          have z1 := HF8.out.cell 1
          have z2 := HF8.out.cell 2
          have z3 := HF8.out.cell 3
          have z4 := HF8.out.cell 4
          have p0 := HP8.out.cell 0
          simp only [List.getElem?_cons_zero, List.getElem?_cons_succ] at z0 z1 z2 z3 z4 p0
          have hlz := HF8.out.lt
          have hlpz := HP8.out.lt
          have e0 := HE8.out.cell 0
          have e1 := HE8.out.cell 1
          simp only [List.getElem?_cons_zero, List.getElem?_cons_succ] at e0 e1
          have he8 := HE8.out.lt
          have dlt : decide ((gp : Int) < (hn : Int)) = false := decide_eq_false (by omega)
          obtain ⟨wD, hwD⟩ : ∃ wD, w8.drew = wD := ⟨_, rfl⟩
          have hbD : Below w8.heap.size w8 wD := by rw [← hwD]; exact (Below.refl _ _).drew
          have hBD := Lib.hid (below3 hB8.out hbD)
          have HBD := Lib.hid (below3 HB4.out hBD.out)
          have HPD := Lib.hid (HP8.out.keep hbD)
          have HED := Lib.hid (HE8.out.keep hbD)
          have hs68 := (below3 HB68.out hbD).size
          have HPV := Lib.hid (HPW.out _ (below3 HB68.out hbD))
          obtain ⟨b, o, x, hbA, hbB, hxk, ⟨_, _, hxh⟩, _, _, _, _, _, _, c6⟩ := (HXW.out _ HBD.out).r.get hirn
          subst hbA
          rw [HR.out] at hxk
          obtain rfl := Option.some.inj hxk
          dsimp only at hxh c6
          have g0 : wD.cell? ⟨w.heap.size, 0, none⟩ = some (.slice (some ⟨b, o, none⟩) k rc) := HPD.out.cell 0
          have y0 : wD.cell? ⟨w5.heap.size, 0, none⟩ = some (.int .i64 hn) := HED.out.cell 0
          have y1 : wD.cell? ⟨w5.heap.size, 1, none⟩ = some (.slice gA5 gp gc5) := HED.out.cell 1
          have HXH := Lib.hid hxh
          have HSD : Hid (wD.cell? ⟨w.heap.size, 0, none⟩ = some (.slice (some ⟨b, o, none⟩) k rc) ∧ wD.cell? ⟨w5.heap.size, 0, none⟩ = some (.int .i64 hn) ∧ wD.cell? ⟨w5.heap.size, 1, none⟩ = some (.slice gA5 gp gc5) ∧ wD.cell? ⟨b, o + i * 7 + 6, none⟩ = some (.slice hA hn hc)) := ⟨g0, y0, y1, c6⟩
          clear hxk hbD z1 z2 z3 z4 e0 e1 he8 hxh g0 y0 y1 c6
          go_upto_region 18 with fail
          clear z0 p0 hlz hlpz
          refine wp_region_noPanic ?_
          refine wp_region_held_drew (S := fun V => V.cell? ⟨w.heap.size, 0, none⟩ = some (.slice (some ⟨b, o, none⟩) k rc) ∧ V.cell? ⟨w5.heap.size, 0, none⟩ = some (.int .i64 hn) ∧ V.cell? ⟨w5.heap.size, 1, none⟩ = some (.slice gA5 gp gc5) ∧ V.cell? ⟨b, o + i * 7 + 6, none⟩ = some (.slice hA hn hc)) (by kernel_rfl) (by rw [hwD]; exact HSD.out) (fun hHeld => ?_)
          rw [hwD] at hHeld ⊢
          clear hwD
          refine take_in (i := 0) _ (some 95) (by kernel_rfl) (by kernel_rfl) (by kernel_rfl) (by kernel_rfl) (fun _ _ _ h => h) (by rfl) (fun o ho w hSw => by cases ho; (try dsimp only at hSw); (try go_split_ands); go_simp; (try with_reducible rfl)) hHeld ?_
          try simp only [Act.put, List.setIfInBounds_toArray, List.set_cons_zero, List.set_cons_succ]
          refine take_in (i := 1) _ (some 96) (by kernel_rfl) (by kernel_rfl) (by kernel_rfl) (by kernel_rfl) (fun _ _ _ h => h) (by rfl) (fun o ho w hSw => by cases ho; (try dsimp only at hSw); (try go_split_ands); go_simp; (try with_reducible rfl)) hHeld ?_
          try simp only [Act.put, List.setIfInBounds_toArray, List.set_cons_zero, List.set_cons_succ]
          refine take_in (i := 2) _ (some 97) (by kernel_rfl) (by kernel_rfl) (by kernel_rfl) (by kernel_rfl) (fun _ _ _ h => h) (by rfl) (fun o ho w hSw => by cases ho; (try dsimp only at hSw); (try go_split_ands); go_simp; (try with_reducible rfl)) hHeld ?_
          try simp only [Act.put, List.setIfInBounds_toArray, List.set_cons_zero, List.set_cons_succ]
          refine take_in (i := 3) _ (some 98) (by kernel_rfl) (by kernel_rfl) (by kernel_rfl) (by kernel_rfl) (fun _ _ _ h => h) (by rfl) (fun o ho w hSw => by cases ho; (try dsimp only at hSw); (try go_split_ands); go_simp; (try with_reducible rfl)) hHeld ?_
          try simp only [Act.put, List.setIfInBounds_toArray, List.set_cons_zero, List.set_cons_succ]
          refine take_in (i := 4) _ (some 99) (by kernel_rfl) (by kernel_rfl) (by kernel_rfl) (by kernel_rfl) (fun _ _ _ h => h) (by rfl) (fun o ho w hSw => by cases ho; (try dsimp only at hSw); (try go_split_ands); go_simp; (try with_reducible rfl)) hHeld ?_
          try simp only [Act.put, List.setIfInBounds_toArray, List.set_cons_zero, List.set_cons_succ]
          refine take_in (i := 5) _ (some 100) (by kernel_rfl) (by kernel_rfl) (by kernel_rfl) (by kernel_rfl) (fun _ _ _ h => h) (by rfl) (fun o ho w hSw => by cases ho; (try dsimp only at hSw); (try go_split_ands); go_simp; (try with_reducible rfl)) hHeld ?_
          try simp only [Act.put, List.setIfInBounds_toArray, List.set_cons_zero, List.set_cons_succ]
          refine take_in (i := 6) _ (some 101) (by kernel_rfl) (by kernel_rfl) (by kernel_rfl) (by kernel_rfl) (fun _ _ _ h => h) (by rfl) (fun o ho w hSw => by cases ho; (try dsimp only at hSw); (try go_split_ands); go_simp; (try with_reducible rfl)) hHeld ?_
          try simp only [Act.put, List.setIfInBounds_toArray, List.set_cons_zero, List.set_cons_succ]
          refine take_in (i := 7) _ (some 102) (by kernel_rfl) (by kernel_rfl) (by kernel_rfl) (by kernel_rfl) (fun _ _ _ h => h) (by rfl) (fun o ho w hSw => by cases ho; (try dsimp only at hSw); (try go_split_ands); go_simp; (try with_reducible rfl)) hHeld ?_
          try simp only [Act.put, List.setIfInBounds_toArray, List.set_cons_zero, List.set_cons_succ]
          refine take_in (i := 8) _ (some 103) (by kernel_rfl) (by kernel_rfl) (by kernel_rfl) (by kernel_rfl) (fun _ _ _ h => h) (by rfl) (fun o ho w hSw => by cases ho; (try dsimp only at hSw); (try go_split_ands); go_simp; (try with_reducible rfl)) hHeld ?_
          try simp only [Act.put, List.setIfInBounds_toArray, List.set_cons_zero, List.set_cons_succ]
          refine take_in (i := 9) _ (some 104) (by kernel_rfl) (by kernel_rfl) (by kernel_rfl) (by kernel_rfl) (fun _ _ _ h => h) (by rfl) (fun o ho w hSw => by cases ho; (try dsimp only at hSw); (try go_split_ands); go_simp; (try with_reducible rfl)) hHeld ?_
          try simp only [Act.put, List.setIfInBounds_toArray, List.set_cons_zero, List.set_cons_succ]
          refine take_in (i := 10) _ (some 105) (by kernel_rfl) (by kernel_rfl) (by kernel_rfl) (by kernel_rfl) (fun _ _ _ h => h) (by rfl) (fun o ho w hSw => by cases ho; (try dsimp only at hSw); (try go_split_ands); go_simp; (try with_reducible rfl)) hHeld ?_
          try simp only [Act.put, List.setIfInBounds_toArray, List.set_cons_zero, List.set_cons_succ]
          refine take_in (i := 11) _ (some 106) (by kernel_rfl) (by kernel_rfl) (by kernel_rfl) (by kernel_rfl) (fun _ _ _ h => h) (by rfl) (fun o ho w hSw => by cases ho; (try dsimp only at hSw); (try go_split_ands); go_simp; (try with_reducible rfl)) hHeld ?_
          try simp only [Act.put, List.setIfInBounds_toArray, List.set_cons_zero, List.set_cons_succ]
          refine take_in (i := 12) _ (some 107) (by kernel_rfl) (by kernel_rfl) (by kernel_rfl) (by kernel_rfl) (fun _ _ _ h => h) (by rfl) (fun o ho w hSw => by cases ho; (try dsimp only at hSw); (try go_split_ands); go_simp; (try with_reducible rfl)) hHeld ?_
          try simp only [Act.put, List.setIfInBounds_toArray, List.set_cons_zero, List.set_cons_succ]
          refine take_in (i := 13) _ (some 108) (by kernel_rfl) (by kernel_rfl) (by kernel_rfl) (by kernel_rfl) (fun _ _ _ h => h) (by rfl) (fun o ho w hSw => by cases ho; (try dsimp only at hSw); (try go_split_ands); go_simp; (try with_reducible rfl)) hHeld ?_
          try simp only [Act.put, List.setIfInBounds_toArray, List.set_cons_zero, List.set_cons_succ]
          refine take_in (i := 14) _ (some 109) (by kernel_rfl) (by kernel_rfl) (by kernel_rfl) (by kernel_rfl) (fun _ _ _ h => h) (by rfl) (fun o ho w hSw => by cases ho; (try dsimp only at hSw); (try go_split_ands); go_simp; (try with_reducible rfl)) hHeld ?_
          try simp only [Act.put, List.setIfInBounds_toArray, List.set_cons_zero, List.set_cons_succ]
          refine take_in (i := 15) _ (some 110) (by kernel_rfl) (by kernel_rfl) (by kernel_rfl) (by kernel_rfl) (fun _ _ _ h => h) (by rfl) (fun o ho w hSw => by cases ho; (try dsimp only at hSw); (try go_split_ands); go_simp; (try with_reducible rfl)) hHeld ?_
          try simp only [Act.put, List.setIfInBounds_toArray, List.set_cons_zero, List.set_cons_succ]
          refine take_in (i := 16) _ (some 111) (by kernel_rfl) (by kernel_rfl) (by kernel_rfl) (by kernel_rfl) (fun _ _ _ h => h) (by rfl) (fun o ho w hSw => by cases ho; (try dsimp only at hSw); (try go_split_ands); go_simp; (try with_reducible rfl)) hHeld ?_
          try simp only [Act.put, List.setIfInBounds_toArray, List.set_cons_zero, List.set_cons_succ]
          refine take_in (i := 17) _ (some 112) (by kernel_rfl) (by kernel_rfl) (by kernel_rfl) (by kernel_rfl) (fun _ _ _ h => h) (by rfl) (fun o ho w hSw => by cases ho; (try dsimp only at hSw); (try go_split_ands); go_simp; (try with_reducible rfl)) hHeld ?_
          try simp only [Act.put, List.setIfInBounds_toArray, List.set_cons_zero, List.set_cons_succ]
          refine wpAnyH_done (by kernel_rfl) ?_ _
          refine NoPanic.normal ?_
          obtain ⟨g0, y0, y1, c6⟩ := HSD.out
          have HI2 : Hid (∃ j : Nat, j ≤ hn ∧ (Value.int .i64 (0 : Nat)) = .int .i64 j ∧ Hid (Below wD.heap.size wD wD)) := ⟨0, Nat.zero_le _, rfl, Lib.hid (Below.refl _ _)⟩
          have HDW : Hid (∀ V, Below wD.heap.size wD V → V.cell? ⟨w.heap.size, 0, none⟩ = some (.slice (some ⟨b, o, none⟩) k rc) ∧ V.cell? ⟨w5.heap.size, 1, none⟩ = some (.slice gA5 gp gc5) ∧ V.cell? ⟨b, o + i * 7 + 6, none⟩ = some (.slice hA hn hc)) := fun V hV => ⟨(hV.cell (p := ⟨w.heap.size, _, none⟩) HPD.out.lt).trans g0, (hV.cell (p := ⟨w5.heap.size, _, none⟩) HED.out.lt).trans y1, (hV.cell (p := ⟨b, _, none⟩) (by have := HBD.out.size; show b < _; omega)).trans c6⟩
          go_wp2
          go_loopw [120] (fun jv wr => ∃ j : Nat, j ≤ hn ∧ jv = .int .i64 j ∧ Hid (Below wD.heap.size wD wr)) (fun jv _ => hn - (intOf jv).toNat)
          case atStart => exact HI2.out
          case round =>
            obtain ⟨j, hj, rfl, hBj⟩ := hrel
            clear HI2 g0 y0 y1 c6
            obtain ⟨wj, rfl⟩ : ∃ wj, wj = wr := ⟨_, rfl⟩
            have HBJ := Lib.hid (below3 HBD.out hBj.out)
            by_cases hjl : j < hn
            case neg =>
              have HL2 := Lib.hid (HLV.out wj HBJ.out)
              go_wp2_with fail
              refine HL2.out.mono ?_
              rintro e w9 ⟨rfl, hb9⟩
              have HB9 := Lib.hid (below3 HBJ.out hb9)
              clear hb9 HL2
              go_wp2
              go_ret
              exact ⟨rfl, HB9.out⟩
            obtain ⟨g0, y1, c6⟩ := HDW.out wj hBj.out
            have hjg : j < gp := by omega
            obtain ⟨b3, o3, h, hhA, hhB, hhk, k0, k1, k2, k3, k4, k5⟩ := xh_cells (Recs.below HXH.out (hBj.out.mono (by have := HBD.out.size; omega))) hjl
            subst hhA
            obtain ⟨b4, o4, q, hqA, hqB, hqk, _, m0, m1, m2, m3, _, _⟩ := (HPV.out.below (hBj.out.mono hs68)).get hjg
            subst hqA
            have hhp := HHP.out j h q hhk hqk
            obtain ⟨qi, qa, qr, qw, _, _, _, _, _⟩ := q
            obtain ⟨ha1, hi1, hr1, hw1x, va1, vl1⟩ := h
            obtain ⟨t1, t2, t3, t4⟩ := hhp
            dsimp only at t1 t2 t3 t4 m0 m1 m2 m3 k0 k1 k2 k3 k4 k5
            subst t1 t2 t3 t4
            obtain ⟨wa, hwa⟩ : ∃ wa, wj.alloc (.cells #[.int .u32 qa, .int .i64 qi, .int .u32 qr, .int .i64 qw, .int .u32 va1, .int .i64 vl1] 55) = wa := ⟨_, rfl⟩
            have HHB : Hid (Blk wa wj.heap.size 55 [.int .u32 qa, .int .i64 qi, .int .u32 qr, .int .i64 qw, .int .u32 va1, .int .i64 vl1]) := by show Blk _ _ _ _; rw [← hwa]; exact Blk.new wj _ _
            have hba : Below wj.heap.size wj wa := by rw [← hwa]; exact belowA _ _
            obtain ⟨wE, hwE⟩ : ∃ wE, wa.drew = wE := ⟨_, rfl⟩
            have hbE : Below wa.heap.size wa wE := by rw [← hwE]; exact (Below.refl _ _).drew
            have HBE := Lib.hid (below3 hBj.out (below3 hba hbE))
            have hhe := HHB.out.keep hbE
            have hbj : Below wj.heap.size wj wE := below3 hba hbE
            have hb4j : b4 < wj.heap.size := by have := hBj.out.size; omega
            have HSE : Hid (wE.cell? ⟨w5.heap.size, 1, none⟩ = some (.slice (some ⟨b4, o4, none⟩) gp gc5) ∧ (wE.cell? ⟨b4, o4 + j * 6, none⟩ = some (.int .i64 qi) ∧ wE.cell? ⟨b4, o4 + j * 6 + 1, none⟩ = some (.int .u32 qa) ∧ wE.cell? ⟨b4, o4 + j * 6 + 2, none⟩ = some (.int .u32 qr) ∧ wE.cell? ⟨b4, o4 + j * 6 + 3, none⟩ = some (.int .i64 qw)) ∧ (wE.cell? ⟨wj.heap.size, 0, none⟩ = some (.int .u32 qa) ∧ wE.cell? ⟨wj.heap.size, 1, none⟩ = some (.int .i64 qi) ∧ wE.cell? ⟨wj.heap.size, 2, none⟩ = some (.int .u32 qr) ∧ wE.cell? ⟨wj.heap.size, 3, none⟩ = some (.int .i64 qw))) := ⟨(HDW.out wE HBE.out).2.1, ⟨(hbj.cell (p := ⟨b4, _, none⟩) hb4j).trans m0, (hbj.cell (p := ⟨b4, _, none⟩) hb4j).trans m1, (hbj.cell (p := ⟨b4, _, none⟩) hb4j).trans m2, (hbj.cell (p := ⟨b4, _, none⟩) hb4j).trans m3⟩, hhe.cell 0, hhe.cell 1, hhe.cell 2, hhe.cell 3⟩
            clear hhk hqk hba hbE hhe hbj m0 m1 m2 m3
            go_upto_region 24 with fail
            try rw [hwa]
            refine wp_region_noPanic ?_
            refine wp_region_held_drew (S := fun V => V.cell? ⟨w5.heap.size, 1, none⟩ = some (.slice (some ⟨b4, o4, none⟩) gp gc5) ∧ (V.cell? ⟨b4, o4 + j * 6, none⟩ = some (.int .i64 qi) ∧ V.cell? ⟨b4, o4 + j * 6 + 1, none⟩ = some (.int .u32 qa) ∧ V.cell? ⟨b4, o4 + j * 6 + 2, none⟩ = some (.int .u32 qr) ∧ V.cell? ⟨b4, o4 + j * 6 + 3, none⟩ = some (.int .i64 qw)) ∧ (V.cell? ⟨wj.heap.size, 0, none⟩ = some (.int .u32 qa) ∧ V.cell? ⟨wj.heap.size, 1, none⟩ = some (.int .i64 qi) ∧ V.cell? ⟨wj.heap.size, 2, none⟩ = some (.int .u32 qr) ∧ V.cell? ⟨wj.heap.size, 3, none⟩ = some (.int .i64 qw))) (by kernel_rfl) (by rw [hwE]; exact HSE.out) (fun hHeld => ?_)
            rw [hwE] at hHeld ⊢
            clear hwE g0 y1 c6 k0 k1 k2 k3 k4 k5
            refine take_in (i := 0) _ (some 132) (by kernel_rfl) (by kernel_rfl) (by kernel_rfl) (by kernel_rfl) (fun _ _ _ h => h) (by rfl) (fun o ho w hSw => by cases ho; (try dsimp only at hSw); (try go_split_ands); go_simp; (try with_reducible rfl)) hHeld ?_
            try simp only [Act.put, List.setIfInBounds_toArray, List.set_cons_zero, List.set_cons_succ]
            refine take_in (i := 1) _ (some 133) (by kernel_rfl) (by kernel_rfl) (by kernel_rfl) (by kernel_rfl) (fun _ _ _ h => h) (by rfl) (fun o ho w hSw => by cases ho; (try dsimp only at hSw); (try go_split_ands); go_simp; (try with_reducible rfl)) hHeld ?_
            try simp only [Act.put, List.setIfInBounds_toArray, List.set_cons_zero, List.set_cons_succ]
            refine take_in (i := 2) _ (some 134) (by kernel_rfl) (by kernel_rfl) (by kernel_rfl) (by kernel_rfl) (fun _ _ _ h => h) (by rfl) (fun o ho w hSw => by cases ho; (try dsimp only at hSw); (try go_split_ands); go_simp; (try with_reducible rfl)) hHeld ?_
            try simp only [Act.put, List.setIfInBounds_toArray, List.set_cons_zero, List.set_cons_succ]
            refine take_in (i := 3) _ (some 135) (by kernel_rfl) (by kernel_rfl) (by kernel_rfl) (by kernel_rfl) (fun _ _ _ h => h) (by rfl) (fun o ho w hSw => by cases ho; (try dsimp only at hSw); (try go_split_ands); go_simp; (try with_reducible rfl)) hHeld ?_
            try simp only [Act.put, List.setIfInBounds_toArray, List.set_cons_zero, List.set_cons_succ]
            refine take_in (i := 4) _ (some 136) (by kernel_rfl) (by kernel_rfl) (by kernel_rfl) (by kernel_rfl) (fun _ _ _ h => h) (by rfl) (fun o ho w hSw => by cases ho; (try dsimp only at hSw); (try go_split_ands); go_simp; (try with_reducible rfl)) hHeld ?_
            try simp only [Act.put, List.setIfInBounds_toArray, List.set_cons_zero, List.set_cons_succ]
            refine take_in (i := 5) _ (some 137) (by kernel_rfl) (by kernel_rfl) (by kernel_rfl) (by kernel_rfl) (fun _ _ _ h => h) (by rfl) (fun o ho w hSw => by cases ho; (try dsimp only at hSw); (try go_split_ands); go_simp; (try with_reducible rfl)) hHeld ?_
            try simp only [Act.put, List.setIfInBounds_toArray, List.set_cons_zero, List.set_cons_succ]
            refine take_in (i := 6) _ (some 138) (by kernel_rfl) (by kernel_rfl) (by kernel_rfl) (by kernel_rfl) (fun _ _ _ h => h) (by rfl) (fun o ho w hSw => by cases ho; (try dsimp only at hSw); (try go_split_ands); go_simp; (try with_reducible rfl)) hHeld ?_
            try simp only [Act.put, List.setIfInBounds_toArray, List.set_cons_zero, List.set_cons_succ]
            refine take_in (i := 7) _ (some 139) (by kernel_rfl) (by kernel_rfl) (by kernel_rfl) (by kernel_rfl) (fun _ _ _ h => h) (by rfl) (fun o ho w hSw => by cases ho; (try dsimp only at hSw); (try go_split_ands); go_simp; (try with_reducible rfl)) hHeld ?_
            try simp only [Act.put, List.setIfInBounds_toArray, List.set_cons_zero, List.set_cons_succ]
            refine take_in (i := 8) _ (some 140) (by kernel_rfl) (by kernel_rfl) (by kernel_rfl) (by kernel_rfl) (fun _ _ _ h => h) (by rfl) (fun o ho w hSw => by cases ho; (try dsimp only at hSw); (try go_split_ands); go_simp; (try with_reducible rfl)) hHeld ?_
            try simp only [Act.put, List.setIfInBounds_toArray, List.set_cons_zero, List.set_cons_succ]
            refine take_in (i := 9) _ (some 141) (by kernel_rfl) (by kernel_rfl) (by kernel_rfl) (by kernel_rfl) (fun _ _ _ h => h) (by rfl) (fun o ho w hSw => by cases ho; (try dsimp only at hSw); (try go_split_ands); go_simp; (try with_reducible rfl)) hHeld ?_
            try simp only [Act.put, List.setIfInBounds_toArray, List.set_cons_zero, List.set_cons_succ]
            refine take_in (i := 10) _ (some 142) (by kernel_rfl) (by kernel_rfl) (by kernel_rfl) (by kernel_rfl) (fun _ _ _ h => h) (by rfl) (fun o ho w hSw => by cases ho; (try dsimp only at hSw); (try go_split_ands); go_simp; (try with_reducible rfl)) hHeld ?_
            try simp only [Act.put, List.setIfInBounds_toArray, List.set_cons_zero, List.set_cons_succ]
            refine take_in (i := 11) _ (some 143) (by kernel_rfl) (by kernel_rfl) (by kernel_rfl) (by kernel_rfl) (fun _ _ _ h => h) (by rfl) (fun o ho w hSw => by cases ho; (try dsimp only at hSw); (try go_split_ands); go_simp; (try with_reducible rfl)) hHeld ?_
            try simp only [Act.put, List.setIfInBounds_toArray, List.set_cons_zero, List.set_cons_succ]
            refine take_in (i := 12) _ (some 144) (by kernel_rfl) (by kernel_rfl) (by kernel_rfl) (by kernel_rfl) (fun _ _ _ h => h) (by rfl) (fun o ho w hSw => by cases ho; (try dsimp only at hSw); (try go_split_ands); go_simp; (try with_reducible rfl)) hHeld ?_
            try simp only [Act.put, List.setIfInBounds_toArray, List.set_cons_zero, List.set_cons_succ]
            refine take_in (i := 13) _ (some 145) (by kernel_rfl) (by kernel_rfl) (by kernel_rfl) (by kernel_rfl) (fun _ _ _ h => h) (by rfl) (fun o ho w hSw => by cases ho; (try dsimp only at hSw); (try go_split_ands); go_simp; (try with_reducible rfl)) hHeld ?_
            try simp only [Act.put, List.setIfInBounds_toArray, List.set_cons_zero, List.set_cons_succ]
            refine take_in (i := 14) _ (some 146) (by kernel_rfl) (by kernel_rfl) (by kernel_rfl) (by kernel_rfl) (fun _ _ _ h => h) (by rfl) (fun o ho w hSw => by cases ho; (try dsimp only at hSw); (try go_split_ands); go_simp; (try with_reducible rfl)) hHeld ?_
            try simp only [Act.put, List.setIfInBounds_toArray, List.set_cons_zero, List.set_cons_succ]
            refine take_in (i := 15) _ (some 147) (by kernel_rfl) (by kernel_rfl) (by kernel_rfl) (by kernel_rfl) (fun _ _ _ h => h) (by rfl) (fun o ho w hSw => by cases ho; (try dsimp only at hSw); (try go_split_ands); go_simp; (try with_reducible rfl)) hHeld ?_
            try simp only [Act.put, List.setIfInBounds_toArray, List.set_cons_zero, List.set_cons_succ]
            refine take_in (i := 16) _ (some 148) (by kernel_rfl) (by kernel_rfl) (by kernel_rfl) (by kernel_rfl) (fun _ _ _ h => h) (by rfl) (fun o ho w hSw => by cases ho; (try dsimp only at hSw); (try go_split_ands); go_simp; (try with_reducible rfl)) hHeld ?_
            try simp only [Act.put, List.setIfInBounds_toArray, List.set_cons_zero, List.set_cons_succ]
            refine take_in (i := 17) _ (some 149) (by kernel_rfl) (by kernel_rfl) (by kernel_rfl) (by kernel_rfl) (fun _ _ _ h => h) (by rfl) (fun o ho w hSw => by cases ho; (try dsimp only at hSw); (try go_split_ands); go_simp; (try with_reducible rfl)) hHeld ?_
            try simp only [Act.put, List.setIfInBounds_toArray, List.set_cons_zero, List.set_cons_succ]
            refine take_in (i := 18) _ (some 150) (by kernel_rfl) (by kernel_rfl) (by kernel_rfl) (by kernel_rfl) (fun _ _ _ h => h) (by rfl) (fun o ho w hSw => by cases ho; (try dsimp only at hSw); (try go_split_ands); go_simp; (try with_reducible rfl)) hHeld ?_
            try simp only [Act.put, List.setIfInBounds_toArray, List.set_cons_zero, List.set_cons_succ]
            refine take_in (i := 19) _ (some 151) (by kernel_rfl) (by kernel_rfl) (by kernel_rfl) (by kernel_rfl) (fun _ _ _ h => h) (by rfl) (fun o ho w hSw => by cases ho; (try dsimp only at hSw); (try go_split_ands); go_simp; (try with_reducible rfl)) hHeld ?_
            try simp only [Act.put, List.setIfInBounds_toArray, List.set_cons_zero, List.set_cons_succ]
            refine take_in (i := 20) _ (some 152) (by kernel_rfl) (by kernel_rfl) (by kernel_rfl) (by kernel_rfl) (fun _ _ _ h => h) (by rfl) (fun o ho w hSw => by cases ho; (try dsimp only at hSw); (try go_split_ands); go_simp; (try with_reducible rfl)) hHeld ?_
            try simp only [Act.put, List.setIfInBounds_toArray, List.set_cons_zero, List.set_cons_succ]
            refine take_in (i := 21) _ (some 153) (by kernel_rfl) (by kernel_rfl) (by kernel_rfl) (by kernel_rfl) (fun _ _ _ h => h) (by rfl) (fun o ho w hSw => by cases ho; (try dsimp only at hSw); (try go_split_ands); go_simp; (try with_reducible rfl)) hHeld ?_
            try simp only [Act.put, List.setIfInBounds_toArray, List.set_cons_zero, List.set_cons_succ]
            refine take_in (i := 22) _ (some 154) (by kernel_rfl) (by kernel_rfl) (by kernel_rfl) (by kernel_rfl) (fun _ _ _ h => h) (by rfl) (fun o ho w hSw => by cases ho; (try dsimp only at hSw); (try go_split_ands); go_simp; (try with_reducible rfl)) hHeld ?_
            try simp only [Act.put, List.setIfInBounds_toArray, List.set_cons_zero, List.set_cons_succ]
            refine take_in (i := 23) _ (some 155) (by kernel_rfl) (by kernel_rfl) (by kernel_rfl) (by kernel_rfl) (fun _ _ _ h => h) (by rfl) (fun o ho w hSw => by cases ho; (try dsimp only at hSw); (try go_split_ands); go_simp; (try with_reducible rfl)) hHeld ?_
            try simp only [Act.put, List.setIfInBounds_toArray, List.set_cons_zero, List.set_cons_succ]
            refine take_in (i := 24) _ (some 156) (by kernel_rfl) (by kernel_rfl) (by kernel_rfl) (by kernel_rfl) (fun _ _ _ h => h) (by rfl) (fun o ho w hSw => by cases ho; (try dsimp only at hSw); (try go_split_ands); go_simp; (try with_reducible rfl)) hHeld ?_
            try simp only [Act.put, List.setIfInBounds_toArray, List.set_cons_zero, List.set_cons_succ]
            refine take_in (i := 25) _ (some 157) (by kernel_rfl) (by kernel_rfl) (by kernel_rfl) (by kernel_rfl) (fun _ _ _ h => h) (by rfl) (fun o ho w hSw => by cases ho; (try dsimp only at hSw); (try go_split_ands); go_simp; (try with_reducible rfl)) hHeld ?_
            try simp only [Act.put, List.setIfInBounds_toArray, List.set_cons_zero, List.set_cons_succ]
            refine take_in (i := 26) _ (some 158) (by kernel_rfl) (by kernel_rfl) (by kernel_rfl) (by kernel_rfl) (fun _ _ _ h => h) (by rfl) (fun o ho w hSw => by cases ho; (try dsimp only at hSw); (try go_split_ands); go_simp; (try with_reducible rfl)) hHeld ?_
            try simp only [Act.put, List.setIfInBounds_toArray, List.set_cons_zero, List.set_cons_succ]
            refine take_in (i := 27) _ (some 159) (by kernel_rfl) (by kernel_rfl) (by kernel_rfl) (by kernel_rfl) (fun _ _ _ h => h) (by rfl) (fun o ho w hSw => by cases ho; (try dsimp only at hSw); (try go_split_ands); go_simp; (try with_reducible rfl)) hHeld ?_
            try simp only [Act.put, List.setIfInBounds_toArray, List.set_cons_zero, List.set_cons_succ]
            refine take_in (i := 28) _ (some 160) (by kernel_rfl) (by kernel_rfl) (by kernel_rfl) (by kernel_rfl) (fun _ _ _ h => h) (by rfl) (fun o ho w hSw => by cases ho; (try dsimp only at hSw); (try go_split_ands); go_simp; (try with_reducible rfl)) hHeld ?_
            try simp only [Act.put, List.setIfInBounds_toArray, List.set_cons_zero, List.set_cons_succ]
            refine take_in (i := 29) _ (some 161) (by kernel_rfl) (by kernel_rfl) (by kernel_rfl) (by kernel_rfl) (fun _ _ _ h => h) (by rfl) (fun o ho w hSw => by cases ho; (try dsimp only at hSw); (try go_split_ands); go_simp; (try with_reducible rfl)) hHeld ?_
            try simp only [Act.put, List.setIfInBounds_toArray, List.set_cons_zero, List.set_cons_succ]
            refine take_in (i := 30) _ (some 162) (by kernel_rfl) (by kernel_rfl) (by kernel_rfl) (by kernel_rfl) (fun _ _ _ h => h) (by rfl) (fun o ho w hSw => by cases ho; (try dsimp only at hSw); (try go_split_ands); go_simp; (try with_reducible rfl)) hHeld ?_
            try simp only [Act.put, List.setIfInBounds_toArray, List.set_cons_zero, List.set_cons_succ]
            refine take_in (i := 31) _ (some 163) (by kernel_rfl) (by kernel_rfl) (by kernel_rfl) (by kernel_rfl) (fun _ _ _ h => h) (by rfl) (fun o ho w hSw => by cases ho; (try dsimp only at hSw); (try go_split_ands); go_simp; (try with_reducible rfl)) hHeld ?_
            try simp only [Act.put, List.setIfInBounds_toArray, List.set_cons_zero, List.set_cons_succ]
            refine take_in (i := 32) _ (some 164) (by kernel_rfl) (by kernel_rfl) (by kernel_rfl) (by kernel_rfl) (fun _ _ _ h => h) (by rfl) (fun o ho w hSw => by cases ho; (try dsimp only at hSw); (try go_split_ands); go_simp; (try with_reducible rfl)) hHeld ?_
            try simp only [Act.put, List.setIfInBounds_toArray, List.set_cons_zero, List.set_cons_succ]
            refine take_in (i := 33) _ (some 165) (by kernel_rfl) (by kernel_rfl) (by kernel_rfl) (by kernel_rfl) (fun _ _ _ h => h) (by rfl) (fun o ho w hSw => by cases ho; (try dsimp only at hSw); (try go_split_ands); go_simp; (try with_reducible rfl)) hHeld ?_
            try simp only [Act.put, List.setIfInBounds_toArray, List.set_cons_zero, List.set_cons_succ]
            refine take_in (i := 34) _ (some 166) (by kernel_rfl) (by kernel_rfl) (by kernel_rfl) (by kernel_rfl) (fun _ _ _ h => h) (by rfl) (fun o ho w hSw => by cases ho; (try dsimp only at hSw); (try go_split_ands); go_simp; (try with_reducible rfl)) hHeld ?_
            try simp only [Act.put, List.setIfInBounds_toArray, List.set_cons_zero, List.set_cons_succ]
            refine take_in (i := 35) _ (some 167) (by kernel_rfl) (by kernel_rfl) (by kernel_rfl) (by kernel_rfl) (fun _ _ _ h => h) (by rfl) (fun o ho w hSw => by cases ho; (try dsimp only at hSw); (try go_split_ands); go_simp; (try with_reducible rfl)) hHeld ?_
            try simp only [Act.put, List.setIfInBounds_toArray, List.set_cons_zero, List.set_cons_succ]
            refine take_in (i := 36) _ (some 168) (by kernel_rfl) (by kernel_rfl) (by kernel_rfl) (by kernel_rfl) (fun _ _ _ h => h) (by rfl) (fun o ho w hSw => by cases ho; (try dsimp only at hSw); (try go_split_ands); go_simp; (try with_reducible rfl)) hHeld ?_
            try simp only [Act.put, List.setIfInBounds_toArray, List.set_cons_zero, List.set_cons_succ]
            refine take_in (i := 37) _ (some 169) (by kernel_rfl) (by kernel_rfl) (by kernel_rfl) (by kernel_rfl) (fun _ _ _ h => h) (by rfl) (fun o ho w hSw => by cases ho; (try dsimp only at hSw); (try go_split_ands); go_simp; (try with_reducible rfl)) hHeld ?_
            try simp only [Act.put, List.setIfInBounds_toArray, List.set_cons_zero, List.set_cons_succ]
            refine take_in (i := 38) _ (some 170) (by kernel_rfl) (by kernel_rfl) (by kernel_rfl) (by kernel_rfl) (fun _ _ _ h => h) (by rfl) (fun o ho w hSw => by cases ho; (try dsimp only at hSw); (try go_split_ands); go_simp; (try with_reducible rfl)) hHeld ?_
            try simp only [Act.put, List.setIfInBounds_toArray, List.set_cons_zero, List.set_cons_succ]
            refine take_in (i := 39) _ (some 171) (by kernel_rfl) (by kernel_rfl) (by kernel_rfl) (by kernel_rfl) (fun _ _ _ h => h) (by rfl) (fun o ho w hSw => by cases ho; (try dsimp only at hSw); (try go_split_ands); go_simp; (try with_reducible rfl)) hHeld ?_
            try simp only [Act.put, List.setIfInBounds_toArray, List.set_cons_zero, List.set_cons_succ]
            refine take_in (i := 40) _ (some 172) (by kernel_rfl) (by kernel_rfl) (by kernel_rfl) (by kernel_rfl) (fun _ _ _ h => h) (by rfl) (fun o ho w hSw => by cases ho; (try dsimp only at hSw); (try go_split_ands); go_simp; (try with_reducible rfl)) hHeld ?_
            try simp only [Act.put, List.setIfInBounds_toArray, List.set_cons_zero, List.set_cons_succ]
            refine take_in (i := 41) _ (some 173) (by kernel_rfl) (by kernel_rfl) (by kernel_rfl) (by kernel_rfl) (fun _ _ _ h => h) (by rfl) (fun o ho w hSw => by cases ho; (try dsimp only at hSw); (try go_split_ands); go_simp; (try with_reducible rfl)) hHeld ?_
            try simp only [Act.put, List.setIfInBounds_toArray, List.set_cons_zero, List.set_cons_succ]
            refine wpAnyH_done (by kernel_rfl) ?_ _
            refine NoPanic.normal ?_
            clear HSE
            go_wp2
            go_roundw
            case rel => exact ⟨j + 1, by omega, by go_num, HBE⟩
            case measure => simp [intOf]; omega
theorem fibTable_walk (v : Value) (a : Int) (w : World) (hx : PlanIn w v) (ha : (Lit.int .u32 a).wf = true) (henv : Env w) : Calls Tryd.prog 4 #[v, .int .u32 a] w fun e w' => e = .returned (.bool true) ∧ Below w.heap.size w w' := by
  obtain ⟨h1, h2⟩ := wf_u32 ha
  obtain ⟨n, rfl⟩ : ∃ n : Nat, a = n := ⟨a.toNat, by omega⟩
  exact fibTable_main v n w (by omega) hx henv
end Go.Proofs.YtplppbgkkfjknaaDoor
namespace Go.Proofs.YtplppbgkkfjknaaDoor.fibTable
open Go.ChangeShapes Go.WideShapes Go.ChangeAt Go.RowKit
open Go.ChangeMaps (open_string shut_string)
set_option linter.unusedVariables false

theorem reads (os : Os) {H : Type} (enc : TypeId × Value → H) : ∃ places, DataW.whole enc Tryd.prog ((laidWorld os).forCall (fun _ _ => 0) ⟨#[], #[.agg #[.slice none 0 0, .slice none 0 0, .slice none 0 0, .slice none 0 0, .slice none 0 0, .slice none 0 0], .int .u32 0], []⟩).memory Tryd.f4.params.toList Rows.fibTableSpec.vars false (#[.agg #[.slice none 0 0, .slice none 0 0, .slice none 0 0, .slice none 0 0, .slice none 0 0, .slice none 0 0], .int .u32 0] : Array Value).toList 8 = some ([.agg [.nil, .nil, .nil, .nil, .nil, .nil], .lit (.int .u32 0)], [], places) :=
  ⟨[], by kernel_rfl⟩
set_option maxRecDepth 100000 in
theorem lifted (os : Os) (started : os.Started) (H : Type) (enc : TypeId × Value → H) (F : Stop.Interp) :
    ReturnsInHanded {} Tryd.checked os 4 .any ((OpenSpec.ofChange Rows.fibTableSpec).preRow enc Tryd.prog Tryd.f4 Rows.fibTableRow.domain false Rows.fibTableRow.laid) (((OpenSpec.ofChange Rows.fibTableSpec).at F).post enc Tryd.prog Tryd.f4 false true false false) := by
  obtain ⟨places, hx⟩ := reads os enc
  refine returnsInHanded_of_row (C := Tryd.checked) (s := (OpenSpec.ofChange Rows.fibTableSpec)) own started (by kernel_rfl) Tryd.func4
    (witness_row_at (enc := enc) (C := Tryd.checked) false (laidWorld os) #[.agg #[.slice none 0 0, .slice none 0 0, .slice none 0 0, .slice none 0 0, .slice none 0 0, .slice none 0 0], .int .u32 0] rfl (by kernel_rfl) (by kernel_rfl) (by kernel_rfl)
      (OpenSpec.preRow_of_cond 8 hx (by kernel_rfl) (fun k hk => by cases hk) (by kernel_rfl) (laid_met os _))) ?_
  intro W base args ds gs before hval0 hW hcnd hcond hsz0 hL0 hsh _
  have hval : ∀ (j : Nat) t v, Tryd.f4.params[j]? = some t → args[j]? = some v → Value.okWide Tryd.prog W .any base t v := hval0
  have hsz : (DataW.weightsEach Tryd.prog (Tryd.f4.params.toList ++ Rows.fibTableSpec.plain.varTypes Tryd.prog) (ds ++ gs)).all (· ≤ reachBytes) = true := hsz0
  have henv : Env W := env_of hL0 hsh
  have hW' := hW
  obtain ⟨p, q, hA0, hV, rfl, hfz, hnd⟩ := hW
  have hA : DataW.TrodAll enc Tryd.prog W 0 (fun _ => true) true Tryd.f4.params.toList args.toList ds p := hA0
  rw [Tryd.params4] at hA hval hsz
  obtain ⟨v0, vs0, d0, ds0, p0, q0, hargs, rfl, rfl, h0, rR0⟩ := trodAll_cons hA
  obtain ⟨v1, vs1, d1, ds1, p1, q1, rfl, rfl, rfl, h1, rR1⟩ := trodAll_cons rR0
  obtain ⟨rfl, rfl, rfl⟩ := trodAll_nil rR1
  obtain rfl : args = #[v0, v1] := by cases args; simp_all
  obtain ⟨rfl, rfl⟩ := trodVars_none hV
  have k0 := h0
  have lt0 : ∀ x ∈ p0, x.block < W.heap.size := by obtain ⟨m, hm⟩ := k0; exact DataW.trod_lt m _ _ _ hm
  have X0 := open_plan (hval 0 37 v0 rfl rfl) (Arg.of h0 hsz (j := 0) rfl rfl)
  obtain ⟨a1, rfl, rfl, rfl, w1⟩ := open_int Tryd.underlying39 (hval 1 39 v1 rfl rfl) h1
  clear hA0 hval0 hsz0
  refine (fibTable_walk v0 a1 W X0 w1  henv).mono fun e W' ⟨he, bel⟩ => ?_
  subst he
  exact ⟨_, rfl, _, _, _, [], _, [], hW', trodAll_mk1 (shut_bool Tryd.underlying4 _), (trodAll_cons_mk (Below.trod laidOut (by kernel_rfl) (of_decide_eq_true (by kernel_rfl)) k0 bel lt0) (trodAll_cons_mk (shut_int Tryd.underlying39 w1) trodAll_mk0)), rfl, bel.frame _, fun h => by cases h⟩

theorem said : Rows.FibTableSaid :=
  OpenClaim.holds_of_cond 4 Tryd.f4 rfl rfl rfl rfl rfl rfl rfl ⟨rfl, rfl, rfl, rfl, rfl⟩ rfl rfl rfl rfl rfl (by kernel_rfl) Tryd.func4 (by kernel_rfl)
    (of_decide_eq_true (by kernel_rfl)) (by unfold Func.isWrapper; first | (rw [if_pos (by decide +kernel)]; kernel_rfl) | (rw [if_neg (by decide +kernel)]; exact ⟨rfl, rfl⟩))
    (fun os started H enc _ F => by rw [OpenClaim.pre_eq_preRow]; exact lifted os started H enc F)
theorem plain (f : FuncId) (fn : Func) (hf : Tryd.pinned.checked.prog.funcNamed "routing/routinglaw52.FibTable" = some f) (hfn : Tryd.pinned.checked.prog.funcs[f]? = some fn) :
    false = Tryd.pinned.checked.prog.looks [] ∧ ∀ (j : Nat) t, fn.params[j]? = some t → Tryd.pinned.checked.prog.wantsStandIn t = false := by
  obtain rfl : f = 4 := Option.some.inj ((show Tryd.prog.funcNamed "routing/routinglaw52.FibTable" = some 4 by kernel_rfl).symm.trans hf) |>.symm
  obtain rfl : fn = Tryd.f4 := (Option.some.inj (Tryd.func4.symm.trans hfn)).symm
  refine ⟨by kernel_rfl, fun j t ht => ?_⟩
  rw [Tryd.params4] at ht
  have hm : t ∈ [37, 39] := by simpa using Array.mem_of_getElem? ht
  have hall : ([37, 39].all fun u => !Tryd.prog.wantsStandIn u) = true := by kernel_rfl
  exact (show Tryd.prog.wantsStandIn t = false by simpa using List.all_eq_true.1 hall t hm)
theorem card : Rows.FibTableCardSaid :=
  Claim7.holds_tied_plain_at .later [] _ _ _ _ said (fun _ h => by cases h) (by kernel_rfl) (fun _ h => by cases h) fibTable_row_tie rfl ⟨rfl, rfl⟩ (by kernel_rfl) rfl plain (by kernel_rfl)
#print axioms card
end Go.Proofs.YtplppbgkkfjknaaDoor.fibTable
