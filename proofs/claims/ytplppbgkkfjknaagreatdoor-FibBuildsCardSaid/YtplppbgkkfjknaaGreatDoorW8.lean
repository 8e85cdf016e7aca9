/- FibBuilds: the law's walk. 'routing/routinglaw52.FibBuilds': for every input the call returns true, and the input reads afterwards as it read before. Conditions: the library's tables read as the program's text lays them (the card ties them). The row's step around the walk of the text FLaw8. -/
import Derived.Test.YtplppbgkkfjknaaGreatDoorG40
import Derived.Test.YtplppbgkkfjknaaGreatDoorG36
import Derived.Test.YtplppbgkkfjknaaGreatDoorG30
import Derived.Test.YtplppbgkkfjknaaGreatDoorCards
import Derived.Test.YtplppbgkkfjknaaGreatDoorTie
import Derived.Deep.DeepHandedRow
import Derived.Test.YtplppbgkkfjknaaGreatDoorG26
import Derived.Test.YtplppbgkkfjknaaGreatDoorG25
namespace Go.Proofs.YtplppbgkkfjknaaGreatDoor
open Go.RowKit

set_option linter.unusedVariables false
set_option linter.unusedSimpArgs false
set_option maxRecDepth 100000 in
set_option maxHeartbeats 16000000 in
theorem fibBuilds_walk (v : Value) (w : World) (hx : PlanIn w v) (henv : Env w) : Calls Tryz.prog 3 #[v] w fun e w' => e = .returned (.bool true) ∧ Below w.heap.size w w' := by
  obtain ⟨rA, lA, kA, bA, oA, nA, rn, rc, ln, lc, kn, kc, bn, bc, on, oc, nn, nc, rs, ls, ks, bs, os, ns, rfl, hf⟩ := hx
  obtain ⟨w1, hw1⟩ : ∃ w1, w.alloc (.cells #[.slice rA rn rc, .slice lA ln lc, .slice kA kn kc, .slice bA bn bc, .slice oA on oc, .slice nA nn nc] 29) = w1 := ⟨_, rfl⟩
  have HF1 : Hid (Blk w1 w.heap.size 29 [.slice rA rn rc, .slice lA ln lc, .slice kA kn kc, .slice bA bn bc, .slice oA on oc, .slice nA nn nc]) := by show Blk _ _ _ _; rw [← hw1]; exact Blk.new w _ _
  have HB1 : Hid (Below w.heap.size w w1) := by show Below _ _ _; rw [← hw1]; exact belowA _ _
  have HXW : Hid (∀ W, Below w.heap.size w W → PlanAt W w.heap.size rA lA kA bA oA nA rn rc ln lc kn kc bn bc on oc nn nc rs ls ks bs os ns) := fun W h => hf.below h
  have HEW : Hid (∀ W, Below w.heap.size w W → Env W) := fun W h => henv.below h
  have HLV : Hid (∀ W, Below w.heap.size w W → Calls Tryz.prog 9 #[] W fun e w' => e = .returned (.bool true) ∧ Below W.heap.size W w') := fun W h => lives52_any W (henv.below h)
  have HC := Lib.hid (small_any rA lA kA bA oA nA rn rc ln lc kn kc bn bc on oc nn nc w.heap.size rs ls ks bs os ns w1 (HXW.out _ HB1.out) HB1.out.size)
  have f0 := HF1.out.cell 0
  have f1 := HF1.out.cell 1
  have f2 := HF1.out.cell 2
  have f3 := HF1.out.cell 3
  have f4 := HF1.out.cell 4
  have f5 := HF1.out.cell 5
  simp only [List.getElem?_cons_zero, List.getElem?_cons_succ] at f0 f1 f2 f3 f4 f5
  have hl1 := HF1.out.lt
  clear hf henv
  go_enter Tryz.func3, Tryz.ntmps3
  go_wp2_with fail
  refine HC.out.mono ?_
  rintro e w2 ⟨b, rfl, hsm, hb2⟩
  have HB2 := Lib.hid (below3 HB1.out hb2)
  have HF2 := Lib.hid (HF1.out.keep hb2)
  clear HC hb2 f0 f1 f2 f3 f4 f5 hw1
  cases b with
  | false =>
    have HL := Lib.hid (HLV.out w2 HB2.out)
    go_wp2_with fail
    refine HL.out.mono ?_
    rintro e w3 ⟨rfl, hb3⟩
    have HB3 := Lib.hid (below3 HB2.out hb3)
    clear hb3
    go_wp2
    go_ret
    exact ⟨rfl, HB3.out⟩
  | true =>
    have hS := hsm rfl
    have HC2 := Lib.hid (build52_any rA lA kA bA oA nA rn rc ln lc kn kc bn bc on oc nn nc w.heap.size rs ls ks bs os ns w2 (HXW.out _ HB2.out) HB2.out.size hS (HEW.out _ HB2.out))
    have HRB : Hid (∀ W, Below w.heap.size w W → Calls Tryz.prog 11 #[.slice rA rn rc, .slice lA ln lc, .slice kA kn kc, .slice bA bn bc, .slice oA on oc, .slice nA nn nc] W (GivesFIBR (routesErr rs) lA bA nA rn ln lc bn bc nn nc (buildS ks os rs) ls bs ns W)) := fun W h => by
      have hp := HXW.out W h
      have h40 := hS.r
      exact refBuild52_any rA lA kA bA oA nA rn rc ln lc kn kc bn bc on oc nn nc w.heap.size rs ls ks bs os ns W hp.r hp.l hp.k hp.b hp.o hp.n h.size (by omega) hp.ln hp.kn hp.bn hp.on hp.nn (fun r hr => by have := hS.rs r hr; omega) hp.bp hp.wide
    have HSB : Hid (∀ gs : List GE, gs.map GE.dat = (buildS ks os rs).1 → ∀ g ∈ gs, ∀ p ∈ g.ps, p.ls.length ≤ 1) := fun gs hg => built_short (HXW.out _ HB2.out).wide (fun r hr => by
      have h1 := ((HXW.out _ HB2.out).r.2 r hr).2.2.2
      have h2 := hS.rs r hr
      omega) hg
    have f0 := HF2.out.cell 0
    have f1 := HF2.out.cell 1
    have f2 := HF2.out.cell 2
    have f3 := HF2.out.cell 3
    have f4 := HF2.out.cell 4
    have f5 := HF2.out.cell 5
    simp only [List.getElem?_cons_zero, List.getElem?_cons_succ] at f0 f1 f2 f3 f4 f5
    have hl2 := HF2.out.lt
    obtain ⟨Q, hQ⟩ : ∃ Q, buildS ks os rs = Q := ⟨_, rfl⟩
    rw [hQ] at HC2 HSB HRB
    obtain ⟨R, hR⟩ : ∃ R, routesErr rs = R := ⟨_, rfl⟩
    rw [hR] at HC2 HRB
    clear hsm hS hQ hR
    go_wp2_with fail
    refine Calls.mono HC2.out ?_
    rintro e w3 ⟨hb3, hor⟩
    have HB3 := Lib.hid (below3 HB2.out hb3)
    have HF3 := Lib.hid (HF2.out.keep hb3)
    have hs3 := hb3.size
    have hcs : (∃ E, E ≠ 0 ∧ e = .returned (.tuple #[.agg #[.slice none 0 0, .slice none 0 0, .slice none 0 0, .slice none 0 0, .slice none 0 0], .int .i64 E]) ∧ ∀ W, Below w.heap.size w W → Calls Tryz.prog 11 #[.slice rA rn rc, .slice lA ln lc, .slice kA kn kc, .slice bA bn bc, .slice oA on oc, .slice nA nn nc] W fun e w' => e = .returned (.tuple #[.agg #[.slice none 0 0, .slice none 0 0, .slice none 0 0, .slice none 0 0, .slice none 0 0], .int .i64 E]) ∧ Below W.heap.size W w') ∨
        (∃ gs bs2, (∃ tA gA lA2 bA2 nA2 tc gc lc2 bc2 nc2, e = .returned (.tuple #[.agg #[.slice tA rn tc, .slice gA gs.length gc, .slice lA2 ln lc2, .slice bA2 bn bc2, .slice nA2 nn nc2], .int .i64 0]) ∧
          FibAt w3 w3.heap.size tA gA lA2 bA2 nA2 rn tc gs.length gc ln lc2 bn bc2 nn nc2 Q.2 gs ls bs2 ns) ∧ (∀ g ∈ gs, Short g.ps) ∧
          ∀ W, Below w.heap.size w W → Calls Tryz.prog 11 #[.slice rA rn rc, .slice lA ln lc, .slice kA kn kc, .slice bA bn bc, .slice oA on oc, .slice nA nn nc] W fun e w' => ∃ gs' tA gA tc gc, e = .returned (.tuple #[.agg #[.slice tA rn tc, .slice gA (List.length gs') gc, .slice lA ln lc, .slice bA bn bc, .slice nA nn nc], .int .i64 0]) ∧
            FibAt w' w'.heap.size tA gA lA bA nA rn tc gs'.length gc ln lc bn bc nn nc Q.2 gs' ls bs ns ∧ (∀ g ∈ gs', Short g.ps) ∧ sameF Q.2 Q.2 gs gs' ls ls bs2 bs ns ns = true ∧ Below W.heap.size W w') := by
      rcases hor with ⟨h1, h2⟩ | ⟨h0, gs, bs2, hg, hbd, he, hbl, hor⟩
      · refine .inl ⟨R, h1, h2, fun W hW => (HRB.out W hW).mono ?_⟩
        rintro e w' ⟨hb, h3⟩
        rcases h3 with ⟨_, h4⟩ | ⟨h4, _⟩
        · exact ⟨h4, hb⟩
        · exact absurd h4 h1
      · have heg : ∀ g ∈ gs, EvenG g := he
        rcases hor with ⟨h1, h2⟩ | ⟨h1, tA, gA, lA2, bA2, nA2, tc, gc, lc2, bc2, nc2, h2, hfa, hg3⟩
        · refine .inl ⟨_, h1, h2, fun W hW => (HRB.out W hW).mono ?_⟩
          rintro e w' ⟨hb, h3⟩
          rcases h3 with ⟨h4, _⟩ | ⟨_, gs', hg', he', h4⟩
          · exact absurd h0 h4
          · have hE : fibErr Q.2 gs ls bs2 ns = fibErr Q.2 gs' ls bs ns := fibErr_same (hg.trans hg'.symm) heg he' hbd
            rcases h4 with ⟨h5, h6⟩ | ⟨h5, _⟩
            · exact ⟨by rw [hE]; exact h6, hb⟩
            · exact absurd (hE.trans h5) h1
        · refine .inr ⟨gs, bs2, ⟨tA, gA, lA2, bA2, nA2, tc, gc, lc2, bc2, nc2, h2, hfa⟩, fun g hgm p hp => ?_, fun W hW => (HRB.out W hW).mono ?_⟩
          · have h3 := HSB.out gs hg g hgm p hp
            have h4 := (he g hgm).2 p hp
            omega
          rintro e w' ⟨hb, h3⟩
          rcases h3 with ⟨h4, _⟩ | ⟨_, gs', hg', he', h4⟩
          · exact absurd h0 h4
          · have hE : fibErr Q.2 gs ls bs2 ns = fibErr Q.2 gs' ls bs ns := fibErr_same (hg.trans hg'.symm) heg he' hbd
            rcases h4 with ⟨h5, _⟩ | ⟨_, tA', gA', tc', gc', h6, h7, h8⟩
            · exact absurd (hE.symm.trans h1) h5
            · exact ⟨gs', tA', gA', tc', gc', h6, h7, fun g hgm => (h8 g hgm).2, sameF_built (hg.trans hg'.symm) hbd, hb⟩
    clear HC2 hb3 f0 f1 f2 f3 f4 f5 hor HRB HSB hl2
    rcases hcs with ⟨E, hE, rfl, hrb⟩ | ⟨gs, bs2, ⟨tA, gA, lA2, bA2, nA2, tc, gc, lc2, bc2, nc2, rfl, hfa⟩, hsx, hrb⟩
    · have HRB := Lib.hid hrb
      have dE : (E == E) = true := by simp
      obtain ⟨w4, hw4⟩ : ∃ w4, w3.alloc (.cells #[.slice none 0 0, .slice none 0 0, .slice none 0 0, .slice none 0 0, .slice none 0 0] 35) = w4 := ⟨_, rfl⟩
      have hb4 : Below w3.heap.size w3 w4 := by rw [← hw4]; exact belowA _ _
      have HE4 : Hid (Blk w4 w3.heap.size 35 [.slice none 0 0, .slice none 0 0, .slice none 0 0, .slice none 0 0, .slice none 0 0]) := by show Blk _ _ _ _; rw [← hw4]; exact Blk.new w3 _ _
      obtain ⟨w5, hw5⟩ : ∃ w5, w4.setRow w3.heap.size #[.slice none 0 0, .slice none 0 0, .slice none 0 0, .slice none 0 0, .slice none 0 0] = w5 := ⟨_, rfl⟩
      have hsr : Save w3.heap.size w4 w5 := by rw [← hw5]; exact Save.row _ _ _
      have HX5 : Hid (Blk w5 w3.heap.size 35 [.slice none 0 0, .slice none 0 0, .slice none 0 0, .slice none 0 0, .slice none 0 0]) := by show Blk _ _ _ _; rw [← hw5]; exact HE4.out.row _
      have HB4 := below3 HB3.out hb4
      have HB5 := Lib.hid (HB4.trans (hsr.below (by have := HB3.out.size; omega) HB4.size))
      have HF5 := Lib.hid ((HF3.out.keep hb4).save hsr (by have := HF3.out.lt; omega))
      have HC5 := Lib.hid (HRB.out w5 HB5.out)
      have f0 := HF5.out.cell 0
      have f1 := HF5.out.cell 1
      have f2 := HF5.out.cell 2
      have f3 := HF5.out.cell 3
      have f4 := HF5.out.cell 4
      have f5 := HF5.out.cell 5
      simp only [List.getElem?_cons_zero, List.getElem?_cons_succ] at f0 f1 f2 f3 f4 f5
      have hl5 := HF5.out.lt
      clear hb4 HB4 hsr hE hrb HRB
      go_upto_region 4 with (refine wpList_store_blk rfl 35 _ _ rfl w3.heap.size rfl rfl HE4.out (by kernel_rfl) rfl (by kernel_rfl) ?_)
      try rw [hw5]
      go_wp2_with fail
      refine HC5.out.mono ?_
      rintro e w6 ⟨rfl, hb6⟩
      have HB6 := Lib.hid (below3 HB5.out hb6)
      have HX6 := Lib.hid (HX5.out.keep hb6)
      obtain ⟨w7, hw7⟩ : ∃ w7, w6.alloc (.cells #[.slice none 0 0, .slice none 0 0, .slice none 0 0, .slice none 0 0, .slice none 0 0] 35) = w7 := ⟨_, rfl⟩
      have hb7 : Below w6.heap.size w6 w7 := by rw [← hw7]; exact belowA _ _
      have HE7 : Hid (Blk w7 w6.heap.size 35 [.slice none 0 0, .slice none 0 0, .slice none 0 0, .slice none 0 0, .slice none 0 0]) := by show Blk _ _ _ _; rw [← hw7]; exact Blk.new w6 _ _
      obtain ⟨w8, hw8⟩ : ∃ w8, w7.setRow w6.heap.size #[.slice none 0 0, .slice none 0 0, .slice none 0 0, .slice none 0 0, .slice none 0 0] = w8 := ⟨_, rfl⟩
      have hsr : Save w6.heap.size w7 w8 := by rw [← hw8]; exact Save.row _ _ _
      have HY8 : Hid (Blk w8 w6.heap.size 35 [.slice none 0 0, .slice none 0 0, .slice none 0 0, .slice none 0 0, .slice none 0 0]) := by show Blk _ _ _ _; rw [← hw8]; exact HE7.out.row _
      have HB7 := below3 HB6.out hb7
      have HB8 := Lib.hid (HB7.trans (hsr.below (by have := HB6.out.size; omega) HB7.size))
      have HX8 := Lib.hid ((HX6.out.keep hb7).save hsr (by have := HX6.out.lt; omega))
      have HSM := Lib.hid (same52_any none none none none none 0 0 0 0 0 0 0 0 0 0 none none none none none 0 0 0 0 0 0 0 0 0 0 0 [] [] [] [] [] [] [] [] [] [] w8 (fibAt_zero _ _) (fibAt_zero _ _) (Nat.zero_le _) (fun g hg => (by cases hg)) (fun g hg => (by cases hg)))
      rw [sameF_refl] at HSM
      have x0 := HX8.out.cell 0
      have x1 := HX8.out.cell 1
      have x2 := HX8.out.cell 2
      have x3 := HX8.out.cell 3
      have x4 := HX8.out.cell 4
      simp only [List.getElem?_cons_zero, List.getElem?_cons_succ] at x0 x1 x2 x3 x4
      have y0 := HY8.out.cell 0
      have y1 := HY8.out.cell 1
      have y2 := HY8.out.cell 2
      have y3 := HY8.out.cell 3
      have y4 := HY8.out.cell 4
      simp only [List.getElem?_cons_zero, List.getElem?_cons_succ] at y0 y1 y2 y3 y4
      have hlx := HX8.out.lt
      have hly := HY8.out.lt
      clear hb6 hb7 HB7 hsr f0 f1 f2 f3 f4 f5 hl5 HC5
      go_upto_region 5 with (refine wpList_store_blk rfl 35 _ _ rfl w6.heap.size rfl rfl HE7.out (by kernel_rfl) rfl (by kernel_rfl) ?_)
      try rw [hw8]
      go_wp2_with fail
      refine HSM.out.mono ?_
      rintro e w9 ⟨rfl, hb9⟩
      have HB9 := Lib.hid (below3 HB8.out hb9)
      have HL := Lib.hid (HLV.out w9 HB9.out)
      clear hb9 HSM
      go_wp2_with fail
      refine HL.out.mono ?_
      rintro e wL ⟨rfl, hbL⟩
      have HBL := Lib.hid (below3 HB9.out hbL)
      clear hbL
      go_wp2
      go_ret
      exact ⟨rfl, HBL.out⟩
    · have HRB := Lib.hid hrb
      have HSX := Lib.hid hsx
      obtain ⟨gn, hgn⟩ : ∃ gn, gs.length = gn := ⟨_, rfl⟩
      rw [hgn] at hfa ⊢
      obtain ⟨w5, hw5⟩ : ∃ w5, w3.alloc (.cells #[.slice tA rn tc, .slice gA gn gc, .slice lA2 ln lc2, .slice bA2 bn bc2, .slice nA2 nn nc2] 35) = w5 := ⟨_, rfl⟩
      have hb5 : Below w3.heap.size w3 w5 := by rw [← hw5]; exact belowA _ _
      have HX5 : Hid (Blk w5 w3.heap.size 35 [.slice tA rn tc, .slice gA gn gc, .slice lA2 ln lc2, .slice bA2 bn bc2, .slice nA2 nn nc2]) := by show Blk _ _ _ _; rw [← hw5]; exact Blk.new w3 _ _
      have HB5 := Lib.hid (below3 HB3.out hb5)
      have HF5 := Lib.hid (HF3.out.keep hb5)
      have HFW : Hid (∀ W, Below w5.heap.size w5 W → FibAt W w5.heap.size tA gA lA2 bA2 nA2 rn tc gn gc ln lc2 bn bc2 nn nc2 Q.2 gs ls bs2 ns) := fun W h => ((hfa.below hb5).more hb5.size).below h
      have HC5 := Lib.hid (HRB.out w5 HB5.out)
      have f0 := HF5.out.cell 0
      have f1 := HF5.out.cell 1
      have f2 := HF5.out.cell 2
      have f3 := HF5.out.cell 3
      have f4 := HF5.out.cell 4
      have f5 := HF5.out.cell 5
      simp only [List.getElem?_cons_zero, List.getElem?_cons_succ] at f0 f1 f2 f3 f4 f5
      have hl5 := HF5.out.lt
      clear hb5 hrb HRB hsx hfa hgn
      go_upto_region 4 with fail
      try rw [hw5]
      go_wp2_with fail
      refine HC5.out.mono ?_
      rintro e w6 ⟨gs', tA', gA', tc', gc', rfl, hfb, hsy, hsm, hb6⟩
      have HSY := Lib.hid hsy
      have HB6 := Lib.hid (below3 HB5.out hb6)
      have HX6 := Lib.hid (HX5.out.keep hb6)
      obtain ⟨gm, hgm⟩ : ∃ gm, gs'.length = gm := ⟨_, rfl⟩
      rw [hgm] at hfb ⊢
      obtain ⟨w8, hw8⟩ : ∃ w8, w6.alloc (.cells #[.slice tA' rn tc', .slice gA' gm gc', .slice lA ln lc, .slice bA bn bc, .slice nA nn nc] 35) = w8 := ⟨_, rfl⟩
      have hb8 : Below w6.heap.size w6 w8 := by rw [← hw8]; exact belowA _ _
      have HY8 : Hid (Blk w8 w6.heap.size 35 [.slice tA' rn tc', .slice gA' gm gc', .slice lA ln lc, .slice bA bn bc, .slice nA nn nc]) := by show Blk _ _ _ _; rw [← hw8]; exact Blk.new w6 _ _
      have HB8 := Lib.hid (below3 HB6.out hb8)
      have HX8 := Lib.hid (HX6.out.keep hb8)
      have hb58 := below3 hb6 hb8
      have HSM := Lib.hid (same52_any tA gA lA2 bA2 nA2 rn tc gn gc ln lc2 bn bc2 nn nc2 tA' gA' lA bA nA rn tc' gm gc' ln lc bn bc nn nc w8.heap.size Q.2 Q.2 gs gs' ls ls bs2 bs ns ns w8 ((HFW.out _ hb58).more hb58.size) ((hfb.below hb8).more hb8.size) (Nat.le_refl _) HSX.out HSY.out)
      rw [hsm] at HSM
      have x0 := HX8.out.cell 0
      have x1 := HX8.out.cell 1
      have x2 := HX8.out.cell 2
      have x3 := HX8.out.cell 3
      have x4 := HX8.out.cell 4
      simp only [List.getElem?_cons_zero, List.getElem?_cons_succ] at x0 x1 x2 x3 x4
      have y0 := HY8.out.cell 0
      have y1 := HY8.out.cell 1
      have y2 := HY8.out.cell 2
      have y3 := HY8.out.cell 3
      have y4 := HY8.out.cell 4
      simp only [List.getElem?_cons_zero, List.getElem?_cons_succ] at y0 y1 y2 y3 y4
      have hlx := HX8.out.lt
      have hly := HY8.out.lt
      clear hb6 hb8 hb58 f0 f1 f2 f3 f4 f5 hl5 HC5 hfb hsy hsm hgm hw5
      go_upto_region 5 with fail
      try rw [hw8]
      go_wp2_with fail
      refine HSM.out.mono ?_
      rintro e w9 ⟨rfl, hb9⟩
      have HB9 := Lib.hid (below3 HB8.out hb9)
      have HL := Lib.hid (HLV.out w9 HB9.out)
      clear hb9 HSM
      go_wp2_with fail
      refine HL.out.mono ?_
      rintro e wL ⟨rfl, hbL⟩
      have HBL := Lib.hid (below3 HB9.out hbL)
      clear hbL
      go_wp2
      go_ret
      exact ⟨rfl, HBL.out⟩
end Go.Proofs.YtplppbgkkfjknaaGreatDoor
namespace Go.Proofs.YtplppbgkkfjknaaGreatDoor.fibBuilds
open Go.ChangeShapes Go.WideShapes Go.ChangeAt Go.RowKit
open Go.ChangeMaps (open_string shut_string)
set_option linter.unusedVariables false

theorem reads (os : Os) {H : Type} (enc : TypeId × Value → H) : ∃ places, DataW.whole enc Tryz.prog ((laidWorld os).forCall (fun _ _ => 0) ⟨#[], #[.agg #[.slice none 0 0, .slice none 0 0, .slice none 0 0, .slice none 0 0, .slice none 0 0, .slice none 0 0]], []⟩).memory Tryz.f3.params.toList Rows.fibBuildsSpec.vars false (#[.agg #[.slice none 0 0, .slice none 0 0, .slice none 0 0, .slice none 0 0, .slice none 0 0, .slice none 0 0]] : Array Value).toList 8 = some ([.agg [.nil, .nil, .nil, .nil, .nil, .nil]], [], places) :=
  ⟨[], by kernel_rfl⟩
set_option maxRecDepth 100000 in
theorem lifted (os : Os) (started : os.Started) (H : Type) (enc : TypeId × Value → H) (F : Stop.Interp) :
    ReturnsInHanded {} Tryz.checked os 3 .any ((OpenSpec.ofChange Rows.fibBuildsSpec).preRow enc Tryz.prog Tryz.f3 Rows.fibBuildsRow.domain false Rows.fibBuildsRow.laid) (((OpenSpec.ofChange Rows.fibBuildsSpec).at F).post enc Tryz.prog Tryz.f3 false true false false) := by
  obtain ⟨places, hx⟩ := reads os enc
  refine returnsInHanded_of_row (C := Tryz.checked) (s := (OpenSpec.ofChange Rows.fibBuildsSpec)) own started (by kernel_rfl) Tryz.func3
    (witness_row_at (enc := enc) (C := Tryz.checked) false (laidWorld os) #[.agg #[.slice none 0 0, .slice none 0 0, .slice none 0 0, .slice none 0 0, .slice none 0 0, .slice none 0 0]] rfl (by kernel_rfl) (by kernel_rfl) (by kernel_rfl)
      (OpenSpec.preRow_of_cond 8 hx (by kernel_rfl) (fun k hk => by cases hk) (by kernel_rfl) (laid_met os _))) ?_
  intro W base args ds gs before hval0 hW hcnd hcond hsz0 hL0 hsh _
  have hval : ∀ (j : Nat) t v, Tryz.f3.params[j]? = some t → args[j]? = some v → Value.okWide Tryz.prog W .any base t v := hval0
  have hsz : (DataW.weightsEach Tryz.prog (Tryz.f3.params.toList ++ Rows.fibBuildsSpec.plain.varTypes Tryz.prog) (ds ++ gs)).all (· ≤ reachBytes) = true := hsz0
  have henv : Env W := env_of hL0 hsh
  have hW' := hW
  obtain ⟨p, q, hA0, hV, rfl, hfz, hnd⟩ := hW
  have hA : DataW.TrodAll enc Tryz.prog W 0 (fun _ => true) true Tryz.f3.params.toList args.toList ds p := hA0
  rw [Tryz.params3] at hA hval hsz
  obtain ⟨v0, vs0, d0, ds0, p0, q0, hargs, rfl, rfl, h0, rR0⟩ := trodAll_cons hA
  obtain ⟨rfl, rfl, rfl⟩ := trodAll_nil rR0
  obtain rfl : args = #[v0] := by cases args; simp_all
  obtain ⟨rfl, rfl⟩ := trodVars_none hV
  have k0 := h0
  have lt0 : ∀ x ∈ p0, x.block < W.heap.size := by obtain ⟨m, hm⟩ := k0; exact DataW.trod_lt m _ _ _ hm
  have X0 := open_plan (hval 0 29 v0 rfl rfl) (Arg.of h0 hsz (j := 0) rfl rfl)
  clear hA0 hval0 hsz0
  refine (fibBuilds_walk v0 W X0  henv).mono fun e W' ⟨he, bel⟩ => ?_
  subst he
  exact ⟨_, rfl, _, _, _, [], _, [], hW', trodAll_mk1 (shut_bool Tryz.underlying4 _), (trodAll_cons_mk (Below.trod laidOut (by kernel_rfl) (of_decide_eq_true (by kernel_rfl)) k0 bel lt0) trodAll_mk0), rfl, bel.frame _, fun h => by cases h⟩

theorem said : Rows.FibBuildsSaid :=
  OpenClaim.holds_of_cond 3 Tryz.f3 rfl rfl rfl rfl rfl rfl rfl ⟨rfl, rfl, rfl, rfl, rfl⟩ rfl rfl rfl rfl rfl (by kernel_rfl) Tryz.func3 (by kernel_rfl)
    (of_decide_eq_true (by kernel_rfl)) (by unfold Func.isWrapper; first | (rw [if_pos (by decide +kernel)]; kernel_rfl) | (rw [if_neg (by decide +kernel)]; exact ⟨rfl, rfl⟩))
    (fun os started H enc _ F => by rw [OpenClaim.pre_eq_preRow]; exact lifted os started H enc F)
theorem plain (f : FuncId) (fn : Func) (hf : Tryz.pinned.checked.prog.funcNamed "routing/routinglaw52.FibBuilds" = some f) (hfn : Tryz.pinned.checked.prog.funcs[f]? = some fn) :
    false = Tryz.pinned.checked.prog.looks [] ∧ ∀ (j : Nat) t, fn.params[j]? = some t → Tryz.pinned.checked.prog.wantsStandIn t = false := by
  obtain rfl : f = 3 := Option.some.inj ((show Tryz.prog.funcNamed "routing/routinglaw52.FibBuilds" = some 3 by kernel_rfl).symm.trans hf) |>.symm
  obtain rfl : fn = Tryz.f3 := (Option.some.inj (Tryz.func3.symm.trans hfn)).symm
  refine ⟨by kernel_rfl, fun j t ht => ?_⟩
  rw [Tryz.params3] at ht
  have hm : t ∈ [29] := by simpa using Array.mem_of_getElem? ht
  have hall : ([29].all fun u => !Tryz.prog.wantsStandIn u) = true := by kernel_rfl
  exact (show Tryz.prog.wantsStandIn t = false by simpa using List.all_eq_true.1 hall t hm)
theorem card : Rows.FibBuildsCardSaid :=
  Claim7.holds_tied_plain_at .later [] _ _ _ _ said (fun _ h => by cases h) (by kernel_rfl) (fun _ h => by cases h) fibBuilds_row_tie rfl ⟨rfl, rfl⟩ (by kernel_rfl) rfl plain (by kernel_rfl)
#print axioms card
end Go.Proofs.YtplppbgkkfjknaaGreatDoor.fibBuilds
