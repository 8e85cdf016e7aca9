/- FibSames: the law's walk. 'routing/routinglaw52.FibSames': for every input the call returns true, and the input reads afterwards as it read before. Conditions: the library's tables read as the program's text lays them (the card ties them). The row's step around the walk of the text FLaw7. -/
import Derived.Test.YtplppbgkkfjknaaGreatDoorG36
import Derived.Test.YtplppbgkkfjknaaGreatDoorG37
import Derived.Test.YtplppbgkkfjknaaGreatDoorG24
import Derived.Test.YtplppbgkkfjknaaGreatDoorG25
import Derived.Test.YtplppbgkkfjknaaGreatDoorCards
import Derived.Test.YtplppbgkkfjknaaGreatDoorTie
import Derived.Deep.DeepHandedRow
import Derived.Test.YtplppbgkkfjknaaGreatDoorG26
namespace Go.Proofs.YtplppbgkkfjknaaGreatDoor
open Go.RowKit

set_option linter.unusedVariables false
set_option linter.unusedSimpArgs false
set_option maxRecDepth 100000 in
set_option maxHeartbeats 16000000 in
theorem fibSames_walk (v v2 : Value) (w : World) (hx : FibIn w v) (hy : FibIn w v2) (henv : Env w) :
    Calls Tryz.prog 7 #[v, v2] w fun e w' => e = .returned (.bool true) ∧ Below w.heap.size w w' := by
  obtain ⟨tA, gA, lA, bA, nA, tn, tc, gn, gc, ln, lc, bn, bc, nn, nc, es, gs, ls, bs, ns, rfl, hf⟩ := hx
  obtain ⟨tB, gB, lB, bB, nB, tm, td, gm, gd, lm, ld, bm, bd, nm, nd, es', gs', ls', bs', ns', rfl, hg⟩ := hy
  obtain ⟨w1, hw1⟩ : ∃ w1, (w.alloc (.cells #[.slice tA tn tc, .slice gA gn gc, .slice lA ln lc, .slice bA bn bc, .slice nA nn nc] 35)).alloc (.cells #[.slice tB tm td, .slice gB gm gd, .slice lB lm ld, .slice bB bm bd, .slice nB nm nd] 35) = w1 := ⟨_, rfl⟩
  have HF1 : Hid (Blk w1 w.heap.size 35 [.slice tA tn tc, .slice gA gn gc, .slice lA ln lc, .slice bA bn bc, .slice nA nn nc]) := by show Blk _ _ _ _; rw [← hw1]; exact (Blk.new w _ _).keep (belowA _ _)
  have HG1 : Hid (Blk w1 (w.heap.size + 1) 35 [.slice tB tm td, .slice gB gm gd, .slice lB lm ld, .slice bB bm bd, .slice nB nm nd]) := by show Blk _ _ _ _; rw [← hw1]; exact Blk.new2 w _ _ _
  have HB1 : Hid (Below w.heap.size w w1) := by show Below _ _ _; rw [← hw1]; exact below3 (belowA _ _) (belowA _ _)
  have HXW : Hid (∀ W, Below w.heap.size w W → FibAt W w.heap.size tA gA lA bA nA tn tc gn gc ln lc bn bc nn nc es gs ls bs ns) := fun W h => hf.below h
  have HYW : Hid (∀ W, Below w.heap.size w W → FibAt W w.heap.size tB gB lB bB nB tm td gm gd lm ld bm bd nm nd es' gs' ls' bs' ns') := fun W h => hg.below h
  have HLV : Hid (∀ W, Below w.heap.size w W → Calls Tryz.prog 9 #[] W fun e w' => e = .returned (.bool true) ∧ Below W.heap.size W w') := fun W h => lives52_any W (henv.below h)
  have HC := Lib.hid (few_any tA gA lA bA nA tn tc gn gc ln lc bn bc nn nc w.heap.size es gs ls bs ns w1 (HXW.out _ HB1.out).g (HXW.out _ HB1.out).b HB1.out.size)
  have f0 := HF1.out.cell 0
  have f1 := HF1.out.cell 1
  have f2 := HF1.out.cell 2
  have f3 := HF1.out.cell 3
  have f4 := HF1.out.cell 4
  simp only [List.getElem?_cons_zero, List.getElem?_cons_succ] at f0 f1 f2 f3 f4
  have hlg := HG1.out.lt
  have hlf : w.heap.size < w1.heap.size := by omega
  clear hf hg henv
  go_enter Tryz.func7, Tryz.ntmps7
  go_wp2_with fail
  refine HC.out.mono ?_
  rintro e w2 ⟨b, rfl, hfew, hb2⟩
  have HB2 := Lib.hid (below3 HB1.out hb2)
  have HF2 := Lib.hid (HF1.out.keep hb2)
  have HG2 := Lib.hid (HG1.out.keep hb2)
  clear HC hb2 f0 f1 f2 f3 f4 hw1 hlf hlg
  cases b with
  | false =>
    clear hfew
    have HL := Lib.hid (HLV.out w2 HB2.out)
    go_wp2_with fail
    refine HL.out.mono ?_
    rintro e wL ⟨rfl, hbL⟩
    have HBL := Lib.hid (below3 HB2.out hbL)
    clear hbL
    go_wp2
    go_ret
    exact ⟨rfl, HBL.out⟩
  | true =>
    have hsm := hfew rfl
    have HSX : Hid (∀ g ∈ gs, Short g.ps) := fun g hg p hp => by
      have h2 := (hsm.gs g hg).2 p hp
      omega
    have HC := Lib.hid (few_any tB gB lB bB nB tm td gm gd lm ld bm bd nm nd w.heap.size es' gs' ls' bs' ns' w2 (HYW.out _ HB2.out).g (HYW.out _ HB2.out).b HB2.out.size)
    have g0 := HG2.out.cell 0
    have g1 := HG2.out.cell 1
    have g2 := HG2.out.cell 2
    have g3 := HG2.out.cell 3
    have g4 := HG2.out.cell 4
    simp only [List.getElem?_cons_zero, List.getElem?_cons_succ] at g0 g1 g2 g3 g4
    have hlg := HG2.out.lt
    have hlf := HF2.out.lt
    clear hfew hsm
    go_wp2_with fail
    refine HC.out.mono ?_
    rintro e w3 ⟨b, rfl, hfew, hb3⟩
    have HB3 := Lib.hid (below3 HB2.out hb3)
    have HF3 := Lib.hid (HF2.out.keep hb3)
    have HG3 := Lib.hid (HG2.out.keep hb3)
    clear HC hb3 g0 g1 g2 g3 g4 hlf hlg
    cases b with
    | false =>
      clear hfew
      have HL := Lib.hid (HLV.out w3 HB3.out)
      go_wp2_with fail
      refine HL.out.mono ?_
      rintro e wL ⟨rfl, hbL⟩
      have HBL := Lib.hid (below3 HB3.out hbL)
      clear hbL
      go_wp2
      go_ret
      exact ⟨rfl, HBL.out⟩
    | true =>
      have hsm := hfew rfl
      have HSY : Hid (∀ g ∈ gs', Short g.ps) := fun g hg p hp => by
        have h2 := (hsm.gs g hg).2 p hp
        omega
      clear hfew hsm
      obtain ⟨z, hz⟩ : ∃ z, sameF es es' gs gs' ls ls' bs bs' ns ns' = z := ⟨_, rfl⟩
      have HPF : Hid (∀ W, Below w.heap.size w W → Calls Tryz.prog 23 #[.agg #[.slice tA tn tc, .slice gA gn gc, .slice lA ln lc, .slice bA bn bc, .slice nA nn nc], .agg #[.slice tB tm td, .slice gB gm gd, .slice lB lm ld, .slice bB bm bd, .slice nB nm nd]] W fun e w' => e = .returned (.bool z) ∧ Below W.heap.size W w') := fun W h => by
        have k := sameFib_any tA gA lA bA nA tn tc gn gc ln lc bn bc nn nc tB gB lB bB nB tm td gm gd lm ld bm bd nm nd w.heap.size es es' gs gs' ls ls' bs bs' ns ns' W (HXW.out _ h) (HYW.out _ h) h.size HSX.out HSY.out
        rw [hz] at k
        exact k
      have HRF : Hid (∀ W, Below w.heap.size w W → Calls Tryz.prog 12 #[.agg #[.slice tA tn tc, .slice gA gn gc, .slice lA ln lc, .slice bA bn bc, .slice nA nn nc], .agg #[.slice tB tm td, .slice gB gm gd, .slice lB lm ld, .slice bB bm bd, .slice nB nm nd]] W fun e w' => e = .returned (.bool z) ∧ Below W.heap.size W w') := fun W h => by
        have k := same52_any tA gA lA bA nA tn tc gn gc ln lc bn bc nn nc tB gB lB bB nB tm td gm gd lm ld bm bd nm nd w.heap.size es es' gs gs' ls ls' bs bs' ns ns' W (HXW.out _ h) (HYW.out _ h) h.size HSX.out HSY.out
        rw [hz] at k
        exact k
      have HPS : Hid (∀ W, Below w.heap.size w W → Calls Tryz.prog 23 #[.agg #[.slice tA tn tc, .slice gA gn gc, .slice lA ln lc, .slice bA bn bc, .slice nA nn nc], .agg #[.slice tA tn tc, .slice gA gn gc, .slice lA ln lc, .slice bA bn bc, .slice nA nn nc]] W fun e w' => e = .returned (.bool true) ∧ Below W.heap.size W w') := fun W h => by
        have k := sameFib_any tA gA lA bA nA tn tc gn gc ln lc bn bc nn nc tA gA lA bA nA tn tc gn gc ln lc bn bc nn nc w.heap.size es es gs gs ls ls bs bs ns ns W (HXW.out _ h) (HXW.out _ h) h.size HSX.out HSX.out
        rw [sameF_refl] at k
        exact k
      have HPG : Hid (∀ W, Below w.heap.size w W → Calls Tryz.prog 23 #[.agg #[.slice tB tm td, .slice gB gm gd, .slice lB lm ld, .slice bB bm bd, .slice nB nm nd], .agg #[.slice tA tn tc, .slice gA gn gc, .slice lA ln lc, .slice bA bn bc, .slice nA nn nc]] W fun e w' => e = .returned (.bool z) ∧ Below W.heap.size W w') := fun W h => by
        have k := sameFib_any tB gB lB bB nB tm td gm gd lm ld bm bd nm nd tA gA lA bA nA tn tc gn gc ln lc bn bc nn nc w.heap.size es' es gs' gs ls' ls bs' bs ns' ns W (HYW.out _ h) (HXW.out _ h) h.size HSY.out HSX.out
        rw [sameF_symm, hz] at k
        exact k
      clear hz
      obtain ⟨wD, hwD⟩ : ∃ wD, w3.drew = wD := ⟨_, rfl⟩
      have hbD : Below w3.heap.size w3 wD := by rw [← hwD]; exact (Below.refl _ _).drew
      have HBD := Lib.hid (below3 HB3.out hbD)
      have HSD : Hid (Blk wD w.heap.size 35 [.slice tA tn tc, .slice gA gn gc, .slice lA ln lc, .slice bA bn bc, .slice nA nn nc] ∧ Blk wD (w.heap.size + 1) 35 [.slice tB tm td, .slice gB gm gd, .slice lB lm ld, .slice bB bm bd, .slice nB nm nd]) := ⟨HF3.out.keep hbD, HG3.out.keep hbD⟩
      clear hbD
      cases z
      all_goals
        go_upto_region 3 with fail
        refine wp_region_noPanic ?_
        refine wp_region_held_drew (S := fun V => Blk V w.heap.size 35 [.slice tA tn tc, .slice gA gn gc, .slice lA ln lc, .slice bA bn bc, .slice nA nn nc] ∧ Blk V (w.heap.size + 1) 35 [.slice tB tm td, .slice gB gm gd, .slice lB lm ld, .slice bB bm bd, .slice nB nm nd]) (by kernel_rfl) (by rw [hwD]; exact HSD.out) (fun hHeld => ?_)
        rw [hwD] at hHeld ⊢
        clear hwD
        refine take_in (i := 0) _ (some 14) (by kernel_rfl) (by kernel_rfl) (by kernel_rfl) (by kernel_rfl) (fun _ _ _ h => h) (by rfl) (fun o ho w hSw => by cases ho; exact run_load_blk _ _ rfl _ rfl (hSw.1) _ Tryz.underlying35 rfl (by kernel_rfl)) hHeld ?_
        try simp only [Act.put, List.setIfInBounds_toArray, List.set_cons_zero, List.set_cons_succ]
        refine take_in (i := 1) _ (some 15) (by kernel_rfl) (by kernel_rfl) (by kernel_rfl) (by kernel_rfl) (fun _ _ _ h => h) (by rfl) (fun o ho w hSw => by cases ho; exact run_load_blk _ _ rfl _ rfl (hSw.2) _ Tryz.underlying35 rfl (by kernel_rfl)) hHeld ?_
        try simp only [Act.put, List.setIfInBounds_toArray, List.set_cons_zero, List.set_cons_succ]
        refine take_in (i := 3) _ (some 17) (by kernel_rfl) (by kernel_rfl) (by kernel_rfl) (by kernel_rfl) (fun _ _ _ h => h) (by rfl) (fun o ho w hSw => by cases ho; exact run_load_blk _ _ rfl _ rfl (hSw.1) _ Tryz.underlying35 rfl (by kernel_rfl)) hHeld ?_
        try simp only [Act.put, List.setIfInBounds_toArray, List.set_cons_zero, List.set_cons_succ]
        refine take_in (i := 4) _ (some 18) (by kernel_rfl) (by kernel_rfl) (by kernel_rfl) (by kernel_rfl) (fun _ _ _ h => h) (by rfl) (fun o ho w hSw => by cases ho; exact run_load_blk _ _ rfl _ rfl (hSw.2) _ Tryz.underlying35 rfl (by kernel_rfl)) hHeld ?_
        try simp only [Act.put, List.setIfInBounds_toArray, List.set_cons_zero, List.set_cons_succ]
        have HCC := Lib.hid (HPF.out wD HBD.out)
        refine wpAnyH_ready (rs := [2]) (by kernel_rfl) (by simp) ?_
        refine AllReadyH.cons (o := _) rfl (fun K hK => ?_) AllReadyH.nil
        go_simp
        go_at_call 23
        with_reducible refine HCC.out.mono ?_
        rintro e wE2 ⟨rfl, hbE⟩
        have HBE2 := Lib.hid (below3 HBD.out hbE)
        have HSE2 : Hid (Blk wE2 w.heap.size 35 [.slice tA tn tc, .slice gA gn gc, .slice lA ln lc, .slice bA bn bc, .slice nA nn nc] ∧ Blk wE2 (w.heap.size + 1) 35 [.slice tB tm td, .slice gB gm gd, .slice lB lm ld, .slice bB bm bd, .slice nB nm nd]) := ⟨HSD.out.1.keep hbE, HSD.out.2.keep hbE⟩
        clear hbE HCC
        refine hK.out _ _ HSE2.out (fun hHeld => ?_)
        clear hK K
        try simp only [Act.put, List.setIfInBounds_toArray, List.set_cons_zero, List.set_cons_succ]
        have HCC := Lib.hid (HRF.out wE2 HBE2.out)
        refine wpAnyH_ready (rs := [5]) (by kernel_rfl) (by simp) ?_
        refine AllReadyH.cons (o := _) rfl (fun K hK => ?_) AllReadyH.nil
        go_simp
        go_at_call 12
        with_reducible refine HCC.out.mono ?_
        rintro e wE5 ⟨rfl, hbE⟩
        have HBE5 := Lib.hid (below3 HBE2.out hbE)
        have HSE5 : Hid (Blk wE5 w.heap.size 35 [.slice tA tn tc, .slice gA gn gc, .slice lA ln lc, .slice bA bn bc, .slice nA nn nc] ∧ Blk wE5 (w.heap.size + 1) 35 [.slice tB tm td, .slice gB gm gd, .slice lB lm ld, .slice bB bm bd, .slice nB nm nd]) := ⟨HSE2.out.1.keep hbE, HSE2.out.2.keep hbE⟩
        clear hbE HCC
        refine hK.out _ _ HSE5.out (fun hHeld => ?_)
        clear hK K
        try simp only [Act.put, List.setIfInBounds_toArray, List.set_cons_zero, List.set_cons_succ]
        refine take_in (i := 6) _ (some 20) (by kernel_rfl) (by kernel_rfl) (by kernel_rfl) (by kernel_rfl) (fun _ _ _ h => h) (by rfl) (fun o ho w hSw => by cases ho; (try dsimp only at hSw); (try go_split_ands); go_simp; (try with_reducible rfl)) hHeld ?_
        try simp only [Act.put, List.setIfInBounds_toArray, List.set_cons_zero, List.set_cons_succ]
        refine take_in (i := 7) _ (some 21) (by kernel_rfl) (by kernel_rfl) (by kernel_rfl) (by kernel_rfl) (fun _ _ _ h => h) (by rfl) (fun o ho w hSw => by cases ho; (try dsimp only at hSw); (try go_split_ands); go_simp; (try with_reducible rfl)) hHeld ?_
        try simp only [Act.put, List.setIfInBounds_toArray, List.set_cons_zero, List.set_cons_succ]
        refine take_in (i := 8) _ (some 22) (by kernel_rfl) (by kernel_rfl) (by kernel_rfl) (by kernel_rfl) (fun _ _ _ h => h) (by rfl) (fun o ho w hSw => by cases ho; exact run_load_blk _ _ rfl _ rfl (hSw.1) _ Tryz.underlying35 rfl (by kernel_rfl)) hHeld ?_
        try simp only [Act.put, List.setIfInBounds_toArray, List.set_cons_zero, List.set_cons_succ]
        refine take_in (i := 9) _ (some 23) (by kernel_rfl) (by kernel_rfl) (by kernel_rfl) (by kernel_rfl) (fun _ _ _ h => h) (by rfl) (fun o ho w hSw => by cases ho; exact run_load_blk _ _ rfl _ rfl (hSw.1) _ Tryz.underlying35 rfl (by kernel_rfl)) hHeld ?_
        try simp only [Act.put, List.setIfInBounds_toArray, List.set_cons_zero, List.set_cons_succ]
        have HCC := Lib.hid (HPS.out wE5 HBE5.out)
        refine wpAnyH_ready (rs := [10]) (by kernel_rfl) (by simp) ?_
        refine AllReadyH.cons (o := _) rfl (fun K hK => ?_) AllReadyH.nil
        go_simp
        go_at_call 23
        with_reducible refine HCC.out.mono ?_
        rintro e wE10 ⟨rfl, hbE⟩
        have HBE10 := Lib.hid (below3 HBE5.out hbE)
        have HSE10 : Hid (Blk wE10 w.heap.size 35 [.slice tA tn tc, .slice gA gn gc, .slice lA ln lc, .slice bA bn bc, .slice nA nn nc] ∧ Blk wE10 (w.heap.size + 1) 35 [.slice tB tm td, .slice gB gm gd, .slice lB lm ld, .slice bB bm bd, .slice nB nm nd]) := ⟨HSE5.out.1.keep hbE, HSE5.out.2.keep hbE⟩
        clear hbE HCC
        refine hK.out _ _ HSE10.out (fun hHeld => ?_)
        clear hK K
        try simp only [Act.put, List.setIfInBounds_toArray, List.set_cons_zero, List.set_cons_succ]
        refine take_in (i := 11) _ (some 25) (by kernel_rfl) (by kernel_rfl) (by kernel_rfl) (by kernel_rfl) (fun _ _ _ h => h) (by rfl) (fun o ho w hSw => by cases ho; (try dsimp only at hSw); (try go_split_ands); go_simp; (try with_reducible rfl)) hHeld ?_
        try simp only [Act.put, List.setIfInBounds_toArray, List.set_cons_zero, List.set_cons_succ]
        refine take_in (i := 12) _ (some 26) (by kernel_rfl) (by kernel_rfl) (by kernel_rfl) (by kernel_rfl) (fun _ _ _ h => h) (by rfl) (fun o ho w hSw => by cases ho; (try dsimp only at hSw); (try go_split_ands); go_simp; (try with_reducible rfl)) hHeld ?_
        try simp only [Act.put, List.setIfInBounds_toArray, List.set_cons_zero, List.set_cons_succ]
        refine take_in (i := 13) _ (some 27) (by kernel_rfl) (by kernel_rfl) (by kernel_rfl) (by kernel_rfl) (fun _ _ _ h => h) (by rfl) (fun o ho w hSw => by cases ho; exact run_load_blk _ _ rfl _ rfl (hSw.2) _ Tryz.underlying35 rfl (by kernel_rfl)) hHeld ?_
        try simp only [Act.put, List.setIfInBounds_toArray, List.set_cons_zero, List.set_cons_succ]
        refine take_in (i := 14) _ (some 28) (by kernel_rfl) (by kernel_rfl) (by kernel_rfl) (by kernel_rfl) (fun _ _ _ h => h) (by rfl) (fun o ho w hSw => by cases ho; exact run_load_blk _ _ rfl _ rfl (hSw.1) _ Tryz.underlying35 rfl (by kernel_rfl)) hHeld ?_
        try simp only [Act.put, List.setIfInBounds_toArray, List.set_cons_zero, List.set_cons_succ]
        refine take_in (i := 16) _ (some 30) (by kernel_rfl) (by kernel_rfl) (by kernel_rfl) (by kernel_rfl) (fun _ _ _ h => h) (by rfl) (fun o ho w hSw => by cases ho; exact run_load_blk _ _ rfl _ rfl (hSw.1) _ Tryz.underlying35 rfl (by kernel_rfl)) hHeld ?_
        try simp only [Act.put, List.setIfInBounds_toArray, List.set_cons_zero, List.set_cons_succ]
        refine take_in (i := 17) _ (some 31) (by kernel_rfl) (by kernel_rfl) (by kernel_rfl) (by kernel_rfl) (fun _ _ _ h => h) (by rfl) (fun o ho w hSw => by cases ho; exact run_load_blk _ _ rfl _ rfl (hSw.2) _ Tryz.underlying35 rfl (by kernel_rfl)) hHeld ?_
        try simp only [Act.put, List.setIfInBounds_toArray, List.set_cons_zero, List.set_cons_succ]
        have HCC := Lib.hid (HPG.out wE10 HBE10.out)
        refine wpAnyH_ready (rs := [15]) (by kernel_rfl) (by simp) ?_
        refine AllReadyH.cons (o := _) rfl (fun K hK => ?_) AllReadyH.nil
        go_simp
        go_at_call 23
        with_reducible refine HCC.out.mono ?_
        rintro e wE15 ⟨rfl, hbE⟩
        have HBE15 := Lib.hid (below3 HBE10.out hbE)
        have HSE15 : Hid (Blk wE15 w.heap.size 35 [.slice tA tn tc, .slice gA gn gc, .slice lA ln lc, .slice bA bn bc, .slice nA nn nc] ∧ Blk wE15 (w.heap.size + 1) 35 [.slice tB tm td, .slice gB gm gd, .slice lB lm ld, .slice bB bm bd, .slice nB nm nd]) := ⟨HSE10.out.1.keep hbE, HSE10.out.2.keep hbE⟩
        clear hbE HCC
        refine hK.out _ _ HSE15.out (fun hHeld => ?_)
        clear hK K
        try simp only [Act.put, List.setIfInBounds_toArray, List.set_cons_zero, List.set_cons_succ]
        have HCC := Lib.hid (HPF.out wE15 HBE15.out)
        refine wpAnyH_ready (rs := [18]) (by kernel_rfl) (by simp) ?_
        refine AllReadyH.cons (o := _) rfl (fun K hK => ?_) AllReadyH.nil
        go_simp
        go_at_call 23
        with_reducible refine HCC.out.mono ?_
        rintro e wE18 ⟨rfl, hbE⟩
        have HBE18 := Lib.hid (below3 HBE15.out hbE)
        have HSE18 : Hid (Blk wE18 w.heap.size 35 [.slice tA tn tc, .slice gA gn gc, .slice lA ln lc, .slice bA bn bc, .slice nA nn nc] ∧ Blk wE18 (w.heap.size + 1) 35 [.slice tB tm td, .slice gB gm gd, .slice lB lm ld, .slice bB bm bd, .slice nB nm nd]) := ⟨HSE15.out.1.keep hbE, HSE15.out.2.keep hbE⟩
        clear hbE HCC
        refine hK.out _ _ HSE18.out (fun hHeld => ?_)
        clear hK K
        try simp only [Act.put, List.setIfInBounds_toArray, List.set_cons_zero, List.set_cons_succ]
        refine take_in (i := 19) _ (some 33) (by kernel_rfl) (by kernel_rfl) (by kernel_rfl) (by kernel_rfl) (fun _ _ _ h => h) (by rfl) (fun o ho w hSw => by cases ho; (try dsimp only at hSw); (try go_split_ands); go_simp; (try with_reducible rfl)) hHeld ?_
        try simp only [Act.put, List.setIfInBounds_toArray, List.set_cons_zero, List.set_cons_succ]
        refine take_in (i := 20) _ (some 34) (by kernel_rfl) (by kernel_rfl) (by kernel_rfl) (by kernel_rfl) (fun _ _ _ h => h) (by rfl) (fun o ho w hSw => by cases ho; (try dsimp only at hSw); (try go_split_ands); go_simp; (try with_reducible rfl)) hHeld ?_
        try simp only [Act.put, List.setIfInBounds_toArray, List.set_cons_zero, List.set_cons_succ]
        refine take_in (i := 21) _ (some 35) (by kernel_rfl) (by kernel_rfl) (by kernel_rfl) (by kernel_rfl) (fun _ _ _ h => h) (by rfl) (fun o ho w hSw => by cases ho; (try dsimp only at hSw); (try go_split_ands); go_simp; (try with_reducible rfl)) hHeld ?_
        try simp only [Act.put, List.setIfInBounds_toArray, List.set_cons_zero, List.set_cons_succ]
        have HCC := Lib.hid (HLV.out wE18 HBE18.out)
        refine wpAnyH_ready (rs := [22]) (by kernel_rfl) (by simp) ?_
        refine AllReadyH.cons (o := _) rfl (fun K hK => ?_) AllReadyH.nil
        go_simp
        go_at_call 9
        with_reducible refine HCC.out.mono ?_
        rintro e wE22 ⟨rfl, hbE⟩
        have HBE22 := Lib.hid (below3 HBE18.out hbE)
        have HSE22 : Hid (Blk wE22 w.heap.size 35 [.slice tA tn tc, .slice gA gn gc, .slice lA ln lc, .slice bA bn bc, .slice nA nn nc] ∧ Blk wE22 (w.heap.size + 1) 35 [.slice tB tm td, .slice gB gm gd, .slice lB lm ld, .slice bB bm bd, .slice nB nm nd]) := ⟨HSE18.out.1.keep hbE, HSE18.out.2.keep hbE⟩
        clear hbE HCC
        refine hK.out _ _ HSE22.out (fun hHeld => ?_)
        clear hK K
        try simp only [Act.put, List.setIfInBounds_toArray, List.set_cons_zero, List.set_cons_succ]
        refine take_in (i := 23) _ (some 37) (by kernel_rfl) (by kernel_rfl) (by kernel_rfl) (by kernel_rfl) (fun _ _ _ h => h) (by rfl) (fun o ho w hSw => by cases ho; (try dsimp only at hSw); (try go_split_ands); go_simp; (try with_reducible rfl)) hHeld ?_
        try simp only [Act.put, List.setIfInBounds_toArray, List.set_cons_zero, List.set_cons_succ]
        refine take_in (i := 24) _ (some 4) (by kernel_rfl) (by kernel_rfl) (by kernel_rfl) (by kernel_rfl) (fun _ _ _ h => h) (by rfl) (fun o ho w hSw => by cases ho; (try dsimp only at hSw); (try go_split_ands); go_simp; (try with_reducible rfl)) hHeld ?_
        try simp only [Act.put, List.setIfInBounds_toArray, List.set_cons_zero, List.set_cons_succ]
        refine wpAnyH_done (by kernel_rfl) ?_ _
        refine NoPanic.normal ?_
        go_wp2
        go_ret
        exact ⟨by first | rfl | simp, HBE22.out⟩
end Go.Proofs.YtplppbgkkfjknaaGreatDoor
namespace Go.Proofs.YtplppbgkkfjknaaGreatDoor.fibSames
open Go.ChangeShapes Go.WideShapes Go.ChangeAt Go.RowKit
open Go.ChangeMaps (open_string shut_string)
set_option linter.unusedVariables false

theorem reads (os : Os) {H : Type} (enc : TypeId × Value → H) : ∃ places, DataW.whole enc Tryz.prog ((laidWorld os).forCall (fun _ _ => 0) ⟨#[], #[.agg #[.slice none 0 0, .slice none 0 0, .slice none 0 0, .slice none 0 0, .slice none 0 0], .agg #[.slice none 0 0, .slice none 0 0, .slice none 0 0, .slice none 0 0, .slice none 0 0]], []⟩).memory Tryz.f7.params.toList Rows.fibSamesSpec.vars false (#[.agg #[.slice none 0 0, .slice none 0 0, .slice none 0 0, .slice none 0 0, .slice none 0 0], .agg #[.slice none 0 0, .slice none 0 0, .slice none 0 0, .slice none 0 0, .slice none 0 0]] : Array Value).toList 8 = some ([.agg [.nil, .nil, .nil, .nil, .nil], .agg [.nil, .nil, .nil, .nil, .nil]], [], places) :=
  ⟨[], by kernel_rfl⟩
set_option maxRecDepth 100000 in
theorem lifted (os : Os) (started : os.Started) (H : Type) (enc : TypeId × Value → H) (F : Stop.Interp) :
    ReturnsInHanded {} Tryz.checked os 7 .any ((OpenSpec.ofChange Rows.fibSamesSpec).preRow enc Tryz.prog Tryz.f7 Rows.fibSamesRow.domain false Rows.fibSamesRow.laid) (((OpenSpec.ofChange Rows.fibSamesSpec).at F).post enc Tryz.prog Tryz.f7 false true false false) := by
  obtain ⟨places, hx⟩ := reads os enc
  refine returnsInHanded_of_row (C := Tryz.checked) (s := (OpenSpec.ofChange Rows.fibSamesSpec)) own started (by kernel_rfl) Tryz.func7
    (witness_row_at (enc := enc) (C := Tryz.checked) false (laidWorld os) #[.agg #[.slice none 0 0, .slice none 0 0, .slice none 0 0, .slice none 0 0, .slice none 0 0], .agg #[.slice none 0 0, .slice none 0 0, .slice none 0 0, .slice none 0 0, .slice none 0 0]] rfl (by kernel_rfl) (by kernel_rfl) (by kernel_rfl)
      (OpenSpec.preRow_of_cond 8 hx (by kernel_rfl) (fun k hk => by cases hk) (by kernel_rfl) (laid_met os _))) ?_
  intro W base args ds gs before hval0 hW hcnd hcond hsz0 hL0 hsh _
  have hval : ∀ (j : Nat) t v, Tryz.f7.params[j]? = some t → args[j]? = some v → Value.okWide Tryz.prog W .any base t v := hval0
  have hsz : (DataW.weightsEach Tryz.prog (Tryz.f7.params.toList ++ Rows.fibSamesSpec.plain.varTypes Tryz.prog) (ds ++ gs)).all (· ≤ reachBytes) = true := hsz0
  have henv : Env W := env_of hL0 hsh
  have hW' := hW
  obtain ⟨p, q, hA0, hV, rfl, hfz, hnd⟩ := hW
  have hA : DataW.TrodAll enc Tryz.prog W 0 (fun _ => true) true Tryz.f7.params.toList args.toList ds p := hA0
  rw [Tryz.params7] at hA hval hsz
  obtain ⟨v0, vs0, d0, ds0, p0, q0, hargs, rfl, rfl, h0, rR0⟩ := trodAll_cons hA
  obtain ⟨v1, vs1, d1, ds1, p1, q1, rfl, rfl, rfl, h1, rR1⟩ := trodAll_cons rR0
  obtain ⟨rfl, rfl, rfl⟩ := trodAll_nil rR1
  obtain rfl : args = #[v0, v1] := by cases args; simp_all
  obtain ⟨rfl, rfl⟩ := trodVars_none hV
  have k0 := h0
  have lt0 : ∀ x ∈ p0, x.block < W.heap.size := by obtain ⟨m, hm⟩ := k0; exact DataW.trod_lt m _ _ _ hm
  have X0 := open_fib (hval 0 35 v0 rfl rfl) (Arg.of h0 hsz (j := 0) rfl rfl)
  have k1 := h1
  have lt1 : ∀ x ∈ p1, x.block < W.heap.size := by obtain ⟨m, hm⟩ := k1; exact DataW.trod_lt m _ _ _ hm
  have X1 := open_fib (hval 1 35 v1 rfl rfl) (Arg.of h1 hsz (j := 1) rfl rfl)
  clear hA0 hval0 hsz0
  refine (fibSames_walk v0 v1 W X0 X1  henv).mono fun e W' ⟨he, bel⟩ => ?_
  subst he
  exact ⟨_, rfl, _, _, _, [], _, [], hW', trodAll_mk1 (shut_bool Tryz.underlying4 _), (trodAll_cons_mk (Below.trod laidOut (by kernel_rfl) (of_decide_eq_true (by kernel_rfl)) k0 bel lt0) (trodAll_cons_mk (Below.trod laidOut (by kernel_rfl) (of_decide_eq_true (by kernel_rfl)) k1 bel lt1) trodAll_mk0)), rfl, bel.frame _, fun h => by cases h⟩

theorem said : Rows.FibSamesSaid :=
  OpenClaim.holds_of_cond 7 Tryz.f7 rfl rfl rfl rfl rfl rfl rfl ⟨rfl, rfl, rfl, rfl, rfl⟩ rfl rfl rfl rfl rfl (by kernel_rfl) Tryz.func7 (by kernel_rfl)
    (of_decide_eq_true (by kernel_rfl)) (by unfold Func.isWrapper; first | (rw [if_pos (by decide +kernel)]; kernel_rfl) | (rw [if_neg (by decide +kernel)]; exact ⟨rfl, rfl⟩))
    (fun os started H enc _ F => by rw [OpenClaim.pre_eq_preRow]; exact lifted os started H enc F)
theorem plain (f : FuncId) (fn : Func) (hf : Tryz.pinned.checked.prog.funcNamed "routing/routinglaw52.FibSames" = some f) (hfn : Tryz.pinned.checked.prog.funcs[f]? = some fn) :
    false = Tryz.pinned.checked.prog.looks [] ∧ ∀ (j : Nat) t, fn.params[j]? = some t → Tryz.pinned.checked.prog.wantsStandIn t = false := by
  obtain rfl : f = 7 := Option.some.inj ((show Tryz.prog.funcNamed "routing/routinglaw52.FibSames" = some 7 by kernel_rfl).symm.trans hf) |>.symm
  obtain rfl : fn = Tryz.f7 := (Option.some.inj (Tryz.func7.symm.trans hfn)).symm
  refine ⟨by kernel_rfl, fun j t ht => ?_⟩
  rw [Tryz.params7] at ht
  have hm : t ∈ [35, 35] := by simpa using Array.mem_of_getElem? ht
  have hall : ([35, 35].all fun u => !Tryz.prog.wantsStandIn u) = true := by kernel_rfl
  exact (show Tryz.prog.wantsStandIn t = false by simpa using List.all_eq_true.1 hall t hm)
theorem card : Rows.FibSamesCardSaid :=
  Claim7.holds_tied_plain_at .later [] _ _ _ _ said (fun _ h => by cases h) (by kernel_rfl) (fun _ h => by cases h) fibSames_row_tie rfl ⟨rfl, rfl⟩ (by kernel_rfl) rfl plain (by kernel_rfl)
#print axioms card
end Go.Proofs.YtplppbgkkfjknaaGreatDoor.fibSames
