/- FibLookups: the law's walk. 'routing/routinglaw52.FibLookups': for every input the call returns true, and the input reads afterwards as it read before. Conditions: the library's tables read as the program's text lays them (the card ties them). The row's step around the walk of the text FLaw4. -/
import Derived.Test.YtplppbgkkfjknaaGreatDoorG33
import Derived.Test.YtplppbgkkfjknaaGreatDoorG28
import Derived.Test.YtplppbgkkfjknaaGreatDoorG25
import Derived.Test.YtplppbgkkfjknaaGreatDoorCards
import Derived.Test.YtplppbgkkfjknaaGreatDoorTie
import Derived.Deep.DeepHandedRow
import Derived.Test.YtplppbgkkfjknaaGreatDoorG26
namespace Go.Proofs.YtplppbgkkfjknaaGreatDoor
open Go.RowKit

set_option linter.unusedVariables false
set_option linter.unusedSimpArgs false
theorem keyP_self (p : PV) : keyP p.dat = keyP p := rfl
theorem keys_dat {ps qs : List PV} (h : ps.map PV.dat = qs.map PV.dat) : ps.map keyP = qs.map keyP := by
  have h1 := congrArg (List.map keyP) h
  rw [List.map_map, List.map_map] at h1
  exact h1
theorem sameG_of {x y : GE} (ha : x.act = y.act) (h : x.ps.map PV.dat = y.ps.map PV.dat) : sameG x y = true := by
  unfold sameG
  rw [decide_eq_true ha, decide_eq_true (keys_dat h)]
  rfl
theorem paths_zero (w : World) (B : Nat) : Paths w B none 0 0 [] := ⟨⟨Cells.nil w B 6, rfl⟩, fun p hp => by cases hp⟩
set_option maxRecDepth 100000 in
set_option maxHeartbeats 8000000 in
theorem fibLookups_main (v : Value) (a : Nat) (w : World) (ha : a < 4294967296) (hx : FibIn w v) (henv : Env w) : Calls Tryz.prog 4 #[v, .int .u32 a] w fun e w' => e = .returned (.bool true) ∧ Below w.heap.size w w' := by
  obtain ⟨tA, gA, lA, bA, nA, tn, tc, gn, gc, ln, lc, bn, bc, nn, nc, es, gs, ls, bs, ns, rfl, hf⟩ := hx
  obtain ⟨w1, hw1⟩ : ∃ w1, w.alloc (.cells #[.slice tA tn tc, .slice gA gn gc, .slice lA ln lc, .slice bA bn bc, .slice nA nn nc] 35) = w1 := ⟨_, rfl⟩
  have HF1 : Hid (Blk w1 w.heap.size 35 [.slice tA tn tc, .slice gA gn gc, .slice lA ln lc, .slice bA bn bc, .slice nA nn nc]) := by show Blk _ _ _ _; rw [← hw1]; exact Blk.new w _ _
  have HB1 : Hid (Below w.heap.size w w1) := by show Below _ _ _; rw [← hw1]; exact belowA _ _
  have HXW : Hid (∀ W, Below w.heap.size w W → FibAt W w.heap.size tA gA lA bA nA tn tc gn gc ln lc bn bc nn nc es gs ls bs ns) := fun W h => hf.below h
  have HLV : Hid (∀ W, Below w.heap.size w W → Calls Tryz.prog 9 #[] W fun e w' => e = .returned (.bool true) ∧ Below W.heap.size W w') := fun W h => lives52_any W (henv.below h)
  have HC := Lib.hid (few_any tA gA lA bA nA tn tc gn gc ln lc bn bc nn nc w.heap.size es gs ls bs ns w1 (HXW.out _ HB1.out).g (HXW.out _ HB1.out).b HB1.out.size)
  have f0 := HF1.out.cell 0
  have f1 := HF1.out.cell 1
  have f2 := HF1.out.cell 2
  have f3 := HF1.out.cell 3
  have f4 := HF1.out.cell 4
  simp only [List.getElem?_cons_zero, List.getElem?_cons_succ] at f0 f1 f2 f3 f4
  have hl1 := HF1.out.lt
  clear hf henv
  go_enter Tryz.func4, Tryz.ntmps4
  go_wp2_with fail
  refine HC.out.mono ?_
  rintro e w2 ⟨b, rfl, hfew, hb2⟩
  have HB2 := Lib.hid (below3 HB1.out hb2)
  have HF2 := Lib.hid (HF1.out.keep hb2)
  clear HC hb2 f0 f1 f2 f3 f4 hw1 hl1
  cases b with
  | false =>
    have HL := Lib.hid (HLV.out w2 HB2.out)
    clear hfew
    go_wp2_with fail
    refine HL.out.mono ?_
    rintro e w3 ⟨rfl, hb3⟩
    have HB3 := Lib.hid (below3 HB2.out hb3)
    clear hb3
    go_wp2
    go_ret
    exact ⟨rfl, HB3.out⟩
  | true =>
    have hsm := hfew rfl
    have HSR : Hid (∀ g ∈ gs, g.n ≤ 1000 ∧ Short g.ps) := fun g hg => by
      have h1 := hsm.gs g hg
      refine ⟨by have := h1.1; omega, fun p hp => ?_⟩
      have h2 := h1.2 p hp
      omega
    have HCK := Lib.hid (refFibCheck_any tA gA lA bA nA tn tc gn gc ln lc bn bc nn nc w.heap.size es gs ls bs ns w2 (HXW.out _ HB2.out) HB2.out.size)
    obtain ⟨E, hE⟩ : ∃ E, fibErr es gs ls bs ns = E := ⟨_, rfl⟩
    rw [hE] at HCK
    have HE := Lib.hid hE
    clear hfew hsm hE
    have f0 := HF2.out.cell 0
    have f1 := HF2.out.cell 1
    have f2 := HF2.out.cell 2
    have f3 := HF2.out.cell 3
    have f4 := HF2.out.cell 4
    simp only [List.getElem?_cons_zero, List.getElem?_cons_succ] at f0 f1 f2 f3 f4
    have hl2 := HF2.out.lt
    go_wp2_with fail
    refine HCK.out.mono ?_
    rintro e w3 ⟨rfl, hb3⟩
    have HB3 := Lib.hid (below3 HB2.out hb3)
    have HF3 := Lib.hid (HF2.out.keep hb3)
    clear hb3 HCK f0 f1 f2 f3 f4 hl2
    by_cases hE0 : E = 0
    case neg =>
      have d1 : (E != 0) = true := by simp [hE0]
      have HL := Lib.hid (HLV.out w3 HB3.out)
      clear hE0
      go_wp2_with fail
      refine HL.out.mono ?_
      rintro e w4 ⟨rfl, hb4⟩
      have HB4 := Lib.hid (below3 HB3.out hb4)
      clear hb4
      go_wp2
      go_ret
      exact ⟨rfl, HB4.out⟩
    subst hE0
    have HZ := Lib.hid (rows_of_fib HE.out)
    have HFB := HXW.out _ HB3.out
    have HLK := Lib.hid (lookup_fib_any tA gA lA bA nA tn tc gn gc ln lc bn bc nn nc w.heap.size es gs a w3 HFB.t HFB.g HB3.out.size HFB.tn ha HSR.out)
    have HRK : Hid (∀ W, Below w.heap.size w W → Calls Tryz.prog 16 #[.agg #[.slice tA tn tc, .slice gA gn gc, .slice lA ln lc, .slice bA bn bc, .slice nA nn nc], .int .u32 a] W (GivesRLk (lookG es gs a) W)) := fun W h => refLook_any tA gA lA bA nA tn tc gn gc ln lc bn bc nn nc w.heap.size es gs a W (HXW.out _ h).t (HXW.out _ h).g h.size HFB.tn ha HZ.out
    have HGM : Hid (∀ g, lookG es gs a = some g → g ∈ gs) := fun g hg => by
      unfold lookG at hg
      obtain ⟨x, _, h2⟩ := Option.bind_eq_some_iff.1 hg
      split at h2
      · cases h2
      · exact List.mem_of_getElem? h2
    obtain ⟨X, hX⟩ : ∃ X, lookG es gs a = X := ⟨_, rfl⟩
    rw [hX] at HLK HRK HGM
    clear hX HFB HE
    have f0 := HF3.out.cell 0
    have f1 := HF3.out.cell 1
    have f2 := HF3.out.cell 2
    have f3 := HF3.out.cell 3
    have f4 := HF3.out.cell 4
    simp only [List.getElem?_cons_zero, List.getElem?_cons_succ] at f0 f1 f2 f3 f4
    have hl3 := HF3.out.lt
    go_wp2_with fail
    refine HLK.out.mono ?_
    cases X with
    | none =>
      rintro e w4 ⟨rfl, hb4⟩
      have HB4 := Lib.hid (below3 HB3.out hb4)
      have HF4 := Lib.hid (HF3.out.keep hb4)
      obtain ⟨w5, hw5⟩ : ∃ w5, w4.alloc (.cells #[.int .i64 0, .slice none 0 0] 47) = w5 := ⟨_, rfl⟩
      have HE5 : Hid (Blk w5 w4.heap.size 47 [.int .i64 0, .slice none 0 0]) := by show Blk _ _ _ _; rw [← hw5]; exact Blk.new w4 _ _
      have hb5 : Below w4.heap.size w4 w5 := by rw [← hw5]; exact belowA _ _
      obtain ⟨w6, hw6⟩ : ∃ w6, w5.setRow w4.heap.size #[.int .i64 0, .slice none 0 0] = w6 := ⟨_, rfl⟩
      have hsr : Save w4.heap.size w5 w6 := by rw [← hw6]; exact Save.row _ _ _
      have HE6 : Hid (Blk w6 w4.heap.size 47 [.int .i64 0, .slice none 0 0]) := by show Blk _ _ _ _; rw [← hw6]; exact HE5.out.row _
      have HB5 := Lib.hid (below3 HB4.out hb5)
      have HB6 : Hid (Below w.heap.size w w6) := by show Below _ _ _; exact HB5.out.trans (hsr.below HB4.out.size HB5.out.size)
      have HF6 := Lib.hid ((HF4.out.keep hb5).save hsr (by have := HF4.out.lt; omega))
      have HRK6 := Lib.hid (HRK.out w6 HB6.out)
      clear hb4 hb5 hsr f0 f1 f2 f3 f4 hl3
      have f0 := HF6.out.cell 0
      have f1 := HF6.out.cell 1
      have f2 := HF6.out.cell 2
      have f3 := HF6.out.cell 3
      have f4 := HF6.out.cell 4
      simp only [List.getElem?_cons_zero, List.getElem?_cons_succ] at f0 f1 f2 f3 f4
      have hl6 := HF6.out.lt
      go_upto_region 4 with (refine wpList_store_blk rfl 47 _ _ rfl w4.heap.size rfl rfl HE5.out (by kernel_rfl) rfl (by kernel_rfl) ?_)
      try rw [hw6]
      go_wp2_with fail
      refine HRK6.out.mono ?_
      rintro e w7 ⟨hb7, he⟩
      have he2 : e = .returned (.tuple #[.agg #[.int .i64 0, .slice none 0 0], .bool false]) := he
      subst he2
      have HB7 := Lib.hid (below3 HB6.out hb7)
      have HE7 := Lib.hid (HE6.out.keep hb7)
      obtain ⟨w8, hw8⟩ : ∃ w8, w7.alloc (.cells #[.int .i64 0, .slice none 0 0] 47) = w8 := ⟨_, rfl⟩
      have HE8 : Hid (Blk w8 w7.heap.size 47 [.int .i64 0, .slice none 0 0]) := by show Blk _ _ _ _; rw [← hw8]; exact Blk.new w7 _ _
      have hb8 : Below w7.heap.size w7 w8 := by rw [← hw8]; exact belowA _ _
      obtain ⟨w9, hw9⟩ : ∃ w9, w8.setRow w7.heap.size #[.int .i64 0, .slice none 0 0] = w9 := ⟨_, rfl⟩
      have hsr : Save w7.heap.size w8 w9 := by rw [← hw9]; exact Save.row _ _ _
      have HE9 : Hid (Blk w9 w7.heap.size 47 [.int .i64 0, .slice none 0 0]) := by show Blk _ _ _ _; rw [← hw9]; exact HE8.out.row _
      have HB8 := Lib.hid (below3 HB7.out hb8)
      have HB9 : Hid (Below w.heap.size w w9) := by show Below _ _ _; exact HB8.out.trans (hsr.below HB7.out.size HB8.out.size)
      have HD9 := Lib.hid ((HE7.out.keep hb8).save hsr (by have := HE7.out.lt; omega))
      have HSG := Lib.hid (sameGroup52_any ⟨0, none, 0, 0, []⟩ ⟨0, none, 0, 0, []⟩ w9.heap.size w9 (paths_zero _ _) (paths_zero _ _) (Nat.le_refl _) (by show 0 ≤ _; omega) (by show 0 ≤ _; omega) (fun p hp => by cases hp) (fun p hp => by cases hp))
      rw [show sameG ⟨0, none, 0, 0, []⟩ ⟨0, none, 0, 0, []⟩ = true from by decide] at HSG
      clear hb7 hb8 hsr f0 f1 f2 f3 f4 hl6 he
      have e0 := HD9.out.cell 0
      have e1 := HD9.out.cell 1
      have d0 := HE9.out.cell 0
      have d1 := HE9.out.cell 1
      simp only [List.getElem?_cons_zero, List.getElem?_cons_succ] at e0 e1 d0 d1
      have he9 := HD9.out.lt
      have hd9 := HE9.out.lt
      go_upto_region 5 with (refine wpList_store_blk rfl 47 _ _ rfl w7.heap.size rfl rfl HE8.out (by kernel_rfl) rfl (by kernel_rfl) ?_)
      try rw [hw9]
      go_wp2_with fail
      refine HSG.out.mono ?_
      rintro e w10 ⟨rfl, hb10⟩
      have HB10 := Lib.hid (below3 HB9.out hb10)
      have HL := Lib.hid (HLV.out w10 HB10.out)
      clear hb10 HSG
      go_wp2_with fail
      refine HL.out.mono ?_
      rintro e w11 ⟨rfl, hb11⟩
      have HB11 := Lib.hid (below3 HB10.out hb11)
      clear hb11
      go_wp2
      go_ret
      exact ⟨rfl, HB11.out⟩
    | some g =>
      have hgm := HGM.out g rfl
      rintro e w4 ⟨gA5, gc5, qs, rfl, hps, hqd, _, hb4⟩
      have HB4 := Lib.hid (below3 HB3.out hb4)
      have HF4 := Lib.hid (HF3.out.keep hb4)
      have HGW : Hid (∀ W, Below w.heap.size w W → Paths W w.heap.size g.A g.n g.c g.ps) := fun W h => (HXW.out _ h).g.2 g hgm
      have hgs := HSR.out g hgm
      obtain ⟨w5, hw5⟩ : ∃ w5, w4.alloc (.cells #[.int .i64 g.act, .slice gA5 g.n gc5] 47) = w5 := ⟨_, rfl⟩
      have HE5 : Hid (Blk w5 w4.heap.size 47 [.int .i64 g.act, .slice gA5 g.n gc5]) := by show Blk _ _ _ _; rw [← hw5]; exact Blk.new w4 _ _
      have hb5 : Below w4.heap.size w4 w5 := by rw [← hw5]; exact belowA _ _
      have HB5 := Lib.hid (below3 HB4.out hb5)
      have HF5 := Lib.hid (HF4.out.keep hb5)
      have HRK5 := Lib.hid (HRK.out w5 HB5.out)
      have HPW : Hid (∀ W, Below w5.heap.size w5 W → Paths W w5.heap.size gA5 g.n gc5 qs) := fun W h => ((hps.below hb5).more hb5.size).below h
      have HSG : Hid (∀ W, Below w5.heap.size w5 W → Below w.heap.size w W → Calls Tryz.prog 17 #[.agg #[.int .i64 g.act, .slice gA5 g.n gc5], .agg #[.int .i64 g.act, .slice g.A g.n g.c]] W fun e w' => e = .returned (.bool true) ∧ Below W.heap.size W w') := by
        intro W h1 h2
        have hx := HPW.out W h1
        have h := sameGroup52_any ⟨g.act, gA5, g.n, gc5, qs⟩ g W.heap.size W (hx.more h1.size) ((HGW.out W h2).more h2.size) (Nat.le_refl _) (by show g.n ≤ _; have := hgs.1; omega) (by have := hgs.1; omega) (fun p hp => by
          have h4 : p.dat ∈ qs.map PV.dat := List.mem_map_of_mem hp
          rw [hqd] at h4
          obtain ⟨p2, h5, h6⟩ := List.mem_map.1 h4
          have h7 := hgs.2 p2 h5
          have h8 := hx.even p hp
          have h9 := (HGW.out W h2).even p2 h5
          have h10 : p2.ls = p.ls := by have h11 : p2.dat.ls = p.dat.ls := congrArg PV.ls h6; exact h11
          rw [h10] at h9
          omega) hgs.2
        rw [sameG_of (x := ⟨g.act, gA5, g.n, gc5, qs⟩) (y := g) rfl hqd] at h
        exact h
      clear hb4 hb5 hps hqd f0 f1 f2 f3 f4 hl3 hgm hgs
      have f0 := HF5.out.cell 0
      have f1 := HF5.out.cell 1
      have f2 := HF5.out.cell 2
      have f3 := HF5.out.cell 3
      have f4 := HF5.out.cell 4
      simp only [List.getElem?_cons_zero, List.getElem?_cons_succ] at f0 f1 f2 f3 f4
      have hl5 := HF5.out.lt
      go_wp2_with fail
      refine HRK5.out.mono ?_
      rintro e w7 ⟨hb7, he⟩
      have he2 : e = .returned (.tuple #[.agg #[.int .i64 g.act, .slice g.A g.n g.c], .bool true]) := he
      subst he2
      have HB57 := Lib.hid hb7
      have HB7 := Lib.hid (below3 HB5.out hb7)
      have HE7 := Lib.hid (HE5.out.keep hb7)
      obtain ⟨w8, hw8⟩ : ∃ w8, w7.alloc (.cells #[.int .i64 g.act, .slice g.A g.n g.c] 47) = w8 := ⟨_, rfl⟩
      have HE8 : Hid (Blk w8 w7.heap.size 47 [.int .i64 g.act, .slice g.A g.n g.c]) := by show Blk _ _ _ _; rw [← hw8]; exact Blk.new w7 _ _
      have hb8 : Below w7.heap.size w7 w8 := by rw [← hw8]; exact belowA _ _
      have HB8 := Lib.hid (below3 HB7.out hb8)
      have HB58 := Lib.hid (below3 HB57.out hb8)
      have HD8 := Lib.hid (HE7.out.keep hb8)
      have HSG8 := Lib.hid (HSG.out w8 HB58.out HB8.out)
      clear hb7 hb8 f0 f1 f2 f3 f4 hl5 he
      have e0 := HD8.out.cell 0
      have e1 := HD8.out.cell 1
      have d0 := HE8.out.cell 0
      have d1 := HE8.out.cell 1
      simp only [List.getElem?_cons_zero, List.getElem?_cons_succ] at e0 e1 d0 d1
      have he8 := HD8.out.lt
      have hd8 := HE8.out.lt
      go_wp2_with fail
      refine HSG8.out.mono ?_
      rintro e w10 ⟨rfl, hb10⟩
      have HB10 := Lib.hid (below3 HB8.out hb10)
      have HL := Lib.hid (HLV.out w10 HB10.out)
      clear hb10 HSG8
      go_wp2_with fail
      refine HL.out.mono ?_
      rintro e w11 ⟨rfl, hb11⟩
      have HB11 := Lib.hid (below3 HB10.out hb11)
      clear hb11
      go_wp2
      go_ret
      exact ⟨rfl, HB11.out⟩
theorem fibLookups_walk (v : Value) (a : Int) (w : World) (hx : FibIn w v) (ha : (Lit.int .u32 a).wf = true) (henv : Env w) : Calls Tryz.prog 4 #[v, .int .u32 a] w fun e w' => e = .returned (.bool true) ∧ Below w.heap.size w w' := by
  obtain ⟨h1, h2⟩ := wf_u32 ha
  obtain ⟨n, rfl⟩ : ∃ n : Nat, a = n := ⟨a.toNat, by omega⟩
  exact fibLookups_main v n w (by omega) hx henv
end Go.Proofs.YtplppbgkkfjknaaGreatDoor
namespace Go.Proofs.YtplppbgkkfjknaaGreatDoor.fibLookups
open Go.ChangeShapes Go.WideShapes Go.ChangeAt Go.RowKit
open Go.ChangeMaps (open_string shut_string)
set_option linter.unusedVariables false

theorem reads (os : Os) {H : Type} (enc : TypeId × Value → H) : ∃ places, DataW.whole enc Tryz.prog ((laidWorld os).forCall (fun _ _ => 0) ⟨#[], #[.agg #[.slice none 0 0, .slice none 0 0, .slice none 0 0, .slice none 0 0, .slice none 0 0], .int .u32 0], []⟩).memory Tryz.f4.params.toList Rows.fibLookupsSpec.vars false (#[.agg #[.slice none 0 0, .slice none 0 0, .slice none 0 0, .slice none 0 0, .slice none 0 0], .int .u32 0] : Array Value).toList 8 = some ([.agg [.nil, .nil, .nil, .nil, .nil], .lit (.int .u32 0)], [], places) :=
  ⟨[], by kernel_rfl⟩
set_option maxRecDepth 100000 in
theorem lifted (os : Os) (started : os.Started) (H : Type) (enc : TypeId × Value → H) (F : Stop.Interp) :
    ReturnsInHanded {} Tryz.checked os 4 .any ((OpenSpec.ofChange Rows.fibLookupsSpec).preRow enc Tryz.prog Tryz.f4 Rows.fibLookupsRow.domain false Rows.fibLookupsRow.laid) (((OpenSpec.ofChange Rows.fibLookupsSpec).at F).post enc Tryz.prog Tryz.f4 false true false false) := by
  obtain ⟨places, hx⟩ := reads os enc
  refine returnsInHanded_of_row (C := Tryz.checked) (s := (OpenSpec.ofChange Rows.fibLookupsSpec)) own started (by kernel_rfl) Tryz.func4
    (witness_row_at (enc := enc) (C := Tryz.checked) false (laidWorld os) #[.agg #[.slice none 0 0, .slice none 0 0, .slice none 0 0, .slice none 0 0, .slice none 0 0], .int .u32 0] rfl (by kernel_rfl) (by kernel_rfl) (by kernel_rfl)
      (OpenSpec.preRow_of_cond 8 hx (by kernel_rfl) (fun k hk => by cases hk) (by kernel_rfl) (laid_met os _))) ?_
  intro W base args ds gs before hval0 hW hcnd hcond hsz0 hL0 hsh _
  have hval : ∀ (j : Nat) t v, Tryz.f4.params[j]? = some t → args[j]? = some v → Value.okWide Tryz.prog W .any base t v := hval0
  have hsz : (DataW.weightsEach Tryz.prog (Tryz.f4.params.toList ++ Rows.fibLookupsSpec.plain.varTypes Tryz.prog) (ds ++ gs)).all (· ≤ reachBytes) = true := hsz0
  have henv : Env W := env_of hL0 hsh
  have hW' := hW
  obtain ⟨p, q, hA0, hV, rfl, hfz, hnd⟩ := hW
  have hA : DataW.TrodAll enc Tryz.prog W 0 (fun _ => true) true Tryz.f4.params.toList args.toList ds p := hA0
  rw [Tryz.params4] at hA hval hsz
  obtain ⟨v0, vs0, d0, ds0, p0, q0, hargs, rfl, rfl, h0, rR0⟩ := trodAll_cons hA
  obtain ⟨v1, vs1, d1, ds1, p1, q1, rfl, rfl, rfl, h1, rR1⟩ := trodAll_cons rR0
  obtain ⟨rfl, rfl, rfl⟩ := trodAll_nil rR1
  obtain rfl : args = #[v0, v1] := by cases args; simp_all
  obtain ⟨rfl, rfl⟩ := trodVars_none hV
  have k0 := h0
  have lt0 : ∀ x ∈ p0, x.block < W.heap.size := by obtain ⟨m, hm⟩ := k0; exact DataW.trod_lt m _ _ _ hm
  have X0 := open_fib (hval 0 35 v0 rfl rfl) (Arg.of h0 hsz (j := 0) rfl rfl)
  obtain ⟨a1, rfl, rfl, rfl, w1⟩ := open_int Tryz.underlying42 (hval 1 42 v1 rfl rfl) h1
  clear hA0 hval0 hsz0
  refine (fibLookups_walk v0 a1 W X0 w1  henv).mono fun e W' ⟨he, bel⟩ => ?_
  subst he
  exact ⟨_, rfl, _, _, _, [], _, [], hW', trodAll_mk1 (shut_bool Tryz.underlying4 _), (trodAll_cons_mk (Below.trod laidOut (by kernel_rfl) (of_decide_eq_true (by kernel_rfl)) k0 bel lt0) (trodAll_cons_mk (shut_int Tryz.underlying42 w1) trodAll_mk0)), rfl, bel.frame _, fun h => by cases h⟩

theorem said : Rows.FibLookupsSaid :=
  OpenClaim.holds_of_cond 4 Tryz.f4 rfl rfl rfl rfl rfl rfl rfl ⟨rfl, rfl, rfl, rfl, rfl⟩ rfl rfl rfl rfl rfl (by kernel_rfl) Tryz.func4 (by kernel_rfl)
    (of_decide_eq_true (by kernel_rfl)) (by unfold Func.isWrapper; first | (rw [if_pos (by decide +kernel)]; kernel_rfl) | (rw [if_neg (by decide +kernel)]; exact ⟨rfl, rfl⟩))
    (fun os started H enc _ F => by rw [OpenClaim.pre_eq_preRow]; exact lifted os started H enc F)
theorem plain (f : FuncId) (fn : Func) (hf : Tryz.pinned.checked.prog.funcNamed "routing/routinglaw52.FibLookups" = some f) (hfn : Tryz.pinned.checked.prog.funcs[f]? = some fn) :
    false = Tryz.pinned.checked.prog.looks [] ∧ ∀ (j : Nat) t, fn.params[j]? = some t → Tryz.pinned.checked.prog.wantsStandIn t = false := by
  obtain rfl : f = 4 := Option.some.inj ((show Tryz.prog.funcNamed "routing/routinglaw52.FibLookups" = some 4 by kernel_rfl).symm.trans hf) |>.symm
  obtain rfl : fn = Tryz.f4 := (Option.some.inj (Tryz.func4.symm.trans hfn)).symm
  refine ⟨by kernel_rfl, fun j t ht => ?_⟩
  rw [Tryz.params4] at ht
  have hm : t ∈ [35, 42] := by simpa using Array.mem_of_getElem? ht
  have hall : ([35, 42].all fun u => !Tryz.prog.wantsStandIn u) = true := by kernel_rfl
  exact (show Tryz.prog.wantsStandIn t = false by simpa using List.all_eq_true.1 hall t hm)
theorem card : Rows.FibLookupsCardSaid :=
  Claim7.holds_tied_plain_at .later [] _ _ _ _ said (fun _ h => by cases h) (by kernel_rfl) (fun _ h => by cases h) fibLookups_row_tie rfl ⟨rfl, rfl⟩ (by kernel_rfl) rfl plain (by kernel_rfl)
#print axioms card
end Go.Proofs.YtplppbgkkfjknaaGreatDoor.fibLookups
