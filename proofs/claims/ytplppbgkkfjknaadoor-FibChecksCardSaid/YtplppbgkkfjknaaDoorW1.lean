/- FibChecks: the law's walk. 'routing/routinglaw52.FibChecks': for every input the call returns true, and the input reads afterwards as it read before. Conditions: the library's tables read as the program's text lays them (the card ties them). The row's step around the walk of the text FLaw1. -/
import Derived.Test.YtplppbgkkfjknaaDoorG25
import Derived.Test.YtplppbgkkfjknaaDoorCards
import Derived.Test.YtplppbgkkfjknaaDoorTie
import Derived.Deep.DeepHandedRow
import Derived.Test.YtplppbgkkfjknaaDoorG26
namespace Go.Proofs.YtplppbgkkfjknaaDoor
open Go.RowKit

set_option linter.unusedVariables false
set_option linter.unusedSimpArgs false
set_option maxRecDepth 100000 in
set_option maxHeartbeats 8000000 in
theorem fibChecks_walk (v : Value) (w : World) (hx : FibIn w v) (henv : Env w) : Calls Tryd.prog 3 #[v] w fun e w' => e = .returned (.bool true) ∧ Below w.heap.size w w' := by
  obtain ⟨tA, gA, lA, bA, nA, tn, tc, gn, gc, ln, lc, bn, bc, nn, nc, es, gs, ls, bs, ns, rfl, hf⟩ := hx
  obtain ⟨w1, hw1⟩ : ∃ w1, w.alloc (.cells #[.slice tA tn tc, .slice gA gn gc, .slice lA ln lc, .slice bA bn bc, .slice nA nn nc] 28) = w1 := ⟨_, rfl⟩
  have HF1 : Hid (Blk w1 w.heap.size 28 [.slice tA tn tc, .slice gA gn gc, .slice lA ln lc, .slice bA bn bc, .slice nA nn nc]) := by show Blk _ _ _ _; rw [← hw1]; exact Blk.new w _ _
  have HB1 : Hid (Below w.heap.size w w1) := by show Below _ _ _; rw [← hw1]; exact belowA _ _
  have HXW : Hid (∀ W, Below w.heap.size w W → FibAt W w.heap.size tA gA lA bA nA tn tc gn gc ln lc bn bc nn nc es gs ls bs ns) := fun W h => hf.below h
  have HEW : Hid (∀ W, Below w.heap.size w W → Env W) := fun W h => henv.below h
  have HC := Lib.hid (few_any tA gA lA bA nA tn tc gn gc ln lc bn bc nn nc w.heap.size es gs ls bs ns w1 (HXW.out _ HB1.out).g (HXW.out _ HB1.out).b HB1.out.size)
  have f0 := HF1.out.cell 0
  have f1 := HF1.out.cell 1
  have f2 := HF1.out.cell 2
  have f3 := HF1.out.cell 3
  have f4 := HF1.out.cell 4
  simp only [List.getElem?_cons_zero, List.getElem?_cons_succ] at f0 f1 f2 f3 f4
  have hl1 := HF1.out.lt
  clear hf henv
  go_enter Tryd.func3, Tryd.ntmps3
  go_wp2_with fail
  refine HC.out.mono ?_
  rintro e w2 ⟨b, rfl, _, hb2⟩
  have HB2 := Lib.hid (below3 HB1.out hb2)
  have HF2 := Lib.hid (HF1.out.keep hb2)
  clear HC hb2 f0 f1 f2 f3 f4 hw1
  cases b with
  | false =>
    have HL := Lib.hid (lives52_any w2 (HEW.out _ HB2.out))
    go_wp2_with fail
    refine HL.out.mono ?_
    rintro e w3 ⟨rfl, hb3⟩
    have HB3 := Lib.hid (below3 HB2.out hb3)
    clear hb3
    go_wp2
    go_ret
    exact ⟨rfl, HB3.out⟩
  | true =>
    obtain ⟨wD, hwD⟩ : ∃ wD, w2.drew = wD := ⟨_, rfl⟩
    have hbD : Below w2.heap.size w2 wD := by rw [← hwD]; exact (Below.refl _ _).drew
    have HFD := Lib.hid (HF2.out.keep hbD)
    have HBD := Lib.hid (below3 HB2.out hbD)
    have HC1 := Lib.hid (fibCheck_any tA gA lA bA nA tn tc gn gc ln lc bn bc nn nc w.heap.size es gs ls bs ns wD (HXW.out _ HBD.out) HBD.out.size)
    obtain ⟨E, hE⟩ : ∃ E, fibErr es gs ls bs ns = E := ⟨_, rfl⟩
    rw [hE] at HC1
    have HC2 : Hid (∀ W, Below w.heap.size w W → Calls Tryd.prog 9 #[.agg #[.slice tA tn tc, .slice gA gn gc, .slice lA ln lc, .slice bA bn bc, .slice nA nn nc]] W fun e w' => e = .returned (.int .i64 E) ∧ Below W.heap.size W w') := by
      intro W hW
      have h := refFibCheck_any tA gA lA bA nA tn tc gn gc ln lc bn bc nn nc w.heap.size es gs ls bs ns W (HXW.out _ hW) hW.size
      rw [hE] at h
      exact h
    clear hbD hE
    go_upto_region 3 with fail
    refine wp_region_noPanic ?_
    refine wp_region_held_drew (S := fun V => Blk V w.heap.size 28 [.slice tA tn tc, .slice gA gn gc, .slice lA ln lc, .slice bA bn bc, .slice nA nn nc]) (by kernel_rfl) (by rw [hwD]; exact HFD.out) (fun hHeld => ?_)
    rw [hwD] at hHeld ⊢
    clear hwD
    refine take_in (i := 0) _ (some 7) (by kernel_rfl) (by kernel_rfl) (by kernel_rfl) (by kernel_rfl) (fun _ _ _ h => h) (by rfl) (fun o ho w hSw => by cases ho; exact run_load_blk _ _ rfl _ rfl (hSw) _ Tryd.underlying28 rfl (by kernel_rfl)) hHeld ?_
    try simp only [Act.put, List.setIfInBounds_toArray, List.set_cons_zero, List.set_cons_succ]
    refine take_in (i := 2) _ (some 9) (by kernel_rfl) (by kernel_rfl) (by kernel_rfl) (by kernel_rfl) (fun _ _ _ h => h) (by rfl) (fun o ho w hSw => by cases ho; exact run_load_blk _ _ rfl _ rfl (hSw) _ Tryd.underlying28 rfl (by kernel_rfl)) hHeld ?_
    try simp only [Act.put, List.setIfInBounds_toArray, List.set_cons_zero, List.set_cons_succ]
    refine wpAnyH_ready (rs := [1]) (by kernel_rfl) (by simp) ?_
    refine AllReadyH.cons (o := _) rfl (fun K hK => ?_) AllReadyH.nil
    go_simp
    go_at_call 8
    with_reducible refine HC1.out.mono ?_
    rintro e w3 ⟨rfl, hb3⟩
    have HF3 := Lib.hid (HFD.out.keep hb3)
    have HB3 := Lib.hid (below3 HBD.out hb3)
    have HC3 := Lib.hid (HC2.out _ HB3.out)
    clear hb3
    refine hK.out _ _ HF3.out (fun hHeld => ?_)
    clear hK K
    try simp only [Act.put, List.setIfInBounds_toArray, List.set_cons_zero, List.set_cons_succ]
    refine wpAnyH_ready (rs := [3]) (by kernel_rfl) (by simp) ?_
    refine AllReadyH.cons (o := _) rfl (fun K hK => ?_) AllReadyH.nil
    go_simp
    go_at_call 9
    with_reducible refine HC3.out.mono ?_
    rintro e w4 ⟨rfl, hb4⟩
    have HF4 := Lib.hid (HF3.out.keep hb4)
    have HB4 := Lib.hid (below3 HB3.out hb4)
    have HL := Lib.hid (lives52_any w4 (HEW.out _ HB4.out))
    clear hb4
    refine hK.out _ _ HF4.out (fun hHeld => ?_)
    clear hK K
    try simp only [Act.put, List.setIfInBounds_toArray, List.set_cons_zero, List.set_cons_succ]
    refine take_in (i := 4) _ (some 11) (by kernel_rfl) (by kernel_rfl) (by kernel_rfl) (by kernel_rfl) (fun _ _ _ h => h) (by rfl) (fun o ho w hSw => by cases ho; (try dsimp only at hSw); (try go_split_ands); go_simp; (try with_reducible rfl)) hHeld ?_
    try simp only [Act.put, List.setIfInBounds_toArray, List.set_cons_zero, List.set_cons_succ]
    refine take_in (i := 5) _ (some 12) (by kernel_rfl) (by kernel_rfl) (by kernel_rfl) (by kernel_rfl) (fun _ _ _ h => h) (by rfl) (fun o ho w hSw => by cases ho; (try dsimp only at hSw); (try go_split_ands); go_simp; (try with_reducible rfl)) hHeld ?_
    try simp only [Act.put, List.setIfInBounds_toArray, List.set_cons_zero, List.set_cons_succ]
    refine wpAnyH_ready (rs := [6]) (by kernel_rfl) (by simp) ?_
    refine AllReadyH.cons (o := _) rfl (fun K hK => ?_) AllReadyH.nil
    go_simp
    go_at_call 7
    with_reducible refine HL.out.mono ?_
    rintro e w5 ⟨rfl, hb5⟩
    have HF5 := Lib.hid (HF4.out.keep hb5)
    have HB5 := Lib.hid (below3 HB4.out hb5)
    clear hb5
    refine hK.out _ _ HF5.out (fun hHeld => ?_)
    clear hK K
    try simp only [Act.put, List.setIfInBounds_toArray, List.set_cons_zero, List.set_cons_succ]
    refine take_in (i := 7) _ (some 14) (by kernel_rfl) (by kernel_rfl) (by kernel_rfl) (by kernel_rfl) (fun _ _ _ h => h) (by rfl) (fun o ho w hSw => by cases ho; (try dsimp only at hSw); (try go_split_ands); go_simp; (try with_reducible rfl)) hHeld ?_
    try simp only [Act.put, List.setIfInBounds_toArray, List.set_cons_zero, List.set_cons_succ]
    refine take_in (i := 8) _ (some 2) (by kernel_rfl) (by kernel_rfl) (by kernel_rfl) (by kernel_rfl) (fun _ _ _ h => h) (by rfl) (fun o ho w hSw => by cases ho; (try dsimp only at hSw); (try go_split_ands); go_simp; (try with_reducible rfl)) hHeld ?_
    try simp only [Act.put, List.setIfInBounds_toArray, List.set_cons_zero, List.set_cons_succ]
    refine wpAnyH_done (by kernel_rfl) ?_ _
    refine NoPanic.normal ?_
    go_wp2
    go_ret
    exact ⟨rfl, HB5.out⟩
end Go.Proofs.YtplppbgkkfjknaaDoor
namespace Go.Proofs.YtplppbgkkfjknaaDoor.fibChecks
open Go.ChangeShapes Go.WideShapes Go.ChangeAt Go.RowKit
open Go.ChangeMaps (open_string shut_string)
set_option linter.unusedVariables false

theorem reads (os : Os) {H : Type} (enc : TypeId × Value → H) : ∃ places, DataW.whole enc Tryd.prog ((laidWorld os).forCall (fun _ _ => 0) ⟨#[], #[.agg #[.slice none 0 0, .slice none 0 0, .slice none 0 0, .slice none 0 0, .slice none 0 0]], []⟩).memory Tryd.f3.params.toList Rows.fibChecksSpec.vars false (#[.agg #[.slice none 0 0, .slice none 0 0, .slice none 0 0, .slice none 0 0, .slice none 0 0]] : Array Value).toList 8 = some ([.agg [.nil, .nil, .nil, .nil, .nil]], [], places) :=
  ⟨[], by kernel_rfl⟩
set_option maxRecDepth 100000 in
theorem lifted (os : Os) (started : os.Started) (H : Type) (enc : TypeId × Value → H) (F : Stop.Interp) :
    ReturnsInHanded {} Tryd.checked os 3 .any ((OpenSpec.ofChange Rows.fibChecksSpec).preRow enc Tryd.prog Tryd.f3 Rows.fibChecksRow.domain false Rows.fibChecksRow.laid) (((OpenSpec.ofChange Rows.fibChecksSpec).at F).post enc Tryd.prog Tryd.f3 false true false false) := by
  obtain ⟨places, hx⟩ := reads os enc
  refine returnsInHanded_of_row (C := Tryd.checked) (s := (OpenSpec.ofChange Rows.fibChecksSpec)) own started (by kernel_rfl) Tryd.func3
    (witness_row_at (enc := enc) (C := Tryd.checked) false (laidWorld os) #[.agg #[.slice none 0 0, .slice none 0 0, .slice none 0 0, .slice none 0 0, .slice none 0 0]] rfl (by kernel_rfl) (by kernel_rfl) (by kernel_rfl)
      (OpenSpec.preRow_of_cond 8 hx (by kernel_rfl) (fun k hk => by cases hk) (by kernel_rfl) (laid_met os _))) ?_
  intro W base args ds gs before hval0 hW hcnd hcond hsz0 hL0 hsh _
  have hval : ∀ (j : Nat) t v, Tryd.f3.params[j]? = some t → args[j]? = some v → Value.okWide Tryd.prog W .any base t v := hval0
  have hsz : (DataW.weightsEach Tryd.prog (Tryd.f3.params.toList ++ Rows.fibChecksSpec.plain.varTypes Tryd.prog) (ds ++ gs)).all (· ≤ reachBytes) = true := hsz0
  have henv : Env W := env_of hL0 hsh
  have hW' := hW
  obtain ⟨p, q, hA0, hV, rfl, hfz, hnd⟩ := hW
  have hA : DataW.TrodAll enc Tryd.prog W 0 (fun _ => true) true Tryd.f3.params.toList args.toList ds p := hA0
  rw [Tryd.params3] at hA hval hsz
  obtain ⟨v0, vs0, d0, ds0, p0, q0, hargs, rfl, rfl, h0, rR0⟩ := trodAll_cons hA
  obtain ⟨rfl, rfl, rfl⟩ := trodAll_nil rR0
  obtain rfl : args = #[v0] := by cases args; simp_all
  obtain ⟨rfl, rfl⟩ := trodVars_none hV
  have k0 := h0
  have lt0 : ∀ x ∈ p0, x.block < W.heap.size := by obtain ⟨m, hm⟩ := k0; exact DataW.trod_lt m _ _ _ hm
  have X0 := open_fib (hval 0 28 v0 rfl rfl) (Arg.of h0 hsz (j := 0) rfl rfl)
  clear hA0 hval0 hsz0
  refine (fibChecks_walk v0 W X0  henv).mono fun e W' ⟨he, bel⟩ => ?_
  subst he
  exact ⟨_, rfl, _, _, _, [], _, [], hW', trodAll_mk1 (shut_bool Tryd.underlying4 _), (trodAll_cons_mk (Below.trod laidOut (by kernel_rfl) (of_decide_eq_true (by kernel_rfl)) k0 bel lt0) trodAll_mk0), rfl, bel.frame _, fun h => by cases h⟩

theorem said : Rows.FibChecksSaid :=
  OpenClaim.holds_of_cond 3 Tryd.f3 rfl rfl rfl rfl rfl rfl rfl ⟨rfl, rfl, rfl, rfl, rfl⟩ rfl rfl rfl rfl rfl (by kernel_rfl) Tryd.func3 (by kernel_rfl)
    (of_decide_eq_true (by kernel_rfl)) (by unfold Func.isWrapper; first | (rw [if_pos (by decide +kernel)]; kernel_rfl) | (rw [if_neg (by decide +kernel)]; exact ⟨rfl, rfl⟩))
    (fun os started H enc _ F => by rw [OpenClaim.pre_eq_preRow]; exact lifted os started H enc F)
theorem plain (f : FuncId) (fn : Func) (hf : Tryd.pinned.checked.prog.funcNamed "routing/routinglaw52.FibChecks" = some f) (hfn : Tryd.pinned.checked.prog.funcs[f]? = some fn) :
    false = Tryd.pinned.checked.prog.looks [] ∧ ∀ (j : Nat) t, fn.params[j]? = some t → Tryd.pinned.checked.prog.wantsStandIn t = false := by
  obtain rfl : f = 3 := Option.some.inj ((show Tryd.prog.funcNamed "routing/routinglaw52.FibChecks" = some 3 by kernel_rfl).symm.trans hf) |>.symm
  obtain rfl : fn = Tryd.f3 := (Option.some.inj (Tryd.func3.symm.trans hfn)).symm
  refine ⟨by kernel_rfl, fun j t ht => ?_⟩
  rw [Tryd.params3] at ht
  have hm : t ∈ [28] := by simpa using Array.mem_of_getElem? ht
  have hall : ([28].all fun u => !Tryd.prog.wantsStandIn u) = true := by kernel_rfl
  exact (show Tryd.prog.wantsStandIn t = false by simpa using List.all_eq_true.1 hall t hm)
theorem card : Rows.FibChecksCardSaid :=
  Claim7.holds_tied_plain_at .later [] _ _ _ _ said (fun _ h => by cases h) (by kernel_rfl) (fun _ h => by cases h) fibChecks_row_tie rfl ⟨rfl, rfl⟩ (by kernel_rfl) rfl plain (by kernel_rfl)
#print axioms card
end Go.Proofs.YtplppbgkkfjknaaDoor.fibChecks
