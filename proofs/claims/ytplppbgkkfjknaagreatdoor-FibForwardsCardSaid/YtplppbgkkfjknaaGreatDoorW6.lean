/- FibForwards: the law's walk. 'routing/routinglaw52.FibForwards': for every input the call returns true, and the input reads afterwards as it read before. Conditions: the library's tables read as the program's text lays them (the card ties them). The row's step around the walk of the text FLaw6. -/
import Derived.Test.YtplppbgkkfjknaaGreatDoorG35
import Derived.Test.YtplppbgkkfjknaaGreatDoorG23
import Derived.Test.YtplppbgkkfjknaaGreatDoorG28
import Derived.Test.YtplppbgkkfjknaaGreatDoorG24
import Derived.Test.YtplppbgkkfjknaaGreatDoorG32
import Derived.Test.YtplppbgkkfjknaaGreatDoorCards
import Derived.Test.YtplppbgkkfjknaaGreatDoorTie
import Derived.Deep.DeepHandedRow
import Derived.Test.YtplppbgkkfjknaaGreatDoorG26
import Derived.Test.YtplppbgkkfjknaaGreatDoorG25
namespace Go.Proofs.YtplppbgkkfjknaaGreatDoor
open Go.RowKit

set_option linter.unusedVariables false
set_option linter.unusedSimpArgs false
theorem w32_lt {a : Int} (h : W32 a) : 0 ≤ a ∧ a < 4294967296 := by unfold W32 at h; omega
theorem w64_le {a : Int} (h : W64 a) : -9223372036854775808 ≤ a ∧ a ≤ 9223372036854775807 := by unfold W64 at h; omega
theorem sameP_self (i a r wt b : Int) (A A' : Option Addr) (n n' c c' : Nat) (l : List Int) : sameP ⟨i, a, r, wt, A, n, c, l, b⟩ ⟨i, a, r, wt, A', n', c', l, b⟩ = true := by
  unfold sameP
  exact decide_eq_true rfl
theorem addr_lens {es : List Ent} {gs : List GE} {ls : List Int} {p : PD} {ds : List Bool} (hs : ∀ g ∈ gs, ∀ q ∈ g.ps, q.ls.length ≤ 1000) (hp : p.ls.length ≤ 1000) : (addrR es gs ls p ds).1.ls.length ≤ 2000 ∧ (addrR es gs ls p ds).2.1.ls.length ≤ 1000 := by
  have z1 : zeroPD.ls.length ≤ 2000 := by simp [zeroPD]
  have z2 : zeroP.ls.length ≤ 1000 := by simp [zeroP]
  unfold addrR addrOut
  split
  · exact ⟨z1, z2⟩
  · cases ho : lookG es gs p.dst.toNat with
    | none => exact ⟨z1, z2⟩
    | some g =>
      dsimp only
      split
      · exact ⟨z1, z2⟩
      · split
        · exact ⟨z1, z2⟩
        · split
          · exact ⟨z1, z2⟩
          · have hgm := look_mem_g ho
            have h1 : ∀ k : Nat, ((downTo g.act g.n (g.ps.map PV.dat) ds ds.length).getD k zeroP).ls.length ≤ 1000 := by
              intro k
              rcases getD_mem (ds := downTo g.act g.n (g.ps.map PV.dat) ds ds.length) (j := k) with h | h
              · refine downTo_ls (Q := fun l => l.length ≤ 1000) (by simp) (fun d hd => ?_) ds.length _ h
                obtain ⟨q, hq, rfl⟩ := List.mem_map.1 hd
                exact hs g hgm q hq
              · rw [h]; exact z2
            refine ⟨?_, h1 _⟩
            dsimp only
            rw [List.length_append]
            have := h1 (pick g.act g.n (downTo g.act g.n (g.ps.map PV.dat) ds ds.length) (h3 p.src p.dst p.flow)).toNat
            omega
theorem fwdF_lens {es : List Ent} {gs : List GE} {ls : List Int} {bs : List EV} {ns : List NH} {ds : List Bool} (hs : ∀ g ∈ gs, ∀ q ∈ g.ps, q.ls.length ≤ 1000) : ∀ (f : Nat) (p : PD), p.ls.length ≤ 1000 → (fwdF es gs ls bs ns ds f p).1.ls.length ≤ 2000 ∧ (fwdF es gs ls bs ns ds f p).2.1.ls.length ≤ 1000
  | 0, p, h => ⟨by simp [fwdF, zeroPD], by simp [fwdF, zeroP]⟩
  | f + 1, p, h => by
    have z1 : zeroPD.ls.length ≤ 2000 := by simp [zeroPD]
    have z2 : zeroP.ls.length ≤ 1000 := by simp [zeroP]
    rw [fwdF]
    by_cases h0 : p.ls.length = 0
    · rw [if_pos h0]
      exact addr_lens hs h
    rw [if_neg h0]
    by_cases h1 : (fwd bs p).2.2 = 23
    · rw [if_pos h1]
      exact ⟨z1, z2⟩
    rw [if_neg h1]
    by_cases h2 : (fwd bs p).2.2 ≠ 0
    · rw [if_pos h2]
      exact ⟨z1, z2⟩
    rw [if_neg h2]
    have hk := fwd_kept (es := bs) (p := p) (by omega)
    have hl := hk.len
    by_cases h3' : (fwd bs p).2.1 = 0
    · rw [if_pos h3']
      exact fwdF_lens hs f _ (by omega)
    rw [if_neg h3']
    cases hn : nearR (fwd bs p).2.1 ds ns with
    | none => exact ⟨z1, z2⟩
    | some h => exact ⟨by dsimp only; omega, by simp⟩
set_option maxRecDepth 100000 in
set_option maxHeartbeats 16000000 in
theorem fibForwards_main (A dA : Option Addr) (n c dn dc : Nat) (src dst flow ttl : Int) (xs : List Int) (ds : List Bool) (v : Value) (w : World) (hx : FibIn w v) (hp : PkIn2 w A n c ⟨src, dst, flow, ttl, xs⟩) (hd : Bls w w.heap.size dA dn dc ds) (hdn : dn ≤ 140737488355328) (henv : Env w) :
    Calls Tryz.prog 5 #[v, .agg #[.int .u32 src, .int .u32 dst, .int .u32 flow, .int .i64 ttl, .slice A n c], .slice dA dn dc] w fun e w' => e = .returned (.bool true) ∧ Below w.heap.size w w' := by
  obtain ⟨tA, gA, lA, bA, nA, tn, tc, gn, gc, ln, lc, bn, bc, nn, nc, es, gs, ls, bs, ns, rfl, hf⟩ := hx
  obtain ⟨w1, hw1⟩ : ∃ w1, (w.alloc (.cells #[.slice tA tn tc, .slice gA gn gc, .slice lA ln lc, .slice bA bn bc, .slice nA nn nc] 35)).alloc (.cells #[.int .u32 src, .int .u32 dst, .int .u32 flow, .int .i64 ttl, .slice A n c] 54) = w1 := ⟨_, rfl⟩
  have HF1 : Hid (Blk w1 w.heap.size 35 [.slice tA tn tc, .slice gA gn gc, .slice lA ln lc, .slice bA bn bc, .slice nA nn nc]) := by show Blk _ _ _ _; rw [← hw1]; exact (Blk.new w _ _).keep (belowA _ _)
  have HK1 : Hid (Blk w1 (w.heap.size + 1) 54 [.int .u32 src, .int .u32 dst, .int .u32 flow, .int .i64 ttl, .slice A n c]) := by show Blk _ _ _ _; rw [← hw1]; exact Blk.new2 w _ _ _
  have HB1 : Hid (Below w.heap.size w w1) := by show Below _ _ _; rw [← hw1]; exact below3 (belowA _ _) (belowA _ _)
  have HXW : Hid (∀ W, Below w.heap.size w W → FibAt W w.heap.size tA gA lA bA nA tn tc gn gc ln lc bn bc nn nc es gs ls bs ns) := fun W h => hf.below h
  have HPW : Hid (∀ W, Below w.heap.size w W → Ints W w.heap.size .i64 A n c xs) := fun W h => hp.ls.below h
  have HDW : Hid (∀ W, Below w.heap.size w W → Bls W w.heap.size dA dn dc ds) := fun W h => Recs.below hd h
  have HLV : Hid (∀ W, Below w.heap.size w W → Calls Tryz.prog 9 #[] W fun e w' => e = .returned (.bool true) ∧ Below W.heap.size W w') := fun W h => lives52_any W (henv.below h)
  have HWX : Hid (∀ x ∈ xs, -9223372036854775808 ≤ x ∧ x ≤ 9223372036854775807) := fun x hx => w64_le (hp.wide x hx)
  have hsr : 0 ≤ src ∧ src < 4294967296 := w32_lt hp.src
  have hds : 0 ≤ dst ∧ dst < 4294967296 := w32_lt hp.dst
  have hfl : 0 ≤ flow ∧ flow < 4294967296 := w32_lt hp.flow
  have htt : -9223372036854775808 ≤ ttl ∧ ttl ≤ 9223372036854775807 := w64_le hp.ttl
  have HN := Lib.hid (And.intro hsr (And.intro hds (And.intro hfl htt)))
  have HC := Lib.hid (few_any tA gA lA bA nA tn tc gn gc ln lc bn bc nn nc w.heap.size es gs ls bs ns w1 (HXW.out _ HB1.out).g (HXW.out _ HB1.out).b HB1.out.size)
  have f0 := HF1.out.cell 0
  have f1 := HF1.out.cell 1
  have f2 := HF1.out.cell 2
  have f3 := HF1.out.cell 3
  have f4 := HF1.out.cell 4
  simp only [List.getElem?_cons_zero, List.getElem?_cons_succ] at f0 f1 f2 f3 f4
  have hk1 := HK1.out.lt
  have hl1 : w.heap.size < w1.heap.size := by omega
  clear hf henv hp hd hsr hds hfl htt
  go_enter Tryz.func5, Tryz.ntmps5
  go_wp2_with fail
  refine HC.out.mono ?_
  rintro e w2 ⟨b, rfl, hfew, hb2⟩
  have HB2 := Lib.hid (below3 HB1.out hb2)
  have HF2 := Lib.hid (HF1.out.keep hb2)
  have HK2 := Lib.hid (HK1.out.keep hb2)
  clear HC hb2 f0 f1 f2 f3 f4 hw1 hl1 hk1
  cases b with
  | false =>
    clear hfew
    have HL := Lib.hid (HLV.out w2 HB2.out)
    go_wp2_with fail
    refine HL.out.mono ?_
    rintro e wL ⟨rfl, hbL⟩
    have HBL := Lib.hid (below3 HB2.out hbL)
    clear hbL
    go_wp2
    go_ret
    exact ⟨rfl, HBL.out⟩
  | true =>
    have hsm := hfew rfl
    have HSR : Hid (∀ g ∈ gs, g.n ≤ 1000 ∧ Short g.ps) := fun g hg => by
      have h1 := hsm.gs g hg
      refine ⟨by have := h1.1; omega, fun p hp => ?_⟩
      have h2 := h1.2 p hp
      omega
    have HSR2 : Hid (∀ g ∈ gs, g.n ≤ 1000 ∧ ∀ q ∈ g.ps, q.ls.length ≤ 1000) := fun g hg => by
      have h1 := hsm.gs g hg
      refine ⟨by have := h1.1; omega, fun p hp => ?_⟩
      have h2 := h1.2 p hp
      have h3 := ((HXW.out _ HB2.out).g.2 g hg).even p hp
      omega
    have HCK := Lib.hid (refFibCheck_any tA gA lA bA nA tn tc gn gc ln lc bn bc nn nc w.heap.size es gs ls bs ns w2 (HXW.out _ HB2.out) HB2.out.size)
    obtain ⟨E, hE⟩ : ∃ E, fibErr es gs ls bs ns = E := ⟨_, rfl⟩
    rw [hE] at HCK
    have HE := Lib.hid hE
    clear hfew hsm hE
    have f0 := HF2.out.cell 0
    have f1 := HF2.out.cell 1
    have f2 := HF2.out.cell 2
    have f3 := HF2.out.cell 3
    have f4 := HF2.out.cell 4
    simp only [List.getElem?_cons_zero, List.getElem?_cons_succ] at f0 f1 f2 f3 f4
    have k4 := HK2.out.cell 4
    simp only [List.getElem?_cons_zero, List.getElem?_cons_succ] at k4
    have hk2 := HK2.out.lt
    have hl2 : w.heap.size < w2.heap.size := by omega
    go_wp2_with fail
    refine HCK.out.mono ?_
    rintro e w3 ⟨rfl, hb3⟩
    have HB3 := Lib.hid (below3 HB2.out hb3)
    have HF3 := Lib.hid (HF2.out.keep hb3)
    have HK3 := Lib.hid (HK2.out.keep hb3)
    clear hb3 HCK f0 f1 f2 f3 f4 hl2 hk2 k4
    by_cases hE0 : E = 0
    case neg =>
      have d1 : (E != 0) = true := by simp [hE0]
      clear hE0
      have HL := Lib.hid (HLV.out w3 HB3.out)
      go_wp2_with fail
      refine HL.out.mono ?_
      rintro e wL ⟨rfl, hbL⟩
      have HBL := Lib.hid (below3 HB3.out hbL)
      clear hbL
      go_wp2
      go_ret
      exact ⟨rfl, HBL.out⟩
    subst hE0
    have k4 := HK3.out.cell 4
    simp only [List.getElem?_cons_zero, List.getElem?_cons_succ] at k4
    have hk3 := HK3.out.lt
    have hl3 : w.heap.size < w3.heap.size := by omega
    by_cases hn20 : n ≤ 20
    case neg =>
      have d2 : decide ((n : Int) > 20) = true := decide_eq_true (by omega)
      have d2' : decide ((20 : Int) < (n : Int)) = true := decide_eq_true (by omega)
      have HL := Lib.hid (HLV.out w3 HB3.out)
      go_wp2_with fail
      refine HL.out.mono ?_
      rintro e wL ⟨rfl, hbL⟩
      have HBL := Lib.hid (below3 HB3.out hbL)
      clear hbL
      go_wp2
      go_ret
      exact ⟨rfl, HBL.out⟩
    have d2 : decide ((n : Int) > 20) = false := decide_eq_false (by omega)
    have d2' : decide ((20 : Int) < (n : Int)) = false := decide_eq_false (by omega)
    by_cases hd30 : dn ≤ 30
    case neg =>
      have d3 : decide ((dn : Int) > 30) = true := decide_eq_true (by omega)
      have d3' : decide ((30 : Int) < (dn : Int)) = true := decide_eq_true (by omega)
      have HL := Lib.hid (HLV.out w3 HB3.out)
      go_wp2_with fail
      refine HL.out.mono ?_
      rintro e wL ⟨rfl, hbL⟩
      have HBL := Lib.hid (below3 HB3.out hbL)
      clear hbL
      go_wp2
      go_ret
      exact ⟨rfl, HBL.out⟩
    have d3 : decide ((dn : Int) > 30) = false := decide_eq_false (by omega)
    have d3' : decide ((30 : Int) < (dn : Int)) = false := decide_eq_false (by omega)
    have hgg : GoodGs gs := goodGs_of HE.out fun g hg => ⟨((HXW.out _ HB3.out).g.2 g hg).even, ((HXW.out _ HB3.out).g.2 g hg).1.2⟩
    have HZR := Lib.hid (rows_of_fib HE.out)
    obtain ⟨hn1, hn2, hn3, hn4⟩ := HN.out
    have hxl : xs.length = n := (HPW.out _ HB3.out).len
    have HFC := Lib.hid (forward_fib_any tA gA lA bA nA tn tc gn gc ln lc bn bc nn nc dA A dn dc n c w.heap.size es gs ls bs ns ⟨src, dst, flow, ttl, xs⟩ ds w3 (HXW.out _ HB3.out) (HDW.out _ HB3.out) (HPW.out _ HB3.out) HB3.out.size hdn HSR2.out (by omega) HWX.out hn1 hn2 hn3 hn4)
    have HRF : Hid (∀ W, Below w.heap.size w W → Calls Tryz.prog 19 #[.agg #[.slice tA tn tc, .slice gA gn gc, .slice lA ln lc, .slice bA bn bc, .slice nA nn nc], .agg #[.int .u32 src, .int .u32 dst, .int .u32 flow, .int .i64 ttl, .slice A n c], .slice dA dn dc] W (GivesOutB w.heap.size (forwardR es gs ls bs ns ds ⟨src, dst, flow, ttl, xs⟩) W)) := fun W h => refForward52_any tA gA lA bA nA tn tc gn gc ln lc bn bc nn nc dA A dn dc n c w.heap.size es gs ls bs ns ⟨src, dst, flow, ttl, xs⟩ ds W (HXW.out _ h) (HDW.out _ h) (HPW.out _ h) h.size hdn HSR2.out (by omega) HZR.out hgg HWX.out hn1 hn2 hn3 hn4
    have HLN : Hid ((forwardR es gs ls bs ns ds ⟨src, dst, flow, ttl, xs⟩).1.ls.length ≤ 2000 ∧ (forwardR es gs ls bs ns ds ⟨src, dst, flow, ttl, xs⟩).2.1.ls.length ≤ 1000) := fwdF_lens (fun g hg => (HSR2.out g hg).2) _ _ (by show xs.length ≤ 1000; omega)
    obtain ⟨R, hR⟩ : ∃ R, forwardR es gs ls bs ns ds ⟨src, dst, flow, ttl, xs⟩ = R := ⟨_, rfl⟩
    rw [hR] at HFC HRF HLN
    clear hR hgg hn1 hn2 hn3 hn4
    obtain ⟨⟨r0, r1, r2, r3, rls⟩, ⟨pi, pa, pr, pw, pA0, pn0, pc0, pls, pb⟩, en⟩ := R
    have HFC1 : Hid (Calls Tryz.prog 18 #[.agg #[.slice tA tn tc, .slice gA gn gc, .slice lA ln lc, .slice bA bn bc, .slice nA nn nc], .agg #[.int .u32 src, .int .u32 dst, .int .u32 flow, .int .i64 ttl, .slice A n c], .slice dA dn dc] w3 fun e w' => ∃ A6 n6 c6 A7 n7 c7, e = .returned (.tuple #[.agg #[.int .u32 r0, .int .u32 r1, .int .u32 r2, .int .i64 r3, .slice A6 n6 c6], .agg #[.int .i64 pi, .int .u32 pa, .int .u32 pr, .int .i64 pw, .slice A7 n7 c7, .int .i64 pb], .int .i64 en]) ∧ Ints w' w'.heap.size .i64 A6 n6 c6 rls ∧ Ints w' w'.heap.size .i64 A7 n7 c7 pls ∧ (∀ ad, A6 = some ad → w3.heap.size ≤ ad.block) ∧ (∀ ad, A7 = some ad → w3.heap.size ≤ ad.block) ∧ Below w3.heap.size w3 w') := HFC
    have HRF1 : Hid (∀ W, Below w.heap.size w W → Calls Tryz.prog 19 #[.agg #[.slice tA tn tc, .slice gA gn gc, .slice lA ln lc, .slice bA bn bc, .slice nA nn nc], .agg #[.int .u32 src, .int .u32 dst, .int .u32 flow, .int .i64 ttl, .slice A n c], .slice dA dn dc] W fun e w' => ∃ A8 n8 c8 A9 n9 c9, e = .returned (.tuple #[.agg #[.int .u32 r0, .int .u32 r1, .int .u32 r2, .int .i64 r3, .slice A8 n8 c8], .agg #[.int .i64 pi, .int .u32 pa, .int .u32 pr, .int .i64 pw, .slice A9 n9 c9, .int .i64 pb], .int .i64 en]) ∧ Ints w' w'.heap.size .i64 A8 n8 c8 rls ∧ Ints w' w'.heap.size .i64 A9 n9 c9 pls ∧ (0 < n8 → ∀ ad, A8 = some ad → W.heap.size ≤ ad.block) ∧ (0 < n9 → ∀ ad, A9 = some ad → ad.block < w.heap.size ∨ W.heap.size ≤ ad.block) ∧ Below W.heap.size W w') := HRF
    have HLN1 : Hid (rls.length ≤ 2000 ∧ pls.length ≤ 1000) := HLN
    clear HFC HRF HLN
    have f0 := HF3.out.cell 0
    have f1 := HF3.out.cell 1
    have f2 := HF3.out.cell 2
    have f3 := HF3.out.cell 3
    have f4 := HF3.out.cell 4
    simp only [List.getElem?_cons_zero, List.getElem?_cons_succ] at f0 f1 f2 f3 f4
    have k0 := HK3.out.cell 0
    have k1 := HK3.out.cell 1
    have k2 := HK3.out.cell 2
    have k3 := HK3.out.cell 3
    simp only [List.getElem?_cons_zero, List.getElem?_cons_succ] at k0 k1 k2 k3
    go_wp2_with fail
    refine HFC1.out.mono ?_
    rintro e w5 ⟨A6, n6, c6, A7, n7, c7, rfl, hi6, hi7, _, _, hb5⟩
    have HB5 := Lib.hid (below3 HB3.out hb5)
    have HF5 := Lib.hid (HF3.out.keep hb5)
    have HK5 := Lib.hid (HK3.out.keep hb5)
    clear hb5 HFC1 f0 f1 f2 f3 f4 k0 k1 k2 k3 k4 hl3 hk3 d2 d2' d3 d3'
    obtain ⟨HYE1, HYE2, HYK1, HYK2, HYBV⟩ := two_boxes w5 [.int .u32 r0, .int .u32 r1, .int .u32 r2, .int .i64 r3, .slice A6 n6 c6] [.int .i64 pi, .int .u32 pa, .int .u32 pr, .int .i64 pw, .slice A7 n7 c7, .int .i64 pb]
    obtain ⟨V, hV⟩ : ∃ V, (((w5.alloc (.cells #[.int .u32 0, .int .u32 0, .int .u32 0, .int .i64 0, .slice none 0 0] 54)).alloc (.cells #[.int .i64 0, .int .u32 0, .int .u32 0, .int .i64 0, .slice none 0 0, .int .i64 0] 57)).setRow w5.heap.size #[.int .u32 r0, .int .u32 r1, .int .u32 r2, .int .i64 r3, .slice A6 n6 c6]).setRow (w5.heap.size + 1) #[.int .i64 pi, .int .u32 pa, .int .u32 pr, .int .i64 pw, .slice A7 n7 c7, .int .i64 pb] = V := ⟨_, rfl⟩
    rw [hV] at HYK1 HYK2 HYBV
    have HB6 := Lib.hid (below3 HB5.out HYBV.out)
    have HF6 := Lib.hid (HF5.out.keep HYBV.out)
    have HK6 := Lib.hid (HK5.out.keep HYBV.out)
    have HI6 : Hid (Ints V V.heap.size .i64 A6 n6 c6 rls) := (hi6.below HYBV.out).more HYBV.out.size
    have HI7 : Hid (Ints V V.heap.size .i64 A7 n7 c7 pls) := (hi7.below HYBV.out).more HYBV.out.size
    have HRC := Lib.hid (HRF1.out V HB6.out)
    have f0 := HF6.out.cell 0
    have f1 := HF6.out.cell 1
    have f2 := HF6.out.cell 2
    have f3 := HF6.out.cell 3
    have f4 := HF6.out.cell 4
    simp only [List.getElem?_cons_zero, List.getElem?_cons_succ] at f0 f1 f2 f3 f4
    have k0 := HK6.out.cell 0
    have k1 := HK6.out.cell 1
    have k2 := HK6.out.cell 2
    have k3 := HK6.out.cell 3
    have k4 := HK6.out.cell 4
    simp only [List.getElem?_cons_zero, List.getElem?_cons_succ] at k0 k1 k2 k3 k4
    have hkl := HK6.out.lt
    have hfl := HF6.out.lt
    clear hi6 hi7 HRF1
    go_wp2_with (first | (refine wpList_store_blk (cs := [.int .u32 r0, .int .u32 r1, .int .u32 r2, .int .i64 r3, .slice A6 n6 c6]) rfl 54 _ _ rfl w5.heap.size rfl rfl HYE1.out (by kernel_rfl) rfl (by kernel_rfl) ?_) | (refine wpList_store_blk (cs := [.int .i64 pi, .int .u32 pa, .int .u32 pr, .int .i64 pw, .slice A7 n7 c7, .int .i64 pb]) rfl 57 _ _ rfl (w5.heap.size + 1) rfl rfl HYE2.out (by kernel_rfl) rfl (by kernel_rfl) ?_))
    try rw [hV]
    refine HRC.out.mono ?_
    rintro e w7 ⟨A8, n8, c8, A9, n9, c9, rfl, hi8, hi9, _, _, hb7⟩
    have HB7 := Lib.hid (below3 HB6.out hb7)
    have HY17 := Lib.hid (HYK1.out.keep hb7)
    have HY27 := Lib.hid (HYK2.out.keep hb7)
    have HI67 : Hid (Ints w7 w7.heap.size .i64 A6 n6 c6 rls) := (HI6.out.below hb7).more hb7.size
    have HI77 : Hid (Ints w7 w7.heap.size .i64 A7 n7 c7 pls) := (HI7.out.below hb7).more hb7.size
    clear hb7 HRC f0 f1 f2 f3 f4 k0 k1 k2 k3 k4 hkl hfl HYE1 HYE2 HYK1 HYK2 HYBV hV HI6 HI7
    obtain ⟨HZE1, HZE2, HZK1, HZK2, HZBV⟩ := two_boxes w7 [.int .u32 r0, .int .u32 r1, .int .u32 r2, .int .i64 r3, .slice A8 n8 c8] [.int .i64 pi, .int .u32 pa, .int .u32 pr, .int .i64 pw, .slice A9 n9 c9, .int .i64 pb]
    obtain ⟨V2, hV2⟩ : ∃ V2, (((w7.alloc (.cells #[.int .u32 0, .int .u32 0, .int .u32 0, .int .i64 0, .slice none 0 0] 54)).alloc (.cells #[.int .i64 0, .int .u32 0, .int .u32 0, .int .i64 0, .slice none 0 0, .int .i64 0] 57)).setRow w7.heap.size #[.int .u32 r0, .int .u32 r1, .int .u32 r2, .int .i64 r3, .slice A8 n8 c8]).setRow (w7.heap.size + 1) #[.int .i64 pi, .int .u32 pa, .int .u32 pr, .int .i64 pw, .slice A9 n9 c9, .int .i64 pb] = V2 := ⟨_, rfl⟩
    rw [hV2] at HZK1 HZK2 HZBV
    have HB8 := Lib.hid (below3 HB7.out HZBV.out)
    have HY18 := Lib.hid (HY17.out.keep HZBV.out)
    have HY28 := Lib.hid (HY27.out.keep HZBV.out)
    have hZs := HZBV.out.size
    have i6 := (HI67.out.below HZBV.out).more hZs
    have i7 := (HI77.out.below HZBV.out).more hZs
    have i8 := (hi8.below HZBV.out).more hZs
    have i9 := (hi9.below HZBV.out).more hZs
    have HSK := Lib.hid (samePacket52_any ⟨r0, r1, r2, r3, rls⟩ A6 A8 n6 c6 n8 c8 V2.heap.size V2 i6 i8 (Nat.le_refl _) (by have := HLN1.out.1; show rls.length ≤ _; omega))
    dsimp only at HSK
    have HSP : Hid (∀ W, Below V2.heap.size V2 W → Calls Tryz.prog 21 #[.agg #[.int .i64 pi, .int .u32 pa, .int .u32 pr, .int .i64 pw, .slice A7 n7 c7, .int .i64 pb], .agg #[.int .i64 pi, .int .u32 pa, .int .u32 pr, .int .i64 pw, .slice A9 n9 c9, .int .i64 pb]] W fun e w' => e = .returned (.bool true) ∧ Below W.heap.size W w') := by
      intro W hW
      have hl7 := i7.len
      have hl9 := i9.len
      have h := samePath52_any ⟨pi, pa, pr, pw, A7, n7, c7, pls, pb⟩ ⟨pi, pa, pr, pw, A9, n9, c9, pls, pb⟩ V2.heap.size W (i7.below hW) (i9.below hW) hW.size (by have := HLN1.out.2; show n7 ≤ _; omega) (by have := HLN1.out.2; show n9 ≤ _; omega)
      rw [sameP_self] at h
      exact h
    have dn : (en == en) = true := by simp
    have ya0 := HY18.out.cell 0
    have ya1 := HY18.out.cell 1
    have ya2 := HY18.out.cell 2
    have ya3 := HY18.out.cell 3
    have ya4 := HY18.out.cell 4
    simp only [List.getElem?_cons_zero, List.getElem?_cons_succ] at ya0 ya1 ya2 ya3 ya4
    have hlya := HY18.out.lt
    have za0 := HZK1.out.cell 0
    have za1 := HZK1.out.cell 1
    have za2 := HZK1.out.cell 2
    have za3 := HZK1.out.cell 3
    have za4 := HZK1.out.cell 4
    simp only [List.getElem?_cons_zero, List.getElem?_cons_succ] at za0 za1 za2 za3 za4
    have hlza := HZK1.out.lt
    clear i6 i7 i8 i9 hi8 hi9
    go_wp2_with (first | (refine wpList_store_blk (cs := [.int .u32 r0, .int .u32 r1, .int .u32 r2, .int .i64 r3, .slice A8 n8 c8]) rfl 54 _ _ rfl w7.heap.size rfl rfl HZE1.out (by kernel_rfl) rfl (by kernel_rfl) ?_) | (refine wpList_store_blk (cs := [.int .i64 pi, .int .u32 pa, .int .u32 pr, .int .i64 pw, .slice A9 n9 c9, .int .i64 pb]) rfl 57 _ _ rfl (w7.heap.size + 1) rfl rfl HZE2.out (by kernel_rfl) rfl (by kernel_rfl) ?_))
    try rw [hV2]
    refine HSK.out.mono ?_
    rintro e w9 ⟨rfl, hb9⟩
    have HB9 := Lib.hid (below3 HB8.out hb9)
    have HP9 := Lib.hid (HSP.out w9 hb9)
    have HY29 := Lib.hid (HY28.out.keep hb9)
    have HZ29 := Lib.hid (HZK2.out.keep hb9)
    clear hb9 HSK HSP ya0 za0 ya1 za1 ya2 za2 ya3 za3 ya4 za4 hlya hlza hV2 HZE1 HZE2
    have yb0 := HY29.out.cell 0
    have yb1 := HY29.out.cell 1
    have yb2 := HY29.out.cell 2
    have yb3 := HY29.out.cell 3
    have yb4 := HY29.out.cell 4
    have yb5 := HY29.out.cell 5
    simp only [List.getElem?_cons_zero, List.getElem?_cons_succ] at yb0 yb1 yb2 yb3 yb4 yb5
    have hlyb := HY29.out.lt
    have zb0 := HZ29.out.cell 0
    have zb1 := HZ29.out.cell 1
    have zb2 := HZ29.out.cell 2
    have zb3 := HZ29.out.cell 3
    have zb4 := HZ29.out.cell 4
    have zb5 := HZ29.out.cell 5
    simp only [List.getElem?_cons_zero, List.getElem?_cons_succ] at zb0 zb1 zb2 zb3 zb4 zb5
    have hlzb := HZ29.out.lt
    go_wp2_with fail
    refine HP9.out.mono ?_
    rintro e w10 ⟨rfl, hb10⟩
    have HB10 := Lib.hid (below3 HB9.out hb10)
    clear hb10 HP9
    have HL := Lib.hid (HLV.out w10 HB10.out)
    go_wp2_with fail
    refine HL.out.mono ?_
    rintro e wL ⟨rfl, hbL⟩
    have HBL := Lib.hid (below3 HB10.out hbL)
    clear hbL
    go_wp2
    go_ret
    exact ⟨rfl, HBL.out⟩
theorem fibForwards_walk (v0 v1 v2 : Value) (w : World) (hx : FibIn w v0) (hp : PacketIn2 w v1) (hd : FlagsIn w v2) (henv : Env w) :
    Calls Tryz.prog 5 #[v0, v1, v2] w fun e w' => e = .returned (.bool true) ∧ Below w.heap.size w w' := by
  obtain ⟨A, n, c, ⟨src, dst, flow, ttl, xs⟩, rfl, hp⟩ := hp
  obtain ⟨dA, dn, dc, ds, rfl, hd, hdn⟩ := hd
  exact fibForwards_main A dA n c dn dc src dst flow ttl xs ds v0 w hx hp hd hdn henv
end Go.Proofs.YtplppbgkkfjknaaGreatDoor
namespace Go.Proofs.YtplppbgkkfjknaaGreatDoor.fibForwards
open Go.ChangeShapes Go.WideShapes Go.ChangeAt Go.RowKit
open Go.ChangeMaps (open_string shut_string)
set_option linter.unusedVariables false

theorem reads (os : Os) {H : Type} (enc : TypeId × Value → H) : ∃ places, DataW.whole enc Tryz.prog ((laidWorld os).forCall (fun _ _ => 0) ⟨#[], #[.agg #[.slice none 0 0, .slice none 0 0, .slice none 0 0, .slice none 0 0, .slice none 0 0], .agg #[.int .u32 0, .int .u32 0, .int .u32 0, .int .i64 0, .slice none 0 0], .slice none 0 0], []⟩).memory Tryz.f5.params.toList Rows.fibForwardsSpec.vars false (#[.agg #[.slice none 0 0, .slice none 0 0, .slice none 0 0, .slice none 0 0, .slice none 0 0], .agg #[.int .u32 0, .int .u32 0, .int .u32 0, .int .i64 0, .slice none 0 0], .slice none 0 0] : Array Value).toList 8 = some ([.agg [.nil, .nil, .nil, .nil, .nil], .agg [.lit (.int .u32 0), .lit (.int .u32 0), .lit (.int .u32 0), .lit (.int .i64 0), .nil], .nil], [], places) :=
  ⟨[], by kernel_rfl⟩
set_option maxRecDepth 100000 in
theorem lifted (os : Os) (started : os.Started) (H : Type) (enc : TypeId × Value → H) (F : Stop.Interp) :
    ReturnsInHanded {} Tryz.checked os 5 .any ((OpenSpec.ofChange Rows.fibForwardsSpec).preRow enc Tryz.prog Tryz.f5 Rows.fibForwardsRow.domain false Rows.fibForwardsRow.laid) (((OpenSpec.ofChange Rows.fibForwardsSpec).at F).post enc Tryz.prog Tryz.f5 false true false false) := by
  obtain ⟨places, hx⟩ := reads os enc
  refine returnsInHanded_of_row (C := Tryz.checked) (s := (OpenSpec.ofChange Rows.fibForwardsSpec)) own started (by kernel_rfl) Tryz.func5
    (witness_row_at (enc := enc) (C := Tryz.checked) false (laidWorld os) #[.agg #[.slice none 0 0, .slice none 0 0, .slice none 0 0, .slice none 0 0, .slice none 0 0], .agg #[.int .u32 0, .int .u32 0, .int .u32 0, .int .i64 0, .slice none 0 0], .slice none 0 0] rfl (by kernel_rfl) (by kernel_rfl) (by kernel_rfl)
      (OpenSpec.preRow_of_cond 8 hx (by kernel_rfl) (fun k hk => by cases hk) (by kernel_rfl) (laid_met os _))) ?_
  intro W base args ds gs before hval0 hW hcnd hcond hsz0 hL0 hsh _
  have hval : ∀ (j : Nat) t v, Tryz.f5.params[j]? = some t → args[j]? = some v → Value.okWide Tryz.prog W .any base t v := hval0
  have hsz : (DataW.weightsEach Tryz.prog (Tryz.f5.params.toList ++ Rows.fibForwardsSpec.plain.varTypes Tryz.prog) (ds ++ gs)).all (· ≤ reachBytes) = true := hsz0
  have henv : Env W := env_of hL0 hsh
  have hW' := hW
  obtain ⟨p, q, hA0, hV, rfl, hfz, hnd⟩ := hW
  have hA : DataW.TrodAll enc Tryz.prog W 0 (fun _ => true) true Tryz.f5.params.toList args.toList ds p := hA0
  rw [Tryz.params5] at hA hval hsz
  obtain ⟨v0, vs0, d0, ds0, p0, q0, hargs, rfl, rfl, h0, rR0⟩ := trodAll_cons hA
  obtain ⟨v1, vs1, d1, ds1, p1, q1, rfl, rfl, rfl, h1, rR1⟩ := trodAll_cons rR0
  obtain ⟨v2, vs2, d2, ds2, p2, q2, rfl, rfl, rfl, h2, rR2⟩ := trodAll_cons rR1
  obtain ⟨rfl, rfl, rfl⟩ := trodAll_nil rR2
  obtain rfl : args = #[v0, v1, v2] := by cases args; simp_all
  obtain ⟨rfl, rfl⟩ := trodVars_none hV
  have k0 := h0
  have lt0 : ∀ x ∈ p0, x.block < W.heap.size := by obtain ⟨m, hm⟩ := k0; exact DataW.trod_lt m _ _ _ hm
  have X0 := open_fib (hval 0 35 v0 rfl rfl) (Arg.of h0 hsz (j := 0) rfl rfl)
  have k1 := h1
  have lt1 : ∀ x ∈ p1, x.block < W.heap.size := by obtain ⟨m, hm⟩ := k1; exact DataW.trod_lt m _ _ _ hm
  have X1 := open_packet2 (hval 1 54 v1 rfl rfl) (Arg.of h1 hsz (j := 1) rfl rfl)
  have k2 := h2
  have lt2 : ∀ x ∈ p2, x.block < W.heap.size := by obtain ⟨m, hm⟩ := k2; exact DataW.trod_lt m _ _ _ hm
  have X2 := open_flags (hval 2 55 v2 rfl rfl) (Arg.of h2 hsz (j := 2) rfl rfl)
  clear hA0 hval0 hsz0
  refine (fibForwards_walk v0 v1 v2 W X0 X1 X2  henv).mono fun e W' ⟨he, bel⟩ => ?_
  subst he
  exact ⟨_, rfl, _, _, _, [], _, [], hW', trodAll_mk1 (shut_bool Tryz.underlying4 _), (trodAll_cons_mk (Below.trod laidOut (by kernel_rfl) (of_decide_eq_true (by kernel_rfl)) k0 bel lt0) (trodAll_cons_mk (Below.trod laidOut (by kernel_rfl) (of_decide_eq_true (by kernel_rfl)) k1 bel lt1) (trodAll_cons_mk (Below.trod laidOut (by kernel_rfl) (of_decide_eq_true (by kernel_rfl)) k2 bel lt2) trodAll_mk0))), rfl, bel.frame _, fun h => by cases h⟩

theorem said : Rows.FibForwardsSaid :=
  OpenClaim.holds_of_cond 5 Tryz.f5 rfl rfl rfl rfl rfl rfl rfl ⟨rfl, rfl, rfl, rfl, rfl⟩ rfl rfl rfl rfl rfl (by kernel_rfl) Tryz.func5 (by kernel_rfl)
    (of_decide_eq_true (by kernel_rfl)) (by unfold Func.isWrapper; first | (rw [if_pos (by decide +kernel)]; kernel_rfl) | (rw [if_neg (by decide +kernel)]; exact ⟨rfl, rfl⟩))
    (fun os started H enc _ F => by rw [OpenClaim.pre_eq_preRow]; exact lifted os started H enc F)
theorem plain (f : FuncId) (fn : Func) (hf : Tryz.pinned.checked.prog.funcNamed "routing/routinglaw52.FibForwards" = some f) (hfn : Tryz.pinned.checked.prog.funcs[f]? = some fn) :
    false = Tryz.pinned.checked.prog.looks [] ∧ ∀ (j : Nat) t, fn.params[j]? = some t → Tryz.pinned.checked.prog.wantsStandIn t = false := by
  obtain rfl : f = 5 := Option.some.inj ((show Tryz.prog.funcNamed "routing/routinglaw52.FibForwards" = some 5 by kernel_rfl).symm.trans hf) |>.symm
  obtain rfl : fn = Tryz.f5 := (Option.some.inj (Tryz.func5.symm.trans hfn)).symm
  refine ⟨by kernel_rfl, fun j t ht => ?_⟩
  rw [Tryz.params5] at ht
  have hm : t ∈ [35, 54, 55] := by simpa using Array.mem_of_getElem? ht
  have hall : ([35, 54, 55].all fun u => !Tryz.prog.wantsStandIn u) = true := by kernel_rfl
  exact (show Tryz.prog.wantsStandIn t = false by simpa using List.all_eq_true.1 hall t hm)
theorem card : Rows.FibForwardsCardSaid :=
  Claim7.holds_tied_plain_at .later [] _ _ _ _ said (fun _ h => by cases h) (by kernel_rfl) (fun _ h => by cases h) fibForwards_row_tie rfl ⟨rfl, rfl⟩ (by kernel_rfl) rfl plain (by kernel_rfl)
#print axioms card
end Go.Proofs.YtplppbgkkfjknaaGreatDoor.fibForwards
