/- The law AdvertiseMay: the walk. -/
import Derived.Test.YtojgohgeagbkbaaLrg
import Derived.Test.YtojgohgeagbkbaaRMay
import Derived.Test.YtojgohgeagbkbaaAwk
import Derived.Test.YtojgohgeagbkbaaOpr
import Derived.Deep.DeepCutAuto
namespace Go.Proofs.Ytojgohgeagbkbaa
open Go.RowKit

set_option linter.unusedVariables false
set_option linter.unusedSimpArgs false
set_option maxRecDepth 100000 in
set_option maxHeartbeats 8000000 in
theorem mayLaw (asn cfd rtr clt : Int) (QA na g0 g1 g2 g3 : Option Addr) (qn qc nn nc m0 c0 m1 c1 m2 c2 m3 c3 : Nat) (d0 d1 d2 d3 mul : Int) (rpa rpl : Int) (og hop med pref aas aad ori : Int) (hm hp atm ha ho : Bool) (pA cA kA uA : Option Addr) (pn pc cn cc kn kc un uc : Nat) (p us : Path) (cm cl : List Int) (rpeer rkind rrtr : Int) (stale : Bool) (ti : Int) (ps : List PeerV) (w : World) (hQ : Peers w w.heap.size QA qn qc ps) (hL : Lists w w.heap.size pA cA kA uA pn pc cn cc kn kc un uc p cm cl us) (hs : (flat p).length ≤ 1048576) (hus : (flat us).length ≤ 1048576) :
    Calls Try.prog 4 #[.agg #[.int .i64 asn, .int .i64 cfd, .int .u32 rtr, .int .u32 clt, .slice QA qn qc, .slice na nn nc, .slice g0 m0 c0, .slice g1 m1 c1, .slice g2 m2 c2, .slice g3 m3 c3, .int .i64 d0, .int .i64 d1, .int .i64 d2, .int .i64 d3, .int .i64 mul], .agg #[.int .u32 rpa, .int .i64 rpl, .int .i64 og, .slice pA pn pc, .int .u32 hop, .bool hm, .int .i64 med, .bool hp, .int .i64 pref, .bool atm, .bool ha, .int .i64 aas, .int .u32 aad, .slice cA cn cc, .bool ho, .int .u32 ori, .slice kA kn kc, .slice uA un uc, .int .i64 rpeer, .int .i64 rkind, .int .u32 rrtr, .bool stale], .int .i64 ti] w fun e w' => e = .returned (.bool true) ∧ Below w.heap.size w w' := by
  have HQ := Lib.hid hQ
  have HL := Lib.hid hL
  obtain ⟨w1, hw1⟩ : ∃ w1, (w.alloc (.cells #[.int .i64 asn, .int .i64 cfd, .int .u32 rtr, .int .u32 clt, .slice QA qn qc, .slice na nn nc, .slice g0 m0 c0, .slice g1 m1 c1, .slice g2 m2 c2, .slice g3 m3 c3, .int .i64 d0, .int .i64 d1, .int .i64 d2, .int .i64 d3, .int .i64 mul] 34)).alloc (.cells #[.int .u32 rpa, .int .i64 rpl, .int .i64 og, .slice pA pn pc, .int .u32 hop, .bool hm, .int .i64 med, .bool hp, .int .i64 pref, .bool atm, .bool ha, .int .i64 aas, .int .u32 aad, .slice cA cn cc, .bool ho, .int .u32 ori, .slice kA kn kc, .slice uA un uc, .int .i64 rpeer, .int .i64 rkind, .int .u32 rrtr, .bool stale] 49) = w1 := ⟨_, rfl⟩
  have hbC : Blk w1 w.heap.size 34 [.int .i64 asn, .int .i64 cfd, .int .u32 rtr, .int .u32 clt, .slice QA qn qc, .slice na nn nc, .slice g0 m0 c0, .slice g1 m1 c1, .slice g2 m2 c2, .slice g3 m3 c3, .int .i64 d0, .int .i64 d1, .int .i64 d2, .int .i64 d3, .int .i64 mul] := by rw [← hw1]; exact (Blk.new w _ _).keep (belowA _ _)
  have hbA : Blk w1 (w.heap.size + 1) 49 [.int .u32 rpa, .int .i64 rpl, .int .i64 og, .slice pA pn pc, .int .u32 hop, .bool hm, .int .i64 med, .bool hp, .int .i64 pref, .bool atm, .bool ha, .int .i64 aas, .int .u32 aad, .slice cA cn cc, .bool ho, .int .u32 ori, .slice kA kn kc, .slice uA un uc, .int .i64 rpeer, .int .i64 rkind, .int .u32 rrtr, .bool stale] := by rw [← hw1]; exact Blk.new2 w _ _ _
  have hb1 : Below w.heap.size w w1 := by rw [← hw1]; exact below3 (belowA _ _) (belowA _ _)
  have HB1 := Lib.hid hb1
  have HKC := Lib.hid hbC
  have HKA := Lib.hid hbA
  have HC := Lib.hid (large36_any og hop med pref aas aad ori hm hp atm ha ho pA cA kA uA pn pc cn cc kn kc un uc p us cm cl w1 (HL.out.grow hb1 (Nat.le_refl _)) hs hus)
  have hlt1 : w.heap.size + 1 < w1.heap.size := hbA.lt
  have r0 := HKA.out.cell 0
  have r1 := HKA.out.cell 1
  have r2 := HKA.out.cell 2
  have r3 := HKA.out.cell 3
  have r4 := HKA.out.cell 4
  have r5 := HKA.out.cell 5
  have r6 := HKA.out.cell 6
  have r7 := HKA.out.cell 7
  have r8 := HKA.out.cell 8
  have r9 := HKA.out.cell 9
  have r10 := HKA.out.cell 10
  have r11 := HKA.out.cell 11
  have r12 := HKA.out.cell 12
  have r13 := HKA.out.cell 13
  have r14 := HKA.out.cell 14
  have r15 := HKA.out.cell 15
  have r16 := HKA.out.cell 16
  have r17 := HKA.out.cell 17
  have r18 := HKA.out.cell 18
  have r19 := HKA.out.cell 19
  have r20 := HKA.out.cell 20
  have r21 := HKA.out.cell 21
  simp only [List.getElem?_cons_zero, List.getElem?_cons_succ] at r0 r1 r2 r3 r4 r5 r6 r7 r8 r9 r10 r11 r12 r13 r14 r15 r16 r17 r18 r19 r20 r21
  clear hQ hL hbC hbA hb1
  go_enter Try.func4, Try.ntmps4
  go_wp2_with fail
  refine HC.out.mono ?_
  rintro e w2 ⟨rfl, hb⟩
  clear HC hw1 hlt1 r0 r1 r2 r3 r4 r5 r6 r7 r8 r9 r10 r11 r12 r13 r14 r15 r16 r17 r18 r19 r20 r21
  have HKC2 := Lib.hid (HKC.out.keep hb)
  have HKA2 := Lib.hid (HKA.out.keep hb)
  have HB2 := Lib.hid (HB1.out.trans (hb.mono HB1.out.size))
  clear hb HKC HKA HB1
  by_cases hl : 3000 < sizeR p cm cl us
  case pos =>
    rw [decide_eq_true hl]
    clear hl
    go_wp2_with fail
    refine (awake41_any w2).mono ?_
    rintro e w3 ⟨rfl, hb⟩
    have HB3 := Lib.hid (below3 HB2.out hb)
    clear hb
    go_wp2
    go_ret
    exact ⟨rfl, HB3.out⟩
  rw [decide_eq_false hl]
  clear hl
  have hlt : w.heap.size < w2.heap.size := HKC2.out.lt
  have c4 := HKC2.out.cell 4
  simp only [List.getElem?_cons_zero, List.getElem?_cons_succ] at c4
  by_cases h60 : 60 < qn
  case pos =>
    have d60 : decide ((qn : Int) > 60) = true := by simp; omega
    go_wp2_with fail
    refine (awake41_any w2).mono ?_
    rintro e w3 ⟨rfl, hb⟩
    have HB3 := Lib.hid (below3 HB2.out hb)
    clear hb
    go_wp2
    go_ret
    exact ⟨rfl, HB3.out⟩
  have d60 : decide ((qn : Int) > 60) = false := by simp; omega
  obtain ⟨z, hz⟩ : ∃ z, mayR ti ps rpeer rkind cm = z := ⟨_, rfl⟩
  have H1 : Hid (∀ W, Below w2.heap.size w2 W → Calls Try.prog 14 #[.agg #[.int .i64 asn, .int .i64 cfd, .int .u32 rtr, .int .u32 clt, .slice QA qn qc, .slice na nn nc, .slice g0 m0 c0, .slice g1 m1 c1, .slice g2 m2 c2, .slice g3 m3 c3, .int .i64 d0, .int .i64 d1, .int .i64 d2, .int .i64 d3, .int .i64 mul], .agg #[.int .u32 rpa, .int .i64 rpl, .int .i64 og, .slice pA pn pc, .int .u32 hop, .bool hm, .int .i64 med, .bool hp, .int .i64 pref, .bool atm, .bool ha, .int .i64 aas, .int .u32 aad, .slice cA cn cc, .bool ho, .int .u32 ori, .slice kA kn kc, .slice uA un uc, .int .i64 rpeer, .int .i64 rkind, .int .u32 rrtr, .bool stale], .int .i64 ti] W fun e w' => e = .returned (.bool z) ∧ Below W.heap.size W w') := by
    intro W hW
    have hbw := HB2.out.trans (hW.mono HB2.out.size)
    have := may_any asn cfd rtr clt QA na g0 g1 g2 g3 qn qc nn nc m0 c0 m1 c1 m2 c2 m3 c3 d0 d1 d2 d3 mul rpa rpl og hop med pref aas aad ori hm hp atm ha ho pA cA kA uA pn pc cn cc kn kc un uc p us cm cl rpeer rkind rrtr stale ti ps W ((HQ.out.below hbw).more hbw.size) (HL.out.grow hbw (Nat.le_refl _))
    rw [hz] at this
    exact this
  have H2 : Hid (∀ W, Below w2.heap.size w2 W → Calls Try.prog 15 #[.agg #[.int .i64 asn, .int .i64 cfd, .int .u32 rtr, .int .u32 clt, .slice QA qn qc, .slice na nn nc, .slice g0 m0 c0, .slice g1 m1 c1, .slice g2 m2 c2, .slice g3 m3 c3, .int .i64 d0, .int .i64 d1, .int .i64 d2, .int .i64 d3, .int .i64 mul], .agg #[.int .u32 rpa, .int .i64 rpl, .int .i64 og, .slice pA pn pc, .int .u32 hop, .bool hm, .int .i64 med, .bool hp, .int .i64 pref, .bool atm, .bool ha, .int .i64 aas, .int .u32 aad, .slice cA cn cc, .bool ho, .int .u32 ori, .slice kA kn kc, .slice uA un uc, .int .i64 rpeer, .int .i64 rkind, .int .u32 rrtr, .bool stale], .int .i64 ti] W fun e w' => e = .returned (.bool z) ∧ Below W.heap.size W w') := by
    intro W hW
    have hbw := HB2.out.trans (hW.mono HB2.out.size)
    have := refMay_any asn cfd rtr clt QA na g0 g1 g2 g3 qn qc nn nc m0 c0 m1 c1 m2 c2 m3 c3 d0 d1 d2 d3 mul rpa rpl og hop med pref aas aad ori hm hp atm ha ho pA cA kA uA pn pc cn cc kn kc un uc p us cm cl rpeer rkind rrtr stale ti ps W ((HQ.out.below hbw).more hbw.size) (HL.out.grow hbw (Nat.le_refl _))
    rw [hz] at this
    exact this
  have HS : Hid (∀ V, Below w2.heap.size w2 V → Blk V w.heap.size 34 [.int .i64 asn, .int .i64 cfd, .int .u32 rtr, .int .u32 clt, .slice QA qn qc, .slice na nn nc, .slice g0 m0 c0, .slice g1 m1 c1, .slice g2 m2 c2, .slice g3 m3 c3, .int .i64 d0, .int .i64 d1, .int .i64 d2, .int .i64 d3, .int .i64 mul] ∧ Blk V (w.heap.size + 1) 49 [.int .u32 rpa, .int .i64 rpl, .int .i64 og, .slice pA pn pc, .int .u32 hop, .bool hm, .int .i64 med, .bool hp, .int .i64 pref, .bool atm, .bool ha, .int .i64 aas, .int .u32 aad, .slice cA cn cc, .bool ho, .int .u32 ori, .slice kA kn kc, .slice uA un uc, .int .i64 rpeer, .int .i64 rkind, .int .u32 rrtr, .bool stale]) := fun V h => ⟨HKC2.out.keep h, HKA2.out.keep h⟩
  have HC0 : Hid (Below w2.heap.size w2 w2.drew) := (Below.refl _ _).drew
  clear hz hs hus
  go_upto_region 3 with fail
  clear c4 d60 h60
  refine wp_region_noPanic ?_
  refine wp_region_held_drew (S := fun V => Blk V w.heap.size 34 [.int .i64 asn, .int .i64 cfd, .int .u32 rtr, .int .u32 clt, .slice QA qn qc, .slice na nn nc, .slice g0 m0 c0, .slice g1 m1 c1, .slice g2 m2 c2, .slice g3 m3 c3, .int .i64 d0, .int .i64 d1, .int .i64 d2, .int .i64 d3, .int .i64 mul] ∧ Blk V (w.heap.size + 1) 49 [.int .u32 rpa, .int .i64 rpl, .int .i64 og, .slice pA pn pc, .int .u32 hop, .bool hm, .int .i64 med, .bool hp, .int .i64 pref, .bool atm, .bool ha, .int .i64 aas, .int .u32 aad, .slice cA cn cc, .bool ho, .int .u32 ori, .slice kA kn kc, .slice uA un uc, .int .i64 rpeer, .int .i64 rkind, .int .u32 rrtr, .bool stale]) (by kernel_rfl) (HS.out _ HC0.out) (fun hHeld => ?_)
  refine take_in (i := 0) _ (some 17) (by kernel_rfl) (by kernel_rfl) (by kernel_rfl) (by kernel_rfl) (fun _ _ _ h => h) (by rfl) (fun o ho w hSw => by cases ho; exact run_load_blk _ _ rfl _ rfl (hSw.1) _ Try.underlying34 rfl (by kernel_rfl)) hHeld ?_
  try simp only [Act.put, List.setIfInBounds_toArray, List.set_cons_zero, List.set_cons_succ]
  refine take_in (i := 1) _ (some 18) (by kernel_rfl) (by kernel_rfl) (by kernel_rfl) (by kernel_rfl) (fun _ _ _ h => h) (by rfl) (fun o ho w hSw => by cases ho; exact run_load_blk _ _ rfl _ rfl (hSw.2) _ Try.underlying49 rfl (by kernel_rfl)) hHeld ?_
  try simp only [Act.put, List.setIfInBounds_toArray, List.set_cons_zero, List.set_cons_succ]
  refine take_in (i := 2) _ (some 19) (by kernel_rfl) (by kernel_rfl) (by kernel_rfl) (by kernel_rfl) (fun _ _ _ h => h) (by rfl) (fun o ho w hSw => by cases ho; (try dsimp only at hSw); (try go_split_ands); go_simp; (try with_reducible rfl)) hHeld ?_
  try simp only [Act.put, List.setIfInBounds_toArray, List.set_cons_zero, List.set_cons_succ]
  refine take_in (i := 4) _ (some 21) (by kernel_rfl) (by kernel_rfl) (by kernel_rfl) (by kernel_rfl) (fun _ _ _ h => h) (by rfl) (fun o ho w hSw => by cases ho; exact run_load_blk _ _ rfl _ rfl (hSw.1) _ Try.underlying34 rfl (by kernel_rfl)) hHeld ?_
  try simp only [Act.put, List.setIfInBounds_toArray, List.set_cons_zero, List.set_cons_succ]
  refine take_in (i := 5) _ (some 22) (by kernel_rfl) (by kernel_rfl) (by kernel_rfl) (by kernel_rfl) (fun _ _ _ h => h) (by rfl) (fun o ho w hSw => by cases ho; exact run_load_blk _ _ rfl _ rfl (hSw.2) _ Try.underlying49 rfl (by kernel_rfl)) hHeld ?_
  try simp only [Act.put, List.setIfInBounds_toArray, List.set_cons_zero, List.set_cons_succ]
  refine take_in (i := 6) _ (some 23) (by kernel_rfl) (by kernel_rfl) (by kernel_rfl) (by kernel_rfl) (fun _ _ _ h => h) (by rfl) (fun o ho w hSw => by cases ho; (try dsimp only at hSw); (try go_split_ands); go_simp; (try with_reducible rfl)) hHeld ?_
  try simp only [Act.put, List.setIfInBounds_toArray, List.set_cons_zero, List.set_cons_succ]
  refine wpAnyH_ready (rs := [3]) (by kernel_rfl) (by simp) ?_
  refine AllReadyH.cons (o := _) rfl (fun K hK => ?_) AllReadyH.nil
  go_simp
  go_at_call 14
  with_reducible refine (H1.out _ HC0.out).mono ?_
  rintro e wX ⟨rfl, hbX⟩
  have HCX := Lib.hid (below3 HC0.out hbX)
  clear hbX
  refine hK.out _ _ (HS.out _ HCX.out) (fun hHeld => ?_)
  clear hK K
  try simp only [Act.put, List.setIfInBounds_toArray, List.set_cons_zero, List.set_cons_succ]
  refine wpAnyH_ready (rs := [7]) (by kernel_rfl) (by simp) ?_
  refine AllReadyH.cons (o := _) rfl (fun K hK => ?_) AllReadyH.nil
  go_simp
  go_at_call 15
  with_reducible refine (H2.out _ HCX.out).mono ?_
  rintro e wY ⟨rfl, hbY⟩
  have HCY := Lib.hid (below3 HCX.out hbY)
  clear hbY
  refine hK.out _ _ (HS.out _ HCY.out) (fun hHeld => ?_)
  clear hK K
  try simp only [Act.put, List.setIfInBounds_toArray, List.set_cons_zero, List.set_cons_succ]
  refine take_in (i := 8) _ (some 25) (by kernel_rfl) (by kernel_rfl) (by kernel_rfl) (by kernel_rfl) (fun _ _ _ h => h) (by rfl) (fun o ho w hSw => by cases ho; (try dsimp only at hSw); (try go_split_ands); go_simp; (try with_reducible rfl)) hHeld ?_
  try simp only [Act.put, List.setIfInBounds_toArray, List.set_cons_zero, List.set_cons_succ]
  refine take_in (i := 9) _ (some 26) (by kernel_rfl) (by kernel_rfl) (by kernel_rfl) (by kernel_rfl) (fun _ _ _ h => h) (by rfl) (fun o ho w hSw => by cases ho; (try dsimp only at hSw); (try go_split_ands); go_simp; (try with_reducible rfl)) hHeld ?_
  try simp only [Act.put, List.setIfInBounds_toArray, List.set_cons_zero, List.set_cons_succ]
  refine wpAnyH_ready (rs := [10]) (by kernel_rfl) (by simp) ?_
  refine AllReadyH.cons (o := _) rfl (fun K hK => ?_) AllReadyH.nil
  go_simp
  go_at_call 11
  with_reducible refine (awake41_any _).mono ?_
  rintro e wZ ⟨rfl, hbZ⟩
  have HCZ := Lib.hid (below3 HCY.out hbZ)
  clear hbZ
  refine hK.out _ _ (HS.out _ HCZ.out) (fun hHeld => ?_)
  clear hK K
  try simp only [Act.put, List.setIfInBounds_toArray, List.set_cons_zero, List.set_cons_succ]
  refine take_in (i := 11) _ (some 28) (by kernel_rfl) (by kernel_rfl) (by kernel_rfl) (by kernel_rfl) (fun _ _ _ h => h) (by rfl) (fun o ho w hSw => by cases ho; (try dsimp only at hSw); (try go_split_ands); go_simp; (try with_reducible rfl)) hHeld ?_
  try simp only [Act.put, List.setIfInBounds_toArray, List.set_cons_zero, List.set_cons_succ]
  refine take_in (i := 12) _ (some 6) (by kernel_rfl) (by kernel_rfl) (by kernel_rfl) (by kernel_rfl) (fun _ _ _ h => h) (by rfl) (fun o ho w hSw => by cases ho; (try dsimp only at hSw); (try go_split_ands); go_simp; (try with_reducible rfl)) hHeld ?_
  try simp only [Act.put, List.setIfInBounds_toArray, List.set_cons_zero, List.set_cons_succ]
  refine wpAnyH_done (by kernel_rfl) ?_ _
  refine NoPanic.normal ?_
  have HBF := Lib.hid (HB2.out.trans (HCZ.out.mono HB2.out.size))
  go_wp2
  go_ret
  exact ⟨rfl, HBF.out⟩
theorem advertiseMay_walk (v0 v1 : Value) (i : Int) (w : World) (h0 : ConfIn w v0) (h1 : RouteIn w v1) (_h2 : (Lit.int .i64 i).wf = true) :
    Calls Try.prog 4 #[v0, v1, .int .i64 i] w fun e w' => e = .returned (.bool true) ∧ Below w.heap.size w w' := by
  obtain ⟨asn, cfd, rtr, clt, QA, na, g0, g1, g2, g3, qn, qc, nn, nc, m0, c0, m1, c1, m2, c2, m3, c3, d0, d1, d2, d3, mul, ps, rfl, hQ⟩ := h0
  obtain ⟨rpa, rpl, og, hop, med, pref, aas, aad, ori, hm, hp, atm, ha, ho, pA, cA, kA, uA, pn, pc, cn, cc, kn, kc, un, uc, p, us, cm, cl, rpeer, rkind, rrtr, stale, rfl, hL, hs, hus⟩ := h1
  exact mayLaw asn cfd rtr clt QA na g0 g1 g2 g3 qn qc nn nc m0 c0 m1 c1 m2 c2 m3 c3 d0 d1 d2 d3 mul rpa rpl og hop med pref aas aad ori hm hp atm ha ho pA cA kA uA pn pc cn cc kn kc un uc p us cm cl rpeer rkind rrtr stale i ps w hQ hL hs hus
end Go.Proofs.Ytojgohgeagbkbaa
