/- Accept, the program's: the walk. -/
import Derived.Test.YtojgohgeagbkbaaAccR
namespace Go.Proofs.Ytojgohgeagbkbaa
open Go.RowKit

set_option linter.unusedVariables false in
set_option linter.unusedSimpArgs false in
set_option maxRecDepth 100000 in
set_option maxHeartbeats 8000000 in
theorem accept_any (asn cfd rtr clt : Int) (QA na g0 g1 g2 g3 : Option Addr) (qn qc nn nc m0 c0 m1 c1 m2 c2 m3 c3 : Nat) (d0 d1 d2 d3 mul : Int) (i : Int) (og hop med pref aas aad ori : Int) (hm hp atm ha ho : Bool) (pA cA kA uA : Option Addr) (pn pc cn cc kn kc un uc : Nat) (p us : Path) (cm cl : List Int) (ps : List PeerV) (w : World) (hQ : Peers w w.heap.size QA qn qc ps) (hL : Lists w w.heap.size pA cA kA uA pn pc cn cc kn kc un uc p cm cl us) (hs : Sm p) :
    Calls Try.prog 12 #[.agg #[.int .i64 asn, .int .i64 cfd, .int .u32 rtr, .int .u32 clt, .slice QA qn qc, .slice na nn nc, .slice g0 m0 c0, .slice g1 m1 c1, .slice g2 m2 c2, .slice g3 m3 c3, .int .i64 d0, .int .i64 d1, .int .i64 d2, .int .i64 d3, .int .i64 mul], .int .i64 i, .agg #[.int .i64 og, .slice pA pn pc, .int .u32 hop, .bool hm, .int .i64 med, .bool hp, .int .i64 pref, .bool atm, .bool ha, .int .i64 aas, .int .u32 aad, .slice cA cn cc, .bool ho, .int .u32 ori, .slice kA kn kc, .slice uA un uc]] w fun e w' => e = .returned (.int .i64 (acceptR i ps asn cfd rtr clt ⟨og, p, hop, hm, med, hp, pref, atm, ha, aas, aad, cm, ho, ori, cl, us⟩)) ∧ Below w.heap.size w w' := by
  have HQ := Lib.hid hQ
  have HL := Lib.hid hL
  have HS1 := Lib.hid hs
  have HQL := Lib.hid hQ.len
  have hkn : kn ≤ 140737488355328 := by have := hL.small; omega
  obtain ⟨w1, hw1⟩ : ∃ w1, (w.alloc (.cells #[.int .i64 asn, .int .i64 cfd, .int .u32 rtr, .int .u32 clt, .slice QA qn qc, .slice na nn nc, .slice g0 m0 c0, .slice g1 m1 c1, .slice g2 m2 c2, .slice g3 m3 c3, .int .i64 d0, .int .i64 d1, .int .i64 d2, .int .i64 d3, .int .i64 mul] 34)).alloc (.cells #[.int .i64 og, .slice pA pn pc, .int .u32 hop, .bool hm, .int .i64 med, .bool hp, .int .i64 pref, .bool atm, .bool ha, .int .i64 aas, .int .u32 aad, .slice cA cn cc, .bool ho, .int .u32 ori, .slice kA kn kc, .slice uA un uc] 40) = w1 := ⟨_, rfl⟩
  have hbC : Blk w1 w.heap.size 34 [.int .i64 asn, .int .i64 cfd, .int .u32 rtr, .int .u32 clt, .slice QA qn qc, .slice na nn nc, .slice g0 m0 c0, .slice g1 m1 c1, .slice g2 m2 c2, .slice g3 m3 c3, .int .i64 d0, .int .i64 d1, .int .i64 d2, .int .i64 d3, .int .i64 mul] := by rw [← hw1]; exact (Blk.new w _ _).keep (belowA _ _)
  have hbA : Blk w1 (w.heap.size + 1) 40 [.int .i64 og, .slice pA pn pc, .int .u32 hop, .bool hm, .int .i64 med, .bool hp, .int .i64 pref, .bool atm, .bool ha, .int .i64 aas, .int .u32 aad, .slice cA cn cc, .bool ho, .int .u32 ori, .slice kA kn kc, .slice uA un uc] := by rw [← hw1]; exact Blk.new2 w _ _ _
  have hb1 : Below w.heap.size w w1 := by rw [← hw1]; exact below3 (belowA _ _) (belowA _ _)
  have HB1 := Lib.hid hb1
  have HKC := Lib.hid hbC
  have HKA := Lib.hid hbA
  have HQ1 : Hid (Peers w1 w.heap.size QA qn qc ps) := HQ.out.below hb1
  have HL1 := Lib.hid (HL.out.grow hb1 (Nat.le_refl _))
  have hlt : w.heap.size + 1 < w1.heap.size := hbA.lt
  have hlt0 : w.heap.size < w1.heap.size := by omega
  clear hQ hL hs hbC hbA hb1
  have cf0 := HKC.out.cell 0
  have cf1 := HKC.out.cell 1
  have cf2 := HKC.out.cell 2
  have cf3 := HKC.out.cell 3
  have cf4 := HKC.out.cell 4
  have cf5 := HKC.out.cell 5
  have cf6 := HKC.out.cell 6
  have cf7 := HKC.out.cell 7
  have cf8 := HKC.out.cell 8
  have cf9 := HKC.out.cell 9
  have cf10 := HKC.out.cell 10
  have cf11 := HKC.out.cell 11
  have cf12 := HKC.out.cell 12
  have cf13 := HKC.out.cell 13
  have cf14 := HKC.out.cell 14
  simp only [List.getElem?_cons_zero, List.getElem?_cons_succ] at cf0 cf1 cf2 cf3 cf4 cf5 cf6 cf7 cf8 cf9 cf10 cf11 cf12 cf13 cf14
  have HC := Lib.hid (has41_any asn cfd rtr clt QA na g0 g1 g2 g3 qn qc nn nc m0 c0 m1 c1 m2 c2 m3 c3 d0 d1 d2 d3 mul i w1)
  go_enter Try.func12, Try.ntmps12
  go_wp2_with fail
  refine HC.out.mono ?_
  rintro e w2 ⟨rfl, hb⟩
  clear cf0 cf1 cf2 cf3 cf4 cf5 cf6 cf7 cf8 cf9 cf10 cf11 cf12 cf13 cf14 hw1 HC
  have HKC2 := Lib.hid (HKC.out.keep hb)
  have HKA2 := Lib.hid (HKA.out.keep hb)
  have HB2 := Lib.hid (below3 HB1.out hb)
  have HL2 := Lib.hid (HL1.out.grow hb (Nat.le_refl _))
  have hlt2 : w.heap.size + 1 < w2.heap.size := HKA2.out.lt
  have hlt20 : w.heap.size < w2.heap.size := by omega
  clear hb HKC HKA HB1 HL1 HQ1 hlt hlt0
  obtain ⟨hh, hhe⟩ : ∃ b, hasB i qn = b := ⟨_, rfl⟩
  rw [hhe]
  cases hh
  case false =>
    have HF := Lib.hid (acceptR_no (i := i) (ps := ps) (by rw [HQL.out]; exact hhe) asn cfd rtr clt ⟨og, p, hop, hm, med, hp, pref, atm, ha, aas, aad, cm, ho, ori, cl, us⟩)
    clear hhe
    go_wp2
    go_ret
    exact ⟨by rw [HF.out]; rfl, HB2.out⟩
  obtain ⟨j, rfl, hj⟩ := hasB_nat hhe
  have HHE := Lib.hid hhe
  clear hhe
  have hji : (0 : Int) ≤ (j : Int) := by omega
  have hji2 : (j : Int) < (qn : Int) := by omega
  have a0 := HKA2.out.cell 0
  have a1 := HKA2.out.cell 1
  have a2 := HKA2.out.cell 2
  have a3 := HKA2.out.cell 3
  have a4 := HKA2.out.cell 4
  have a5 := HKA2.out.cell 5
  have a6 := HKA2.out.cell 6
  have a7 := HKA2.out.cell 7
  have a8 := HKA2.out.cell 8
  have a9 := HKA2.out.cell 9
  have a10 := HKA2.out.cell 10
  have a11 := HKA2.out.cell 11
  have a12 := HKA2.out.cell 12
  have a13 := HKA2.out.cell 13
  have a14 := HKA2.out.cell 14
  have a15 := HKA2.out.cell 15
  simp only [List.getElem?_cons_zero, List.getElem?_cons_succ] at a0 a1 a2 a3 a4 a5 a6 a7 a8 a9 a10 a11 a12 a13 a14 a15
  have HC := Lib.hid (attCheck_any og hop med pref aas aad ori hm hp atm ha ho pA cA kA uA pn pc cn cc kn kc un uc p us cm cl w2 HL2.out)
  go_wp2_with fail
  refine HC.out.mono ?_
  rintro e w3 ⟨rfl, hb⟩
  clear a0 a1 a2 a3 a4 a5 a6 a7 a8 a9 a10 a11 a12 a13 a14 a15 HC
  have HKC3 := Lib.hid (HKC2.out.keep hb)
  have HKA3 := Lib.hid (HKA2.out.keep hb)
  have HB3 := Lib.hid (below3 HB2.out hb)
  have HL3 := Lib.hid (HL2.out.grow hb (Nat.le_refl _))
  have hlt3 : w.heap.size + 1 < w3.heap.size := HKA3.out.lt
  have hlt30 : w.heap.size < w3.heap.size := by omega
  clear hb HKC2 HKA2 HB2 HL2 hlt2 hlt20
  obtain ⟨ae, hae⟩ : ∃ ae, attErr ⟨og, p, hop, hm, med, hp, pref, atm, ha, aas, aad, cm, ho, ori, cl, us⟩ = ae := ⟨_, rfl⟩
  rw [hae]
  by_cases hae0 : ae = 0
  case neg =>
    have HF := Lib.hid (acceptR_err (i := (j : Int)) (ps := ps) (a := ⟨og, p, hop, hm, med, hp, pref, atm, ha, aas, aad, cm, ho, ori, cl, us⟩) (by rw [HQL.out]; exact HHE.out) (by rw [hae]; exact hae0) asn cfd rtr clt)
    rw [hae] at HF
    have d : (ae != 0) = true := by simpa using hae0
    clear hae hae0
    go_wp2
    go_ret
    exact ⟨by rw [HF.out]; rfl, HB3.out⟩
  subst hae0
  have HAE := Lib.hid hae
  have HV : pathErr p = 0 := attErr_path hae
  clear hae
  obtain ⟨qb, qo, q, rfl, hqb, hq, q0, q1, q2, q3, q4, q5, q6, q7, q8, q9, q10⟩ := Peers.get (HQ.out.below HB3.out) hj
  have HF := Lib.hid (acceptR_at hq.out HAE.out asn cfd rtr clt)
  obtain ⟨pk, pas, padr, ploc, pcli, phold, prest, pimp, pexp, pself, pdamp⟩ := q
  dsimp only at q0 q1 q2 q3 q4 q5 q6 q7 q8 q9 q10
  obtain ⟨QA, hqa⟩ : ∃ Q : Option Addr, Q = some ⟨qb, qo, none⟩ := ⟨_, rfl⟩
  have HQA := Lib.hid hqa
  clear hqa
  have hqb3 : qb < w3.heap.size := by have := HB3.out.size; omega
  unfold acceptT at HF
  dsimp only at HF
  have cf0 := HKC3.out.cell 0
  have cf1 := HKC3.out.cell 1
  have cf2 := HKC3.out.cell 2
  have cf3 := HKC3.out.cell 3
  have cf4 := HKC3.out.cell 4
  have cf5 := HKC3.out.cell 5
  have cf6 := HKC3.out.cell 6
  have cf7 := HKC3.out.cell 7
  have cf8 := HKC3.out.cell 8
  have cf9 := HKC3.out.cell 9
  have cf10 := HKC3.out.cell 10
  have cf11 := HKC3.out.cell 11
  have cf12 := HKC3.out.cell 12
  have cf13 := HKC3.out.cell 13
  have cf14 := HKC3.out.cell 14
  simp only [List.getElem?_cons_zero, List.getElem?_cons_succ] at cf0 cf1 cf2 cf3 cf4 cf5 cf6 cf7 cf8 cf9 cf10 cf11 cf12 cf13 cf14
  have a0 := HKA3.out.cell 0
  have a1 := HKA3.out.cell 1
  have a2 := HKA3.out.cell 2
  have a3 := HKA3.out.cell 3
  have a4 := HKA3.out.cell 4
  have a5 := HKA3.out.cell 5
  have a6 := HKA3.out.cell 6
  have a7 := HKA3.out.cell 7
  have a8 := HKA3.out.cell 8
  have a9 := HKA3.out.cell 9
  have a10 := HKA3.out.cell 10
  have a11 := HKA3.out.cell 11
  have a12 := HKA3.out.cell 12
  have a13 := HKA3.out.cell 13
  have a14 := HKA3.out.cell 14
  have a15 := HKA3.out.cell 15
  simp only [List.getElem?_cons_zero, List.getElem?_cons_succ] at a0 a1 a2 a3 a4 a5 a6 a7 a8 a9 a10 a11 a12 a13 a14 a15
  obtain ⟨w4, hw4⟩ : ∃ w4, w3.alloc (.cells #[.int .i64 pk, .int .i64 pas, .int .u32 padr, .int .u32 ploc, .bool pcli, .int .i64 phold, .int .i64 prest, .string pimp, .string pexp, .bool pself, .bool pdamp] 66) = w4 := ⟨_, rfl⟩
  have hbP : Blk w4 w3.heap.size 66 [.int .i64 pk, .int .i64 pas, .int .u32 padr, .int .u32 ploc, .bool pcli, .int .i64 phold, .int .i64 prest, .string pimp, .string pexp, .bool pself, .bool pdamp] := by rw [← hw4]; exact Blk.new w3 _ _
  have hb4 : Below w3.heap.size w3 w4 := by rw [← hw4]; exact belowA _ _
  have HKP := Lib.hid hbP
  have HB4 := Lib.hid (below3 HB3.out hb4)
  have HL4 := Lib.hid (HL3.out.grow hb4 (Nat.le_refl _))
  have HKC4 := Lib.hid (HKC3.out.keep hb4)
  have HKA4 := Lib.hid (HKA3.out.keep hb4)
  have hlt4 : w3.heap.size < w4.heap.size := hbP.lt
  have hlt41 : w.heap.size + 1 < w4.heap.size := HKA4.out.lt
  have hlt40 : w.heap.size < w4.heap.size := by omega
  clear hbP hb4 hq
  go_upto_region 7 with fail
  try rw [hw4]
  clear hw4 cf0 cf1 cf2 cf3 cf4 cf5 cf6 cf7 cf8 cf9 cf10 cf11 cf12 cf13 cf14 a0 a1 a2 a3 a4 a5 a6 a7 a8 a9 a10 a11 a12 a13 a14 a15 q0 q1 q2 q3 q4 q5 q6 q7 q8 q9 q10
  have q0 := HKP.out.cell 0
  have q1 := HKP.out.cell 1
  have q2 := HKP.out.cell 2
  have q3 := HKP.out.cell 3
  have q4 := HKP.out.cell 4
  have q5 := HKP.out.cell 5
  have q6 := HKP.out.cell 6
  have q7 := HKP.out.cell 7
  have q8 := HKP.out.cell 8
  have q9 := HKP.out.cell 9
  have q10 := HKP.out.cell 10
  simp only [List.getElem?_cons_zero, List.getElem?_cons_succ] at q0 q1 q2 q3 q4 q5 q6 q7 q8 q9 q10
  have a1 := HKA4.out.cell 1
  simp only [List.getElem?_cons_zero, List.getElem?_cons_succ] at a1
  have HC := Lib.hid (begins_any pk pas padr ploc pcli phold prest pimp pexp pself pdamp pA pn pc p w4 HL4.out.path HS1.out)
  go_wp2_with fail
  refine HC.out.mono ?_
  rintro e w5 ⟨rfl, hb⟩
  clear HC q0 q1 q2 q3 q4 q5 q6 q7 q8 q9 q10 a1
  have HKC5 := Lib.hid (HKC4.out.keep hb)
  have HKA5 := Lib.hid (HKA4.out.keep hb)
  have HKP5 := Lib.hid (HKP.out.keep hb)
  have HB5 := Lib.hid (below3 HB4.out hb)
  have HL5 := Lib.hid (HL4.out.grow hb (Nat.le_refl _))
  clear hb HKC3 HKA3 HB3 HL3 hlt3 hlt30 HKC4 HKA4 HKP HB4 HL4 hlt41 hlt40
  obtain ⟨b1, hb1⟩ : ∃ b, begR pk pas p = b := ⟨_, rfl⟩
  rw [hb1] at HF ⊢
  clear hb1
  cases b1
  case false =>
    go_wp2
    go_ret
    exact ⟨by rw [HF.out]; rfl, HB5.out⟩
  have hlt51 : w.heap.size + 1 < w5.heap.size := HKA5.out.lt
  have hlt50 : w.heap.size < w5.heap.size := by omega
  have a1 := HKA5.out.cell 1
  have cf0 := HKC5.out.cell 0
  have cf1 := HKC5.out.cell 1
  simp only [List.getElem?_cons_zero, List.getElem?_cons_succ] at a1 cf0 cf1
  have HC := Lib.hid (has_any pA pn pc p asn w5 HL5.out.path HS1.out)
  go_wp2_with fail
  refine HC.out.mono ?_
  rintro e w6 ⟨rfl, hb⟩
  clear HC a1 cf0 cf1
  have HKC6 := Lib.hid (HKC5.out.keep hb)
  have HKA6 := Lib.hid (HKA5.out.keep hb)
  have HKP6 := Lib.hid (HKP5.out.keep hb)
  have HB6 := Lib.hid (below3 HB5.out hb)
  have HL6 := Lib.hid (HL5.out.grow hb (Nat.le_refl _))
  clear hb HKC5 HKA5 HKP5 HB5 HL5 hlt51 hlt50
  have hlt61 : w.heap.size + 1 < w6.heap.size := HKA6.out.lt
  have hlt60 : w.heap.size < w6.heap.size := by omega
  have a1 := HKA6.out.cell 1
  have cf1 := HKC6.out.cell 1
  simp only [List.getElem?_cons_zero, List.getElem?_cons_succ] at a1 cf1
  obtain ⟨b2, hb2⟩ : ∃ b, decide (asn ∈ flat p) = b := ⟨_, rfl⟩
  rw [hb2] at HF ⊢
  clear hb2
  cases b2
  case true =>
    go_wp2
    go_ret
    exact ⟨by rw [HF.out]; rfl, HB6.out⟩
  obtain ⟨b3, hb3⟩ : ∃ b, (cfd != 0) = b := ⟨_, rfl⟩
  rw [hb3] at HF
  obtain ⟨b4, hb4⟩ : ∃ b, decide (cfd ∈ flat p) = b := ⟨_, rfl⟩
  rw [hb4] at HF
  cases b3
  case' true =>
    have HC := Lib.hid (has_any pA pn pc p cfd w6 HL6.out.path HS1.out)
    go_wp2_with fail
    refine HC.out.mono ?_
    rintro e V0 ⟨rfl, hb⟩
    clear HC a1 cf1
    have HKC7 := Lib.hid (HKC6.out.keep hb)
    have HKA7 := Lib.hid (HKA6.out.keep hb)
    have HKP7 := Lib.hid (HKP6.out.keep hb)
    have HB7 := Lib.hid (below3 HB6.out hb)
    have HL7 := Lib.hid (HL6.out.grow hb (Nat.le_refl _))
    clear hb HKC6 HKA6 HKP6 HB6 HL6 hlt61 hlt60 hb3
    rw [hb4]
    clear hb4
    cases b4
    case true =>
      go_wp2
      go_ret
      exact ⟨by rw [HF.out]; rfl, HB7.out⟩
  case' false =>
    obtain ⟨V0, hV0⟩ : ∃ V0, V0 = w6 := ⟨_, rfl⟩
    subst hV0
    have HKC7 := HKC6
    have HKA7 := HKA6
    have HKP7 := HKP6
    have HB7 := HB6
    have HL7 := HL6
    clear HKC6 HKA6 HKP6 HB6 HL6 hb4
  all_goals
    rw [← HQA.out] at HKC7
    have hlt71 : w.heap.size + 1 < V0.heap.size := HKA7.out.lt
    have hlt70 : w.heap.size < V0.heap.size := by omega
    have hlt7p : w3.heap.size < V0.heap.size := HKP7.out.lt
    have q0 := HKP7.out.cell 0
    have a12 := HKA7.out.cell 12
    have a13 := HKA7.out.cell 13
    have a14 := HKA7.out.cell 14
    have cf2 := HKC7.out.cell 2
    simp only [List.getElem?_cons_zero, List.getElem?_cons_succ] at q0 a12 a13 a14 cf2
    go_upto_region 11 with fail
    obtain ⟨b5, hb5⟩ : ∃ b, (pk == 3) = b := ⟨_, rfl⟩
    rw [hb5] at HF
    obtain ⟨b7, hb7⟩ : ∃ b, (ori == rtr) = b := ⟨_, rfl⟩
    rw [hb7] at HF
    cases b5
    case false =>
      go_quiet (fail)
      go_wp2
      go_ret
      exact ⟨by rw [HF.out]; rfl, below_drewN HB7.out _⟩
    obtain ⟨mb, hmb⟩ : ∃ b, memB cl (clusterR clt rtr) = b := ⟨_, rfl⟩
    rw [hmb] at HF
    obtain ⟨ob, hob⟩ : ∃ b, (ho && b7) = b := ⟨_, rfl⟩
    cases ob
    case true =>
      obtain ⟨rfl, rfl⟩ : ho = true ∧ b7 = true := by simpa using hob
      go_quiet (fail)
      go_wp2
      go_ret
      exact ⟨by rw [HF.out]; rfl, below_drewN HB7.out _⟩
    case' false =>
      have HS : Hid (∀ V, Below V0.heap.size V0 V → V.cell? ⟨w3.heap.size, 0, none⟩ = some (.int .i64 pk) ∧ V.cell? ⟨w.heap.size + 1, 12, none⟩ = some (.bool ho) ∧ V.cell? ⟨w.heap.size + 1, 13, none⟩ = some (.int .u32 ori) ∧ V.cell? ⟨w.heap.size + 1, 14, none⟩ = some (.slice kA kn kc) ∧ V.cell? ⟨w.heap.size, 0, none⟩ = some (.int .i64 asn) ∧ V.cell? ⟨w.heap.size, 1, none⟩ = some (.int .i64 cfd) ∧ V.cell? ⟨w.heap.size, 2, none⟩ = some (.int .u32 rtr) ∧ V.cell? ⟨w.heap.size, 3, none⟩ = some (.int .u32 clt) ∧ V.cell? ⟨w.heap.size, 4, none⟩ = some (.slice QA qn qc) ∧ V.cell? ⟨w.heap.size, 5, none⟩ = some (.slice na nn nc) ∧ V.cell? ⟨w.heap.size, 6, none⟩ = some (.slice g0 m0 c0) ∧ V.cell? ⟨w.heap.size, 7, none⟩ = some (.slice g1 m1 c1) ∧ V.cell? ⟨w.heap.size, 8, none⟩ = some (.slice g2 m2 c2) ∧ V.cell? ⟨w.heap.size, 9, none⟩ = some (.slice g3 m3 c3) ∧ V.cell? ⟨w.heap.size, 10, none⟩ = some (.int .i64 d0) ∧ V.cell? ⟨w.heap.size, 11, none⟩ = some (.int .i64 d1) ∧ V.cell? ⟨w.heap.size, 12, none⟩ = some (.int .i64 d2) ∧ V.cell? ⟨w.heap.size, 13, none⟩ = some (.int .i64 d3) ∧ V.cell? ⟨w.heap.size, 14, none⟩ = some (.int .i64 mul)) := fun V h => by
        have k1 := HKP7.out.keep h
        have k2 := HKA7.out.keep h
        have k3 := HKC7.out.keep h
        exact ⟨k1.cell 0, k2.cell 12, k2.cell 13, k2.cell 14, k3.cell 0, k3.cell 1, k3.cell 2, k3.cell 3, k3.cell 4, k3.cell 5, k3.cell 6, k3.cell 7, k3.cell 8, k3.cell 9, k3.cell 10, k3.cell 11, k3.cell 12, k3.cell 13, k3.cell 14⟩
      have HC : Hid (Below V0.heap.size V0 V0.drew) := (Below.refl _ _).drew
      refine wp_region_noPanic ?_
      refine wp_region_held_drew (S := fun V => V.cell? ⟨w3.heap.size, 0, none⟩ = some (.int .i64 pk) ∧ V.cell? ⟨w.heap.size + 1, 12, none⟩ = some (.bool ho) ∧ V.cell? ⟨w.heap.size + 1, 13, none⟩ = some (.int .u32 ori) ∧ V.cell? ⟨w.heap.size + 1, 14, none⟩ = some (.slice kA kn kc) ∧ V.cell? ⟨w.heap.size, 0, none⟩ = some (.int .i64 asn) ∧ V.cell? ⟨w.heap.size, 1, none⟩ = some (.int .i64 cfd) ∧ V.cell? ⟨w.heap.size, 2, none⟩ = some (.int .u32 rtr) ∧ V.cell? ⟨w.heap.size, 3, none⟩ = some (.int .u32 clt) ∧ V.cell? ⟨w.heap.size, 4, none⟩ = some (.slice QA qn qc) ∧ V.cell? ⟨w.heap.size, 5, none⟩ = some (.slice na nn nc) ∧ V.cell? ⟨w.heap.size, 6, none⟩ = some (.slice g0 m0 c0) ∧ V.cell? ⟨w.heap.size, 7, none⟩ = some (.slice g1 m1 c1) ∧ V.cell? ⟨w.heap.size, 8, none⟩ = some (.slice g2 m2 c2) ∧ V.cell? ⟨w.heap.size, 9, none⟩ = some (.slice g3 m3 c3) ∧ V.cell? ⟨w.heap.size, 10, none⟩ = some (.int .i64 d0) ∧ V.cell? ⟨w.heap.size, 11, none⟩ = some (.int .i64 d1) ∧ V.cell? ⟨w.heap.size, 12, none⟩ = some (.int .i64 d2) ∧ V.cell? ⟨w.heap.size, 13, none⟩ = some (.int .i64 d3) ∧ V.cell? ⟨w.heap.size, 14, none⟩ = some (.int .i64 mul)) (by kernel_rfl) (HS.out _ HC.out) (fun hHeld => ?_)
      cases ho
    case' true =>
      obtain rfl : b7 = false := by simpa using hob
    all_goals as_aux_lemma =>
      have hb5' := hb5
      refine take_in (i := 0) _ (some 48) (by kernel_rfl) (by kernel_rfl) (by kernel_rfl) (by kernel_rfl) (fun _ _ _ h => h) (by rfl) (fun o ho w hSw => by cases ho; (try dsimp only at hSw); (try go_split_ands); go_simp; (try with_reducible rfl)) hHeld ?_
      try simp only [Act.put, List.setIfInBounds_toArray, List.set_cons_zero, List.set_cons_succ]
      refine take_in (i := 1) _ (some 49) (by kernel_rfl) (by kernel_rfl) (by kernel_rfl) (by kernel_rfl) (fun _ _ _ h => h) (by rfl) (fun o ho w hSw => by cases ho; (try dsimp only at hSw); (try go_split_ands); go_simp; (try with_reducible rfl)) hHeld ?_
      try simp only [Act.put, List.setIfInBounds_toArray, List.set_cons_zero, List.set_cons_succ]
      refine take_in (i := 2) _ (some 50) (by kernel_rfl) (by kernel_rfl) (by kernel_rfl) (by kernel_rfl) (fun _ _ _ h => h) (by rfl) (fun o ho w hSw => by cases ho; (try dsimp only at hSw); (try go_split_ands); go_simp; (try with_reducible rfl)) hHeld ?_
      try simp only [Act.put, List.setIfInBounds_toArray, List.set_cons_zero, List.set_cons_succ]
      refine take_in (i := 3) _ (some 51) (by kernel_rfl) (by kernel_rfl) (by kernel_rfl) (by kernel_rfl) (fun _ _ _ h => h) (by rfl) (fun o ho w hSw => by cases ho; (try dsimp only at hSw); (try go_split_ands); go_simp; (try with_reducible rfl)) hHeld ?_
      try simp only [Act.put, List.setIfInBounds_toArray, List.set_cons_zero, List.set_cons_succ]
      refine take_in (i := 4) _ (some 52) (by kernel_rfl) (by kernel_rfl) (by kernel_rfl) (by kernel_rfl) (fun _ _ _ h => h) (by rfl) (fun o ho w hSw => by cases ho; (try dsimp only at hSw); (try go_split_ands); go_simp; (try with_reducible rfl)) hHeld ?_
      try simp only [Act.put, List.setIfInBounds_toArray, List.set_cons_zero, List.set_cons_succ]
      refine take_in (i := 5) _ (some 53) (by kernel_rfl) (by kernel_rfl) (by kernel_rfl) (by kernel_rfl) (fun _ _ _ h => h) (by rfl) (fun o ho w hSw => by cases ho; (try dsimp only at hSw); (try go_split_ands); go_simp; (try with_reducible rfl)) hHeld ?_
      try simp only [Act.put, List.setIfInBounds_toArray, List.set_cons_zero, List.set_cons_succ]
      refine take_in (i := 6) _ (some 54) (by kernel_rfl) (by kernel_rfl) (by kernel_rfl) (by kernel_rfl) (fun _ _ _ h => h) (by rfl) (fun o ho w hSw => by cases ho; (try dsimp only at hSw); (try go_split_ands); go_simp; (try with_reducible rfl)) hHeld ?_
      try simp only [Act.put, List.setIfInBounds_toArray, List.set_cons_zero, List.set_cons_succ]
      first | (refine take_in (i := 7) _ (some 55) (by kernel_rfl) (by kernel_rfl) (by kernel_rfl) (by kernel_rfl) (fun _ _ _ h => h) (by rfl) (fun o ho w hSw => by cases ho; (try dsimp only at hSw); (try go_split_ands); go_simp; (try with_reducible rfl)) hHeld ?_) | (refine take_un (i := 7) (some 55) (by kernel_rfl) (by kernel_rfl) (by kernel_rfl) (by kernel_rfl) (fun _ _ _ h => h) (by rfl) hHeld ?_)
      try simp only [Act.put, List.setIfInBounds_toArray, List.set_cons_zero, List.set_cons_succ]
      first | (refine take_in (i := 8) _ (some 56) (by kernel_rfl) (by kernel_rfl) (by kernel_rfl) (by kernel_rfl) (fun _ _ _ h => h) (by rfl) (fun o ho w hSw => by cases ho; (try dsimp only at hSw); (try go_split_ands); go_simp; (try with_reducible rfl)) hHeld ?_) | (refine take_un (i := 8) (some 56) (by kernel_rfl) (by kernel_rfl) (by kernel_rfl) (by kernel_rfl) (fun _ _ _ h => h) (by rfl) hHeld ?_)
      try simp only [Act.put, List.setIfInBounds_toArray, List.set_cons_zero, List.set_cons_succ]
      first | (refine take_in (i := 9) _ (some 57) (by kernel_rfl) (by kernel_rfl) (by kernel_rfl) (by kernel_rfl) (fun _ _ _ h => h) (by rfl) (fun o ho w hSw => by cases ho; (try dsimp only at hSw); (try go_split_ands); go_simp; (try with_reducible rfl)) hHeld ?_) | (refine take_un (i := 9) (some 57) (by kernel_rfl) (by kernel_rfl) (by kernel_rfl) (by kernel_rfl) (fun _ _ _ h => h) (by rfl) hHeld ?_)
      try simp only [Act.put, List.setIfInBounds_toArray, List.set_cons_zero, List.set_cons_succ]
      first | (refine take_in (i := 10) _ (some 58) (by kernel_rfl) (by kernel_rfl) (by kernel_rfl) (by kernel_rfl) (fun _ _ _ h => h) (by rfl) (fun o ho w hSw => by cases ho; (try dsimp only at hSw); (try go_split_ands); go_simp; (try with_reducible rfl)) hHeld ?_) | (refine take_un (i := 10) (some 58) (by kernel_rfl) (by kernel_rfl) (by kernel_rfl) (by kernel_rfl) (fun _ _ _ h => h) (by rfl) hHeld ?_)
      try simp only [Act.put, List.setIfInBounds_toArray, List.set_cons_zero, List.set_cons_succ]
      first | (refine take_in (i := 11) _ (some 59) (by kernel_rfl) (by kernel_rfl) (by kernel_rfl) (by kernel_rfl) (fun _ _ _ h => h) (by rfl) (fun o ho w hSw => by cases ho; (try dsimp only at hSw); (try go_split_ands); go_simp; (try with_reducible rfl)) hHeld ?_) | (refine take_un (i := 11) (some 59) (by kernel_rfl) (by kernel_rfl) (by kernel_rfl) (by kernel_rfl) (fun _ _ _ h => h) (by rfl) hHeld ?_)
      try simp only [Act.put, List.setIfInBounds_toArray, List.set_cons_zero, List.set_cons_succ]
      refine take_in (i := 12) _ (some 60) (by kernel_rfl) (by kernel_rfl) (by kernel_rfl) (by kernel_rfl) (fun _ _ _ h => h) (by rfl) (fun o ho w hSw => by cases ho; (try dsimp only at hSw); (try go_split_ands); go_simp; (try with_reducible rfl)) hHeld ?_
      try simp only [Act.put, List.setIfInBounds_toArray, List.set_cons_zero, List.set_cons_succ]
      refine take_in (i := 13) _ (some 61) (by kernel_rfl) (by kernel_rfl) (by kernel_rfl) (by kernel_rfl) (fun _ _ _ h => h) (by rfl) (fun o ho w hSw => by cases ho; (try dsimp only at hSw); (try go_split_ands); go_simp; (try with_reducible rfl)) hHeld ?_
      try simp only [Act.put, List.setIfInBounds_toArray, List.set_cons_zero, List.set_cons_succ]
      refine take_in (i := 14) _ (some 62) (by kernel_rfl) (by kernel_rfl) (by kernel_rfl) (by kernel_rfl) (fun _ _ _ h => h) (by rfl) (fun o ho w hSw => by cases ho; (try dsimp only at hSw); (try go_split_ands); go_simp; (try with_reducible rfl)) hHeld ?_
      try simp only [Act.put, List.setIfInBounds_toArray, List.set_cons_zero, List.set_cons_succ]
      refine take_in (i := 15) _ (some 63) (by kernel_rfl) (by kernel_rfl) (by kernel_rfl) (by kernel_rfl) (fun _ _ _ h => h) (by rfl) (fun o ho w hSw => by cases ho; (try dsimp only at hSw); (try go_split_ands); go_simp; (try with_reducible rfl)) hHeld ?_
      try simp only [Act.put, List.setIfInBounds_toArray, List.set_cons_zero, List.set_cons_succ]
      refine take_in (i := 16) _ (some 64) (by kernel_rfl) (by kernel_rfl) (by kernel_rfl) (by kernel_rfl) (fun _ _ _ h => h) (by rfl) (fun o ho w hSw => by cases ho; (try dsimp only at hSw); (try go_split_ands); go_simp; (try with_reducible rfl)) hHeld ?_
      try simp only [Act.put, List.setIfInBounds_toArray, List.set_cons_zero, List.set_cons_succ]
      refine wpAnyH_ready (rs := [17]) (by kernel_rfl) (by simp) ?_
      refine AllReadyH.cons (o := _) rfl (fun K hK => ?_) AllReadyH.nil
      go_simp
      go_at_call 36
      with_reducible refine (cluster_any asn cfd rtr clt QA na g0 g1 g2 g3 qn qc nn nc m0 c0 m1 c1 m2 c2 m3 c3 d0 d1 d2 d3 mul _).mono ?_
      rintro e wX ⟨rfl, hbX⟩
      have HC2 := Lib.hid (below3 HC.out hbX)
      clear hbX HC
      have HC := HC2
      clear HC2
      refine hK.out _ _ (HS.out _ HC.out) (fun hHeld => ?_)
      clear hK K
      try simp only [Act.put, List.setIfInBounds_toArray, List.set_cons_zero, List.set_cons_succ]
      refine wpAnyH_ready (rs := [18]) (by kernel_rfl) (by simp) ?_
      refine AllReadyH.cons (o := _) rfl (fun K hK => ?_) AllReadyH.nil
      go_simp
      go_at_call 35
      with_reducible refine (contains_any kA kn kc _ cl _ _ (HL7.out.below HC.out).clus hkn).mono ?_
      rintro e wY ⟨rfl, rfl⟩
      rw [hmb]
      refine hK.out _ _ hHeld (fun hHeld => ?_)
      clear hK K
      try simp only [Act.put, List.setIfInBounds_toArray, List.set_cons_zero, List.set_cons_succ]
      refine take_in (i := 19) _ (some 67) (by kernel_rfl) (by kernel_rfl) (by kernel_rfl) (by kernel_rfl) (fun _ _ _ h => h) (by rfl) (fun o ho w hSw => by cases ho; (try dsimp only at hSw); (try go_split_ands); go_simp; (try with_reducible rfl)) hHeld ?_
      try simp only [Act.put, List.setIfInBounds_toArray, List.set_cons_zero, List.set_cons_succ]
      refine take_in (i := 20) _ (some 68) (by kernel_rfl) (by kernel_rfl) (by kernel_rfl) (by kernel_rfl) (fun _ _ _ h => h) (by rfl) (fun o ho w hSw => by cases ho; (try dsimp only at hSw); (try go_split_ands); go_simp; (try with_reducible rfl)) hHeld ?_
      try simp only [Act.put, List.setIfInBounds_toArray, List.set_cons_zero, List.set_cons_succ]
      refine take_in (i := 21) _ (some 47) (by kernel_rfl) (by kernel_rfl) (by kernel_rfl) (by kernel_rfl) (fun _ _ _ h => h) (by rfl) (fun o ho w hSw => by cases ho; (try dsimp only at hSw); (try go_split_ands); go_simp; (try with_reducible rfl)) hHeld ?_
      try simp only [Act.put, List.setIfInBounds_toArray, List.set_cons_zero, List.set_cons_succ]
      refine wpAnyH_done (by kernel_rfl) ?_ _
      refine NoPanic.normal ?_
      cases mb
      all_goals
        go_wp2_with fail
        go_ret
        exact ⟨by rw [HF.out]; rfl, below3 HB7.out HC.out⟩
end Go.Proofs.Ytojgohgeagbkbaa
