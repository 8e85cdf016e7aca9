/- May, the program's and the reference's. -/
import Derived.Test.YtojgohgeagbkbaaAccR
import Derived.Test.YtojgohgeagbkbaaBox
namespace Go.Proofs.Ytojgohgeagbkbaa
open Go.RowKit

/-- a route may go ti a peer: m1 m2 m3: it holds NoAdvertise, NoExport, NoExportConfed -/
def mayB (m1 m2 m3 : Bool) (pk rk : Int) (cl : Bool) : Bool := !m1 && (!(pk == 1 && (m2 || m3)) && (!(pk == 2 && m3) && (!(reflB rk pk) || cl)))
def clientAt (i : Int) (ps : List PeerV) : Bool := hasB i ps.length && (match ps[i.toNat]? with | some q => q.client | none => false)
def mayT (q : PeerV) (ps : List PeerV) (rpeer rkind : Int) (cm : List Int) : Bool := mayB (memB cm 4294967042) (memB cm 4294967041) (memB cm 4294967043) q.kind rkind (hasB rpeer ps.length && (clientAt rpeer ps || q.client))
def mayR (ti : Int) (ps : List PeerV) (rpeer rkind : Int) (cm : List Int) : Bool := hasB ti ps.length && (!(rpeer == ti) && (match ps[ti.toNat]? with | some q => mayT q ps rpeer rkind cm | none => false))
theorem mayR_no {ti : Int} {ps : List PeerV} (h : hasB ti ps.length = false) (rpeer rkind : Int) (cm : List Int) : mayR ti ps rpeer rkind cm = false := by unfold mayR; rw [h]; rfl
theorem mayR_own {ti rpeer : Int} {ps : List PeerV} (h : (rpeer == ti) = true) (rkind : Int) (cm : List Int) : mayR ti ps rpeer rkind cm = false := by unfold mayR; rw [h]; simp
theorem hasB_cast {j n : Nat} (h : j < n) : hasB (j : Int) n = true := by
  unfold hasB
  rw [decide_eq_true (show (0 : Int) ≤ (j : Int) by omega), decide_eq_true (show (j : Int) < (n : Int) by omega)]
  rfl
theorem mayR_at {j : Nat} {rpeer : Int} {ps : List PeerV} {q : PeerV} (hq : ps[j]? = some q) (h : (rpeer == (j : Int)) = false) (rkind : Int) (cm : List Int) : mayR (j : Int) ps rpeer rkind cm = mayT q ps rpeer rkind cm := by
  have hj := (List.getElem?_eq_some_iff.1 hq).1
  unfold mayR
  rw [h, hasB_cast hj, Int.toNat_natCast, hq]
  rfl
theorem mayB_stop1 (v2 v3 : Bool) (pk rk : Int) (cl : Bool) : mayB true v2 v3 pk rk cl = false := by simp [mayB]
theorem mayB_stop2 {pk : Int} (h : (pk == 1) = true) (v3 : Bool) (rk : Int) (cl : Bool) : mayB false true v3 pk rk cl = false := by simp [mayB, h]
theorem mayB_stop3 {pk : Int} (h : (pk == 1) = true) (rk : Int) (cl : Bool) : mayB false false true pk rk cl = false := by simp [mayB, h]
theorem mayB_stop4 {pk : Int} (h : (pk == 2) = true) (v2 : Bool) (rk : Int) (cl : Bool) : mayB false v2 true pk rk cl = false := by simp [mayB, h]
theorem mayB_pass1 (pk rk : Int) (cl : Bool) : mayB false false false pk rk cl = (!(reflB rk pk) || cl) := by simp [mayB]
theorem mayB_pass2 {pk : Int} (h : (pk == 1) = false) (v2 : Bool) (rk : Int) (cl : Bool) : mayB false v2 false pk rk cl = (!(reflB rk pk) || cl) := by simp [mayB, h]
theorem mayB_pass3 {pk : Int} (h : (pk == 1) = false) (h2 : (pk == 2) = false) (v2 v3 : Bool) (rk : Int) (cl : Bool) : mayB false v2 v3 pk rk cl = (!(reflB rk pk) || cl) := by simp [mayB, h, h2]
theorem clientAt_at {j : Nat} {ps : List PeerV} {q : PeerV} (hq : ps[j]? = some q) : clientAt (j : Int) ps = q.client := by
  have hj := (List.getElem?_eq_some_iff.1 hq).1
  unfold clientAt
  rw [hasB_cast hj, Int.toNat_natCast, hq]
  rfl
set_option linter.unusedVariables false in
set_option linter.unusedSimpArgs false in
set_option maxRecDepth 100000 in
set_option maxHeartbeats 8000000 in
theorem may_any (asn cfd rtr clt : Int) (QA na g0 g1 g2 g3 : Option Addr) (qn qc nn nc m0 c0 m1 c1 m2 c2 m3 c3 : Nat) (d0 d1 d2 d3 mul : Int) (rpa rpl : Int) (og hop med pref aas aad ori : Int) (hm hp atm ha ho : Bool) (pA cA kA uA : Option Addr) (pn pc cn cc kn kc un uc : Nat) (p us : Path) (cm cl : List Int) (rpeer rkind rrtr : Int) (stale : Bool) (ti : Int) (ps : List PeerV) (w : World) (hQ : Peers w w.heap.size QA qn qc ps) (hL : Lists w w.heap.size pA cA kA uA pn pc cn cc kn kc un uc p cm cl us) :
    Calls Try.prog 14 #[.agg #[.int .i64 asn, .int .i64 cfd, .int .u32 rtr, .int .u32 clt, .slice QA qn qc, .slice na nn nc, .slice g0 m0 c0, .slice g1 m1 c1, .slice g2 m2 c2, .slice g3 m3 c3, .int .i64 d0, .int .i64 d1, .int .i64 d2, .int .i64 d3, .int .i64 mul], .agg #[.int .u32 rpa, .int .i64 rpl, .int .i64 og, .slice pA pn pc, .int .u32 hop, .bool hm, .int .i64 med, .bool hp, .int .i64 pref, .bool atm, .bool ha, .int .i64 aas, .int .u32 aad, .slice cA cn cc, .bool ho, .int .u32 ori, .slice kA kn kc, .slice uA un uc, .int .i64 rpeer, .int .i64 rkind, .int .u32 rrtr, .bool stale], .int .i64 ti] w fun e w' => e = .returned (.bool (mayR ti ps rpeer rkind cm)) ∧ Below w.heap.size w w' := by
  have HQ := Lib.hid hQ
  have HQL := Lib.hid hQ.len
  have hcn : cn ≤ 140737488355328 := by have := hL.small; omega
  obtain ⟨w1, hw1⟩ : ∃ w1, (w.alloc (.cells #[.int .i64 asn, .int .i64 cfd, .int .u32 rtr, .int .u32 clt, .slice QA qn qc, .slice na nn nc, .slice g0 m0 c0, .slice g1 m1 c1, .slice g2 m2 c2, .slice g3 m3 c3, .int .i64 d0, .int .i64 d1, .int .i64 d2, .int .i64 d3, .int .i64 mul] 34)).alloc (.cells #[.int .u32 rpa, .int .i64 rpl, .int .i64 og, .slice pA pn pc, .int .u32 hop, .bool hm, .int .i64 med, .bool hp, .int .i64 pref, .bool atm, .bool ha, .int .i64 aas, .int .u32 aad, .slice cA cn cc, .bool ho, .int .u32 ori, .slice kA kn kc, .slice uA un uc, .int .i64 rpeer, .int .i64 rkind, .int .u32 rrtr, .bool stale] 49) = w1 := ⟨_, rfl⟩
  have hbC : Blk w1 w.heap.size 34 [.int .i64 asn, .int .i64 cfd, .int .u32 rtr, .int .u32 clt, .slice QA qn qc, .slice na nn nc, .slice g0 m0 c0, .slice g1 m1 c1, .slice g2 m2 c2, .slice g3 m3 c3, .int .i64 d0, .int .i64 d1, .int .i64 d2, .int .i64 d3, .int .i64 mul] := by rw [← hw1]; exact (Blk.new w _ _).keep (belowA _ _)
  have hbA : Blk w1 (w.heap.size + 1) 49 [.int .u32 rpa, .int .i64 rpl, .int .i64 og, .slice pA pn pc, .int .u32 hop, .bool hm, .int .i64 med, .bool hp, .int .i64 pref, .bool atm, .bool ha, .int .i64 aas, .int .u32 aad, .slice cA cn cc, .bool ho, .int .u32 ori, .slice kA kn kc, .slice uA un uc, .int .i64 rpeer, .int .i64 rkind, .int .u32 rrtr, .bool stale] := by rw [← hw1]; exact Blk.new2 w _ _ _
  have hb1 : Below w.heap.size w w1 := by rw [← hw1]; exact below3 (belowA _ _) (belowA _ _)
  have HB1 := Lib.hid hb1
  have HKC := Lib.hid hbC
  have HKA := Lib.hid hbA
  have HM := Lib.hid hL.comm
  have hlt : w.heap.size + 1 < w1.heap.size := hbA.lt
  have hlt0 : w.heap.size < w1.heap.size := by omega
  clear hQ hL hbC hbA hb1
  have cf0 := HKC.out.cell 0
  have cf1 := HKC.out.cell 1
  have cf2 := HKC.out.cell 2
  have cf3 := HKC.out.cell 3
  have cf4 := HKC.out.cell 4
  have cf5 := HKC.out.cell 5
  have cf6 := HKC.out.cell 6
  have cf7 := HKC.out.cell 7
  have cf8 := HKC.out.cell 8
  have cf9 := HKC.out.cell 9
  have cf10 := HKC.out.cell 10
  have cf11 := HKC.out.cell 11
  have cf12 := HKC.out.cell 12
  have cf13 := HKC.out.cell 13
  have cf14 := HKC.out.cell 14
  simp only [List.getElem?_cons_zero, List.getElem?_cons_succ] at cf0 cf1 cf2 cf3 cf4 cf5 cf6 cf7 cf8 cf9 cf10 cf11 cf12 cf13 cf14
  have HC := Lib.hid (has41_any asn cfd rtr clt QA na g0 g1 g2 g3 qn qc nn nc m0 c0 m1 c1 m2 c2 m3 c3 d0 d1 d2 d3 mul ti w1)
  go_enter Try.func14, Try.ntmps14
  go_wp2_with fail
  refine HC.out.mono ?_
  rintro e w2 ⟨rfl, hb⟩
  clear cf0 cf1 cf2 cf3 cf4 cf5 cf6 cf7 cf8 cf9 cf10 cf11 cf12 cf13 cf14 hw1 HC
  have HKC2 := Lib.hid (HKC.out.keep hb)
  have HKA2 := Lib.hid (HKA.out.keep hb)
  have HB2 := Lib.hid (below3 HB1.out hb)
  have hlt2 : w.heap.size + 1 < w2.heap.size := HKA2.out.lt
  have hlt20 : w.heap.size < w2.heap.size := by omega
  clear hb HKC HKA HB1 hlt hlt0
  obtain ⟨hh, hhe⟩ : ∃ b, hasB ti qn = b := ⟨_, rfl⟩
  rw [hhe]
  cases hh
  case false =>
    have HF := Lib.hid (mayR_no (ti := ti) (ps := ps) (by rw [HQL.out]; exact hhe) rpeer rkind cm)
    clear hhe
    go_wp2
    go_ret
    exact ⟨by rw [HF.out]; rfl, HB2.out⟩
  obtain ⟨j, rfl, hj⟩ := hasB_nat hhe
  clear hhe
  have hji : (0 : Int) ≤ (j : Int) := by omega
  have hji2 : (j : Int) < (qn : Int) := by omega
  have r13 := HKA2.out.cell 13
  have r18 := HKA2.out.cell 18
  have cf4 := HKC2.out.cell 4
  simp only [List.getElem?_cons_zero, List.getElem?_cons_succ] at r13 r18 cf4
  cases hown : (rpeer == (j : Int))
  case true =>
    have HF := Lib.hid (mayR_own (ps := ps) hown rkind cm)
    go_wp2
    go_ret
    exact ⟨by rw [HF.out]; rfl, HB2.out⟩
  obtain ⟨qb, qo, q, rfl, hqb, hq, q0, q1, q2, q3, q4, q5, q6, q7, q8, q9, q10⟩ := Peers.get (HQ.out.below HB2.out) hj
  have HF := Lib.hid (mayR_at hq.out hown rkind cm)
  obtain ⟨pk, pas, padr, ploc, pcli, phold, prest, pimp, pexp, pself, pdamp⟩ := q
  dsimp only at q0 q1 q2 q3 q4 q5 q6 q7 q8 q9 q10
  obtain ⟨QA, hqa⟩ : ∃ Q : Option Addr, Q = some ⟨qb, qo, none⟩ := ⟨_, rfl⟩
  have HQA := Lib.hid hqa
  clear hqa
  have hqb3 : qb < w2.heap.size := by have := HB2.out.size; omega
  unfold mayT at HF
  dsimp only at HF
  obtain ⟨w4, hw4⟩ : ∃ w4, w2.alloc (.cells #[.int .i64 pk, .int .i64 pas, .int .u32 padr, .int .u32 ploc, .bool pcli, .int .i64 phold, .int .i64 prest, .string pimp, .string pexp, .bool pself, .bool pdamp] 66) = w4 := ⟨_, rfl⟩
  have hbP : Blk w4 w2.heap.size 66 [.int .i64 pk, .int .i64 pas, .int .u32 padr, .int .u32 ploc, .bool pcli, .int .i64 phold, .int .i64 prest, .string pimp, .string pexp, .bool pself, .bool pdamp] := by rw [← hw4]; exact Blk.new w2 _ _
  have hb4 : Below w2.heap.size w2 w4 := by rw [← hw4]; exact belowA _ _
  have HKP := Lib.hid hbP
  have HB4 := Lib.hid (below3 HB2.out hb4)
  have HM4 : Hid (Ints w4 w.heap.size .u32 cA cn cc cm) := HM.out.below HB4.out
  have HKC4 := Lib.hid (HKC2.out.keep hb4)
  have HKA4 := Lib.hid (HKA2.out.keep hb4)
  have hlt4 : w2.heap.size < w4.heap.size := hbP.lt
  have hlt41 : w.heap.size + 1 < w4.heap.size := HKA4.out.lt
  have hlt40 : w.heap.size < w4.heap.size := by omega
  clear hbP hb4 hq
  go_upto_region 4 with fail
  try rw [hw4]
  clear hw4 cf4 r13 r18 q0 q1 q2 q3 q4 q5 q6 q7 q8 q9 q10 hlt2 hlt20 HKC2 HKA2 HB2
  have r13 := HKA4.out.cell 13
  have q0 := HKP.out.cell 0
  simp only [List.getElem?_cons_zero, List.getElem?_cons_succ] at r13 q0
  have HMA := Lib.hid (fun x : Int => commHas_any cA cn cc w.heap.size cm x w4 (HM4.out) hcn)
  obtain ⟨v1, hv1⟩ : ∃ b, memB cm 4294967042 = b := ⟨_, rfl⟩
  obtain ⟨v2, hv2⟩ : ∃ b, memB cm 4294967041 = b := ⟨_, rfl⟩
  obtain ⟨v3, hv3⟩ : ∃ b, memB cm 4294967043 = b := ⟨_, rfl⟩
  rw [hv1, hv2, hv3] at HF
  rw [HQL.out] at HF
  go_wp2_with fail
  refine (HMA.out _).mono ?_
  rintro e wX ⟨rfl, rfl⟩
  rw [hv1]
  cases v1
  case true =>
    rw [mayB_stop1] at HF
    go_wp2
    go_ret
    exact ⟨by rw [HF.out]; rfl, HB4.out⟩
  cases hk1 : (pk == 1)
  case' true =>
    go_wp2_with fail
    refine (HMA.out _).mono ?_
    rintro e wX ⟨rfl, rfl⟩
    rw [hv2]
    cases v2
    case true =>
      rw [mayB_stop2 hk1] at HF
      go_wp2
      go_ret
      exact ⟨by rw [HF.out]; rfl, HB4.out⟩
    go_wp2_with fail
    refine (HMA.out _).mono ?_
    rintro e wX ⟨rfl, rfl⟩
    rw [hv3]
    cases v3
    case true =>
      rw [mayB_stop3 hk1] at HF
      go_wp2
      go_ret
      exact ⟨by rw [HF.out]; rfl, HB4.out⟩
    rw [mayB_pass1] at HF
    obtain ⟨hk2, hk2e⟩ : ∃ b, b = (pk == 2) := ⟨_, rfl⟩
    obtain rfl : hk2 = false := by
      have : pk = 1 := by simpa using hk1
      rw [hk2e, this]
      rfl
    have hk2 := hk2e.symm
    clear hk2e
  case' false =>
    cases hk2 : (pk == 2)
    case' true =>
      go_wp2_with fail
      refine (HMA.out _).mono ?_
      rintro e wX ⟨rfl, rfl⟩
      rw [hv3]
      cases v3
      case true =>
        rw [mayB_stop4 hk2] at HF
        go_wp2
        go_ret
        exact ⟨by rw [HF.out]; rfl, HB4.out⟩
      rw [mayB_pass2 hk1] at HF
    case' false =>
      rw [mayB_pass3 hk1 hk2] at HF
  all_goals as_aux_lemma =>
    clear r13
    go_wp2_with (first | (refine wpList_load_blk rfl 49 _ rfl (w.heap.size + 1) rfl HKA4.out _ Try.underlying49 rfl (by kernel_rfl) ?_) | (refine wpList_load_blk rfl 66 _ rfl w2.heap.size rfl HKP.out _ Try.underlying66 rfl (by kernel_rfl) ?_))
    refine (reflected_any rpa rpl og hop med pref aas aad ori hm hp atm ha ho pA cA kA uA pn pc cn cc kn kc un uc p us cm cl rpeer rkind rrtr stale pk pas padr ploc pcli phold prest pimp pexp pself pdamp _).mono ?_
    rintro e w5 ⟨rfl, hb⟩
    have HKC5 := Lib.hid (HKC4.out.keep hb)
    have HKA5 := Lib.hid (HKA4.out.keep hb)
    have HKP5 := Lib.hid (HKP.out.keep hb)
    have HB5 := Lib.hid (below3 HB4.out hb)
    have hlt5 : w2.heap.size < w5.heap.size := HKP5.out.lt
    have hlt51 : w.heap.size + 1 < w5.heap.size := HKA5.out.lt
    have hlt50 : w.heap.size < w5.heap.size := by omega
    clear hb HKC4 HKA4 HKP HB4 hlt4 hlt41 hlt40
    obtain ⟨rb, hrb⟩ : ∃ b, reflB rkind pk = b := ⟨_, rfl⟩
    rw [hrb] at HF ⊢
    clear hrb
    cases rb
    case false =>
      go_wp2
      go_ret
      exact ⟨by rw [HF.out]; rfl, HB5.out⟩
    have r18 := HKA5.out.cell 18
    have q4 := HKP5.out.cell 4
    simp only [List.getElem?_cons_zero, List.getElem?_cons_succ] at r18 q4
    have cf0 := HKC5.out.cell 0
    have cf1 := HKC5.out.cell 1
    have cf2 := HKC5.out.cell 2
    have cf3 := HKC5.out.cell 3
    have cf4 := HKC5.out.cell 4
    have cf5 := HKC5.out.cell 5
    have cf6 := HKC5.out.cell 6
    have cf7 := HKC5.out.cell 7
    have cf8 := HKC5.out.cell 8
    have cf9 := HKC5.out.cell 9
    have cf10 := HKC5.out.cell 10
    have cf11 := HKC5.out.cell 11
    have cf12 := HKC5.out.cell 12
    have cf13 := HKC5.out.cell 13
    have cf14 := HKC5.out.cell 14
    simp only [List.getElem?_cons_zero, List.getElem?_cons_succ] at cf0 cf1 cf2 cf3 cf4 cf5 cf6 cf7 cf8 cf9 cf10 cf11 cf12 cf13 cf14
    go_wp2_with fail
    refine (has41_any asn cfd rtr clt (some ⟨qb, qo, none⟩) na g0 g1 g2 g3 qn qc nn nc m0 c0 m1 c1 m2 c2 m3 c3 d0 d1 d2 d3 mul rpeer w5).mono ?_
    rintro e w6 ⟨rfl, hb⟩
    clear r18 q4 cf0 cf1 cf2 cf3 cf4 cf5 cf6 cf7 cf8 cf9 cf10 cf11 cf12 cf13 cf14
    have HKC6 := Lib.hid (HKC5.out.keep hb)
    have HKA6 := Lib.hid (HKA5.out.keep hb)
    have HKP6 := Lib.hid (HKP5.out.keep hb)
    have HB6 := Lib.hid (below3 HB5.out hb)
    have hlt6 : w2.heap.size < w6.heap.size := HKP6.out.lt
    have hlt61 : w.heap.size + 1 < w6.heap.size := HKA6.out.lt
    have hlt60 : w.heap.size < w6.heap.size := by omega
    clear hb HKC5 HKA5 HKP5 HB5 hlt5 hlt51 hlt50
    obtain ⟨hh, hhe⟩ : ∃ b, hasB rpeer qn = b := ⟨_, rfl⟩
    rw [hhe] at HF ⊢
    cases hh
    case false =>
      go_wp2
      go_ret
      exact ⟨by rw [HF.out]; rfl, HB6.out⟩
    obtain ⟨j2, rfl, hj2⟩ := hasB_nat hhe
    clear hhe
    have hjk : (0 : Int) ≤ (j2 : Int) := by omega
    have hjk2 : (j2 : Int) < (qn : Int) := by omega
    obtain ⟨xb, xo, x, hxe, hxb, hx, x0, x1, x2, x3, x4, x5, x6, x7, x8, x9, x10⟩ := Peers.get (HQ.out.below HB6.out) hj2
    obtain ⟨rfl, rfl⟩ : xb = qb ∧ xo = qo := by
      simp only [Option.some.injEq, Addr.mk.injEq] at hxe
      exact ⟨hxe.1.symm, hxe.2.1.symm⟩
    rw [clientAt_at hx.out] at HF
    obtain ⟨xk, xas, xadr, xloc, xcli, xhold, xrest, ximp, xexp, xself, xdamp⟩ := x
    dsimp only at x4 HF
    clear x0 x1 x2 x3 x5 x6 x7 x8 x9 x10 hx hxe
    have hqb6 : xb < w6.heap.size := by omega
    have r18 := HKA6.out.cell 18
    have q4 := HKP6.out.cell 4
    have cf4 := HKC6.out.cell 4
    simp only [List.getElem?_cons_zero, List.getElem?_cons_succ] at r18 q4 cf4
    cases xcli
    all_goals
      go_wp2
      go_ret
      exact ⟨by rw [HF.out]; rfl, HB6.out⟩
end Go.Proofs.Ytojgohgeagbkbaa
