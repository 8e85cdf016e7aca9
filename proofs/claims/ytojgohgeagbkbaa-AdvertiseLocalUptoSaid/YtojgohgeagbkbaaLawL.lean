/- The law AdvertiseLocal: the walk. -/
import Derived.Test.YtojgohgeagbkbaaLrg
import Derived.Test.YtojgohgeagbkbaaPlL
import Derived.Test.YtojgohgeagbkbaaAwk
import Derived.Test.YtojgohgeagbkbaaOpr
import Derived.Deep.DeepCutAuto
namespace Go.Proofs.Ytojgohgeagbkbaa
open Go.RowKit

set_option linter.unusedVariables false
set_option linter.unusedSimpArgs false
set_option maxRecDepth 100000 in
set_option maxHeartbeats 8000000 in
theorem localLaw (asn cfd rtr clt : Int) (QA na g0 g1 g2 g3 : Option Addr) (qn qc nn nc m0 c0 m1 c1 m2 c2 m3 c3 : Nat) (d0 d1 d2 d3 mul : Int) (rpa rpl : Int) (og hop med pref aas aad ori : Int) (hm hp atm ha ho : Bool) (pA cA kA uA : Option Addr) (pn pc cn cc kn kc un uc : Nat) (p us : Path) (cm cl : List Int) (rpeer rkind rrtr : Int) (stale : Bool) (ti : Int) (ps : List PeerV) (w : World) (hQ : Peers w w.heap.size QA qn qc ps) (hL : Lists w w.heap.size pA cA kA uA pn pc cn cc kn kc un uc p cm cl us) (hs : (flat p).length ≤ 1048576) (hus : (flat us).length ≤ 1048576) :
    Calls Try.prog 9 #[.agg #[.int .i64 asn, .int .i64 cfd, .int .u32 rtr, .int .u32 clt, .slice QA qn qc, .slice na nn nc, .slice g0 m0 c0, .slice g1 m1 c1, .slice g2 m2 c2, .slice g3 m3 c3, .int .i64 d0, .int .i64 d1, .int .i64 d2, .int .i64 d3, .int .i64 mul], .agg #[.int .u32 rpa, .int .i64 rpl, .int .i64 og, .slice pA pn pc, .int .u32 hop, .bool hm, .int .i64 med, .bool hp, .int .i64 pref, .bool atm, .bool ha, .int .i64 aas, .int .u32 aad, .slice cA cn cc, .bool ho, .int .u32 ori, .slice kA kn kc, .slice uA un uc, .int .i64 rpeer, .int .i64 rkind, .int .u32 rrtr, .bool stale], .int .i64 ti] w fun e w' => e = .returned (.bool true) ∧ Below w.heap.size w w' := by
  have HQ := Lib.hid hQ
  have HL := Lib.hid hL
  obtain ⟨w1, hw1⟩ : ∃ w1, (w.alloc (.cells #[.int .i64 asn, .int .i64 cfd, .int .u32 rtr, .int .u32 clt, .slice QA qn qc, .slice na nn nc, .slice g0 m0 c0, .slice g1 m1 c1, .slice g2 m2 c2, .slice g3 m3 c3, .int .i64 d0, .int .i64 d1, .int .i64 d2, .int .i64 d3, .int .i64 mul] 34)).alloc (.cells #[.int .u32 rpa, .int .i64 rpl, .int .i64 og, .slice pA pn pc, .int .u32 hop, .bool hm, .int .i64 med, .bool hp, .int .i64 pref, .bool atm, .bool ha, .int .i64 aas, .int .u32 aad, .slice cA cn cc, .bool ho, .int .u32 ori, .slice kA kn kc, .slice uA un uc, .int .i64 rpeer, .int .i64 rkind, .int .u32 rrtr, .bool stale] 49) = w1 := ⟨_, rfl⟩
  have hbC : Blk w1 w.heap.size 34 [.int .i64 asn, .int .i64 cfd, .int .u32 rtr, .int .u32 clt, .slice QA qn qc, .slice na nn nc, .slice g0 m0 c0, .slice g1 m1 c1, .slice g2 m2 c2, .slice g3 m3 c3, .int .i64 d0, .int .i64 d1, .int .i64 d2, .int .i64 d3, .int .i64 mul] := by rw [← hw1]; exact (Blk.new w _ _).keep (belowA _ _)
  have hbA : Blk w1 (w.heap.size + 1) 49 [.int .u32 rpa, .int .i64 rpl, .int .i64 og, .slice pA pn pc, .int .u32 hop, .bool hm, .int .i64 med, .bool hp, .int .i64 pref, .bool atm, .bool ha, .int .i64 aas, .int .u32 aad, .slice cA cn cc, .bool ho, .int .u32 ori, .slice kA kn kc, .slice uA un uc, .int .i64 rpeer, .int .i64 rkind, .int .u32 rrtr, .bool stale] := by rw [← hw1]; exact Blk.new2 w _ _ _
  have hb1 : Below w.heap.size w w1 := by rw [← hw1]; exact below3 (belowA _ _) (belowA _ _)
  have HB1 := Lib.hid hb1
  have HKC := Lib.hid hbC
  have HKA := Lib.hid hbA
  have HC := Lib.hid (large36_any og hop med pref aas aad ori hm hp atm ha ho pA cA kA uA pn pc cn cc kn kc un uc p us cm cl w1 (HL.out.grow hb1 (Nat.le_refl _)) hs hus)
  have hpl := hL.path.len
  have hkl := hL.clus.len
  have HSZ : Hid (¬ 3000 < sizeR p cm cl us → p.length + (flat p).length ≤ 3000 ∧ kn ≤ 3000 ∧ (flat us).length ≤ 100000) := by
    intro h
    have h1 := flat_bits8 us
    unfold sizeR size0 bits8 at h
    omega
  have hlt1 : w.heap.size + 1 < w1.heap.size := hbA.lt
  have r0 := HKA.out.cell 0
  have r1 := HKA.out.cell 1
  have r2 := HKA.out.cell 2
  have r3 := HKA.out.cell 3
  have r4 := HKA.out.cell 4
  have r5 := HKA.out.cell 5
  have r6 := HKA.out.cell 6
  have r7 := HKA.out.cell 7
  have r8 := HKA.out.cell 8
  have r9 := HKA.out.cell 9
  have r10 := HKA.out.cell 10
  have r11 := HKA.out.cell 11
  have r12 := HKA.out.cell 12
  have r13 := HKA.out.cell 13
  have r14 := HKA.out.cell 14
  have r15 := HKA.out.cell 15
  have r16 := HKA.out.cell 16
  have r17 := HKA.out.cell 17
  have r18 := HKA.out.cell 18
  have r19 := HKA.out.cell 19
  have r20 := HKA.out.cell 20
  have r21 := HKA.out.cell 21
  simp only [List.getElem?_cons_zero, List.getElem?_cons_succ] at r0 r1 r2 r3 r4 r5 r6 r7 r8 r9 r10 r11 r12 r13 r14 r15 r16 r17 r18 r19 r20 r21
  clear hQ hL hbC hbA hb1 hpl hkl
  go_enter Try.func9, Try.ntmps9
  go_wp2_with fail
  refine HC.out.mono ?_
  rintro e w2 ⟨rfl, hb⟩
  clear HC hw1 hlt1 r0 r1 r2 r3 r4 r5 r6 r7 r8 r9 r10 r11 r12 r13 r14 r15 r16 r17 r18 r19 r20 r21
  have HKC2 := Lib.hid (HKC.out.keep hb)
  have HKA2 := Lib.hid (HKA.out.keep hb)
  have HB2 := Lib.hid (HB1.out.trans (hb.mono HB1.out.size))
  clear hb HKC HKA HB1
  by_cases hl : 3000 < sizeR p cm cl us
  case pos =>
    rw [decide_eq_true hl]
    clear hl HSZ
    go_wp2_with fail
    refine (awake41_any w2).mono ?_
    rintro e w3 ⟨rfl, hb⟩
    have HB3 := Lib.hid (below3 HB2.out hb)
    clear hb
    go_wp2
    go_ret
    exact ⟨rfl, HB3.out⟩
  have HSM := Lib.hid (HSZ.out hl)
  rw [decide_eq_false hl]
  clear hl HSZ
  have hlt : w.heap.size < w2.heap.size := HKC2.out.lt
  have c4 := HKC2.out.cell 4
  simp only [List.getElem?_cons_zero, List.getElem?_cons_succ] at c4
  by_cases h60 : 60 < qn
  case pos =>
    have d60 : decide ((qn : Int) > 60) = true := by simp; omega
    go_wp2_with fail
    refine (awake41_any w2).mono ?_
    rintro e w3 ⟨rfl, hb⟩
    have HB3 := Lib.hid (below3 HB2.out hb)
    clear hb
    go_wp2
    go_ret
    exact ⟨rfl, HB3.out⟩
  have d60 : decide ((qn : Int) > 60) = false := by simp; omega
  obtain ⟨⟨b, er⟩, hbr⟩ : ∃ x : Att × Int, attrsR ti ps asn cfd rtr clt rpeer rkind rrtr ⟨og, p, hop, hm, med, hp, pref, atm, ha, aas, aad, cm, ho, ori, cl, us⟩ = x := ⟨_, rfl⟩
  have HBR := Lib.hid hbr
  have HC := Lib.hid (attrs_any asn cfd rtr clt QA na g0 g1 g2 g3 qn qc nn nc m0 c0 m1 c1 m2 c2 m3 c3 d0 d1 d2 d3 mul rpa rpl og hop med pref aas aad ori hm hp atm ha ho pA cA kA uA pn pc cn cc kn kc un uc p us cm cl rpeer rkind rrtr stale ti ps w2 ((HQ.out.below HB2.out).more HB2.out.size) (HL.out.grow HB2.out (Nat.le_refl _)) (by have := HSM.out; unfold Sm; omega) (by have := HSM.out; omega) (by have := HSM.out; omega))
  rw [hbr] at HC
  clear hbr hs hus
  go_wp2_with (first | (refine wpList_load_blk rfl 34 _ rfl w.heap.size rfl HKC2.out _ Try.underlying34 rfl (by kernel_rfl) ?_) | (refine wpList_load_blk rfl 49 _ rfl (w.heap.size + 1) rfl HKA2.out _ Try.underlying49 rfl (by kernel_rfl) ?_))
  refine HC.out.mono ?_
  clear HC c4 d60 h60 hlt
  obtain ⟨og', p', hop', hm', med', hp', pref', atm', ha', aas', aad', cm', ho', ori', cl', us'⟩ := b
  rintro e w3 ⟨pA', cA', kA', uA', pn', pc', cn', cc', kn', kc', un', uc', rfl, hL3, hb⟩
  dsimp only at hL3 ⊢
  have HL3 := Lib.hid hL3
  have HKC3 := Lib.hid (HKC2.out.keep hb)
  have HKA3 := Lib.hid (HKA2.out.keep hb)
  have HB3 := Lib.hid (below3 HB2.out hb)
  clear hb hL3 HKC2 HKA2 HB2
  have HZ5 : Hid (Blk (w3.alloc (.cells #[.int .i64 0, .slice none 0 0, .int .u32 0, .bool false, .int .i64 0, .bool false, .int .i64 0, .bool false, .bool false, .int .i64 0, .int .u32 0, .slice none 0 0, .bool false, .int .u32 0, .slice none 0 0, .slice none 0 0] 40)) w3.heap.size 40 [.int .i64 0, .slice none 0 0, .int .u32 0, .bool false, .int .i64 0, .bool false, .int .i64 0, .bool false, .bool false, .int .i64 0, .int .u32 0, .slice none 0 0, .bool false, .int .u32 0, .slice none 0 0, .slice none 0 0]) := Blk.new w3 _ _
  obtain ⟨w5, hw5⟩ : ∃ w5, (w3.alloc (.cells #[.int .i64 0, .slice none 0 0, .int .u32 0, .bool false, .int .i64 0, .bool false, .int .i64 0, .bool false, .bool false, .int .i64 0, .int .u32 0, .slice none 0 0, .bool false, .int .u32 0, .slice none 0 0, .slice none 0 0] 40)).setRow w3.heap.size #[.int .i64 og', .slice pA' pn' pc', .int .u32 hop', .bool hm', .int .i64 med', .bool hp', .int .i64 pref', .bool atm', .bool ha', .int .i64 aas', .int .u32 aad', .slice cA' cn' cc', .bool ho', .int .u32 ori', .slice kA' kn' kc', .slice uA' un' uc'] = w5 := ⟨_, rfl⟩
  have hbX : Blk w5 w3.heap.size 40 [.int .i64 og', .slice pA' pn' pc', .int .u32 hop', .bool hm', .int .i64 med', .bool hp', .int .i64 pref', .bool atm', .bool ha', .int .i64 aas', .int .u32 aad', .slice cA' cn' cc', .bool ho', .int .u32 ori', .slice kA' kn' kc', .slice uA' un' uc'] := by rw [← hw5]; exact (box_new [.int .i64 0, .slice none 0 0, .int .u32 0, .bool false, .int .i64 0, .bool false, .int .i64 0, .bool false, .bool false, .int .i64 0, .int .u32 0, .slice none 0 0, .bool false, .int .u32 0, .slice none 0 0, .slice none 0 0] _).1
  have hb5 : Below w3.heap.size w3 w5 := by rw [← hw5]; exact (box_new [.int .i64 0, .slice none 0 0, .int .u32 0, .bool false, .int .i64 0, .bool false, .int .i64 0, .bool false, .bool false, .int .i64 0, .int .u32 0, .slice none 0 0, .bool false, .int .u32 0, .slice none 0 0, .slice none 0 0] _).2
  have HKX := Lib.hid hbX
  have HKC5 := Lib.hid (HKC3.out.keep hb5)
  have HKA5 := Lib.hid (HKA3.out.keep hb5)
  have HB5 := Lib.hid (below3 HB3.out hb5)
  have HL5 := Lib.hid (HL3.out.grow hb5 (Nat.le_refl _))
  clear hbX hb5
  go_upto_region 4 with (refine wpList_store_blk (cs := [.int .i64 og', .slice pA' pn' pc', .int .u32 hop', .bool hm', .int .i64 med', .bool hp', .int .i64 pref', .bool atm', .bool ha', .int .i64 aas', .int .u32 aad', .slice cA' cn' cc', .bool ho', .int .u32 ori', .slice kA' kn' kc', .slice uA' un' uc']) rfl 40 _ _ rfl w3.heap.size rfl rfl HZ5.out (by kernel_rfl) rfl (by kernel_rfl) ?_)
  try rw [hw5]
  obtain ⟨M, hM⟩ : ∃ M, w3.heap.size = M := ⟨_, rfl⟩
  rw [hM] at HKX ⊢
  clear hw5 HZ5 HKC3 HKA3 HB3 HL3 hM
  cases her : (er == 0)
  case false =>
    have hne : (er != 0) = true := by simpa using her
    clear her
    go_wp2_with fail
    refine (awake41_any w5).mono ?_
    rintro e w6 ⟨rfl, hb⟩
    have HB6 := Lib.hid (below3 HB5.out hb)
    clear hb
    go_wp2
    go_ret
    exact ⟨rfl, HB6.out⟩
  obtain rfl : er = 0 := by simpa using her
  clear her
  obtain ⟨j, q, rfl, hq, hch, hatt⟩ := attrs_ok HBR.out
  have hp64 := attErr_len2 hatt
  dsimp only at hp64
  have HP64 := Lib.hid hp64
  clear hatt hp64
  have HCH := Lib.hid hch
  have HQ5 : Hid (Peers w5 w.heap.size QA qn qc ps) := HQ.out.below HB5.out
  have hql := HQ5.out.len
  have hjn : j < qn := by rw [← hql]; exact (List.getElem?_eq_some_iff.1 hq).1
  obtain ⟨bq, oq, q', rfl, hbq, hq', k0, _⟩ := HQ5.out.get hjn
  obtain rfl : q' = q := Option.some.inj (hq'.out.symm.trans hq)
  have hjI : (j : Int) < (qn : Int) := by omega
  have hlt5 : w.heap.size < w5.heap.size := HKC5.out.lt
  have hbq5 : bq < w5.heap.size := by omega
  have c4 := HKC5.out.cell 4
  simp only [List.getElem?_cons_zero, List.getElem?_cons_succ] at c4
  clear hq hch hq' hql
  by_cases hk1 : q'.kind = 1
  case neg =>
    have hk1' : (q'.kind != 1) = true := by simpa using hk1
    clear hk1
    go_wp2_with fail
    refine (awake41_any w5).mono ?_
    rintro e w6 ⟨rfl, hb⟩
    have HB6 := Lib.hid (below3 HB5.out hb)
    clear hb
    go_wp2
    go_ret
    exact ⟨rfl, HB6.out⟩
  obtain ⟨l1, l2, l3, l4, l5, l6, _, _⟩ := local_ok hk1 HCH.out
  dsimp only at l1 l2 l3 l4 l5 l6
  subst l1
  subst l2
  subst l3
  subst l6
  obtain rfl : kn' = 0 := by have := HL5.out.clus.len; simpa using this.symm
  have hpn' := HL5.out.path.len
  have H4 := Lib.hid l4
  have H5 := Lib.hid l5
  have HPN := Lib.hid hpn'
  clear l4 l5 hpn' HCH HBR
  rw [hk1] at k0
  clear hk1
  have r3 := HKA5.out.cell 3
  simp only [List.getElem?_cons_zero, List.getElem?_cons_succ] at r3
  have hlt6 : w.heap.size + 1 < w5.heap.size := HKA5.out.lt
  have hsm : Sm p := by have := HSM.out; unfold Sm; omega
  have HSMP := Lib.hid hsm
  have hpl : pn ≤ 3000 := by have h1 := HL.out.path.len; have h2 := HSM.out; omega
  clear hsm
  go_wp2_with fail
  refine (refStrip_any pA pn pc w.heap.size p w5 (HL.out.below HB5.out).path HB5.out.size HSMP.out).mono ?_
  rintro e w6 ⟨A6, m6, c6, rfl, ho6, hb6⟩
  have hm6 := ho6.len
  have hsl : (stripR p).length ≤ p.length := List.length_filter_le _ _
  have hsf : (flat (stripR p)).length ≤ 3000 := by have h1 := flat_strip_le p; have h2 := HSM.out; omega
  have hm6b : m6 ≤ 3000 := by have h2 := HSM.out; omega
  have HO6 := Lib.hid ho6.segs
  have HB6 := Lib.hid (below3 HB5.out hb6)
  have HKX6 := Lib.hid (HKX.out.keep hb6)
  have HKA6 := Lib.hid (HKA5.out.keep hb6)
  have HL6 := Lib.hid (HL5.out.grow hb6 (Nat.le_refl _))
  clear hb6 ho6 HB5 HKX HKA5 HL5 k0 c4 r3 hlt5 hlt6 hbq5 HKC5 HQ5 hsl hm6
  go_wp2_with fail
  refine (refFlat_any A6 m6 c6 (stripR p) w6 HO6.out (by omega) (by omega)).mono ?_
  rintro e w7 ⟨A7, c7, rfl, ho7, hb7⟩
  have HB7 := Lib.hid (below3 HB6.out hb7)
  have HKX7 := Lib.hid (HKX6.out.keep hb7)
  have HKA7 := Lib.hid (HKA6.out.keep hb7)
  have HL7 := Lib.hid (HL6.out.grow hb7 (Nat.le_refl _))
  clear hb7 ho7 HB6 HKX6 HKA6 HL6 HO6
  obtain ⟨n1, hn1⟩ : ∃ n1, (flat (stripR p)).length = n1 := ⟨_, rfl⟩
  rw [hn1] at H5 hsf ⊢
  clear hn1
  have hf7 : (flat p').length ≤ 3001 := by have := H5.out; omega
  have hpn7 : pn' ≤ 1000000000 := HL7.out.small.1
  have HEQ : Hid ((((flat p').length : Int) == (n1 : Int) + 1) = true) := by have := H5.out; show _ = _; simp; omega
  obtain ⟨f7, hf7e⟩ : ∃ f7, (flat p').length = f7 := ⟨_, rfl⟩
  have HF7 := Lib.hid hf7e
  have hsm' : Sm p' := by have h1 := HP64.out; unfold Sm; omega
  have HSM' := Lib.hid hsm'
  have HS : Hid (∀ V, Below w7.heap.size w7 V → V.cell? ⟨M, 5, none⟩ = some (.bool false) ∧ V.cell? ⟨M, 12, none⟩ = some (.bool false) ∧ V.cell? ⟨M, 14, none⟩ = some (.slice kA' 0 kc') ∧ V.cell? ⟨M, 1, none⟩ = some (.slice pA' pn' pc') ∧ V.cell? ⟨M, 11, none⟩ = some (.slice cA' cn' cc') ∧ V.cell? ⟨w.heap.size + 1, 13, none⟩ = some (.slice cA cn cc)) := fun V h => ⟨(HKX7.out.keep h).cell 5, (HKX7.out.keep h).cell 12, (HKX7.out.keep h).cell 14, (HKX7.out.keep h).cell 1, (HKX7.out.keep h).cell 11, (HKA7.out.keep h).cell 13⟩
  have HC0 : Hid (Below w7.heap.size w7 w7.drew) := (Below.refl _ _).drew
  rw [hf7e] at HEQ hf7
  have heq : ((f7 : Int) == IntKind.i64.wrap ((n1 : Int) + 1)) = true := by rw [IntWalk.i64_in _ (by omega)]; exact HEQ.out
  clear hsm' hf7e HEQ
  go_upto_region 7 with fail
  refine wp_region_noPanic ?_
  refine wp_region_held_drew (S := fun V => V.cell? ⟨M, 5, none⟩ = some (.bool false) ∧ V.cell? ⟨M, 12, none⟩ = some (.bool false) ∧ V.cell? ⟨M, 14, none⟩ = some (.slice kA' 0 kc') ∧ V.cell? ⟨M, 1, none⟩ = some (.slice pA' pn' pc') ∧ V.cell? ⟨M, 11, none⟩ = some (.slice cA' cn' cc') ∧ V.cell? ⟨w.heap.size + 1, 13, none⟩ = some (.slice cA cn cc)) (by kernel_rfl) (HS.out _ HC0.out) (fun hHeld => ?_)
  refine take_in (i := 0) _ (some 45) (by kernel_rfl) (by kernel_rfl) (by kernel_rfl) (by kernel_rfl) (fun _ _ _ h => h) (by rfl) (fun o ho w hSw => by cases ho; (try dsimp only at hSw); (try go_split_ands); go_simp; (try with_reducible rfl)) hHeld ?_
  try simp only [Act.put, List.setIfInBounds_toArray, List.set_cons_zero, List.set_cons_succ]
  refine take_in (i := 1) _ (some 46) (by kernel_rfl) (by kernel_rfl) (by kernel_rfl) (by kernel_rfl) (fun _ _ _ h => h) (by rfl) (fun o ho w hSw => by cases ho; (try dsimp only at hSw); (try go_split_ands); go_simp; (try with_reducible rfl)) hHeld ?_
  try simp only [Act.put, List.setIfInBounds_toArray, List.set_cons_zero, List.set_cons_succ]
  refine take_in (i := 2) _ (some 47) (by kernel_rfl) (by kernel_rfl) (by kernel_rfl) (by kernel_rfl) (fun _ _ _ h => h) (by rfl) (fun o ho w hSw => by cases ho; (try dsimp only at hSw); (try go_split_ands); go_simp; (try with_reducible rfl)) hHeld ?_
  try simp only [Act.put, List.setIfInBounds_toArray, List.set_cons_zero, List.set_cons_succ]
  refine take_in (i := 3) _ (some 48) (by kernel_rfl) (by kernel_rfl) (by kernel_rfl) (by kernel_rfl) (fun _ _ _ h => h) (by rfl) (fun o ho w hSw => by cases ho; (try dsimp only at hSw); (try go_split_ands); go_simp; (try with_reducible rfl)) hHeld ?_
  try simp only [Act.put, List.setIfInBounds_toArray, List.set_cons_zero, List.set_cons_succ]
  refine take_in (i := 4) _ (some 49) (by kernel_rfl) (by kernel_rfl) (by kernel_rfl) (by kernel_rfl) (fun _ _ _ h => h) (by rfl) (fun o ho w hSw => by cases ho; (try dsimp only at hSw); (try go_split_ands); go_simp; (try with_reducible rfl)) hHeld ?_
  try simp only [Act.put, List.setIfInBounds_toArray, List.set_cons_zero, List.set_cons_succ]
  refine take_in (i := 5) _ (some 50) (by kernel_rfl) (by kernel_rfl) (by kernel_rfl) (by kernel_rfl) (fun _ _ _ h => h) (by rfl) (fun o ho w hSw => by cases ho; (try dsimp only at hSw); (try go_split_ands); go_simp; (try with_reducible rfl)) hHeld ?_
  try simp only [Act.put, List.setIfInBounds_toArray, List.set_cons_zero, List.set_cons_succ]
  refine take_in (i := 6) _ (some 51) (by kernel_rfl) (by kernel_rfl) (by kernel_rfl) (by kernel_rfl) (fun _ _ _ h => h) (by rfl) (fun o ho w hSw => by cases ho; (try dsimp only at hSw); (try go_split_ands); go_simp; (try with_reducible rfl)) hHeld ?_
  try simp only [Act.put, List.setIfInBounds_toArray, List.set_cons_zero, List.set_cons_succ]
  refine take_in (i := 7) _ (some 52) (by kernel_rfl) (by kernel_rfl) (by kernel_rfl) (by kernel_rfl) (fun _ _ _ h => h) (by rfl) (fun o ho w hSw => by cases ho; (try dsimp only at hSw); (try go_split_ands); go_simp; (try with_reducible rfl)) hHeld ?_
  try simp only [Act.put, List.setIfInBounds_toArray, List.set_cons_zero, List.set_cons_succ]
  refine take_in (i := 8) _ (some 53) (by kernel_rfl) (by kernel_rfl) (by kernel_rfl) (by kernel_rfl) (fun _ _ _ h => h) (by rfl) (fun o ho w hSw => by cases ho; (try dsimp only at hSw); (try go_split_ands); go_simp; (try with_reducible rfl)) hHeld ?_
  try simp only [Act.put, List.setIfInBounds_toArray, List.set_cons_zero, List.set_cons_succ]
  refine take_in (i := 9) _ (some 54) (by kernel_rfl) (by kernel_rfl) (by kernel_rfl) (by kernel_rfl) (fun _ _ _ h => h) (by rfl) (fun o ho w hSw => by cases ho; (try dsimp only at hSw); (try go_split_ands); go_simp; (try with_reducible rfl)) hHeld ?_
  try simp only [Act.put, List.setIfInBounds_toArray, List.set_cons_zero, List.set_cons_succ]
  refine take_in (i := 10) _ (some 55) (by kernel_rfl) (by kernel_rfl) (by kernel_rfl) (by kernel_rfl) (fun _ _ _ h => h) (by rfl) (fun o ho w hSw => by cases ho; (try dsimp only at hSw); (try go_split_ands); go_simp; (try with_reducible rfl)) hHeld ?_
  try simp only [Act.put, List.setIfInBounds_toArray, List.set_cons_zero, List.set_cons_succ]
  refine take_in (i := 11) _ (some 56) (by kernel_rfl) (by kernel_rfl) (by kernel_rfl) (by kernel_rfl) (fun _ _ _ h => h) (by rfl) (fun o ho w hSw => by cases ho; (try dsimp only at hSw); (try go_split_ands); go_simp; (try with_reducible rfl)) hHeld ?_
  try simp only [Act.put, List.setIfInBounds_toArray, List.set_cons_zero, List.set_cons_succ]
  refine take_in (i := 12) _ (some 57) (by kernel_rfl) (by kernel_rfl) (by kernel_rfl) (by kernel_rfl) (fun _ _ _ h => h) (by rfl) (fun o ho w hSw => by cases ho; (try dsimp only at hSw); (try go_split_ands); go_simp; (try with_reducible rfl)) hHeld ?_
  try simp only [Act.put, List.setIfInBounds_toArray, List.set_cons_zero, List.set_cons_succ]
  refine take_in (i := 13) _ (some 58) (by kernel_rfl) (by kernel_rfl) (by kernel_rfl) (by kernel_rfl) (fun _ _ _ h => h) (by rfl) (fun o ho w hSw => by cases ho; (try dsimp only at hSw); (try go_split_ands); go_simp; (try with_reducible rfl)) hHeld ?_
  try simp only [Act.put, List.setIfInBounds_toArray, List.set_cons_zero, List.set_cons_succ]
  refine take_in (i := 14) _ (some 59) (by kernel_rfl) (by kernel_rfl) (by kernel_rfl) (by kernel_rfl) (fun _ _ _ h => h) (by rfl) (fun o ho w hSw => by cases ho; (try dsimp only at hSw); (try go_split_ands); go_simp; (try with_reducible rfl)) hHeld ?_
  try simp only [Act.put, List.setIfInBounds_toArray, List.set_cons_zero, List.set_cons_succ]
  refine take_in (i := 15) _ (some 60) (by kernel_rfl) (by kernel_rfl) (by kernel_rfl) (by kernel_rfl) (fun _ _ _ h => h) (by rfl) (fun o ho w hSw => by cases ho; (try dsimp only at hSw); (try go_split_ands); go_simp; (try with_reducible rfl)) hHeld ?_
  try simp only [Act.put, List.setIfInBounds_toArray, List.set_cons_zero, List.set_cons_succ]
  refine take_in (i := 16) _ (some 61) (by kernel_rfl) (by kernel_rfl) (by kernel_rfl) (by kernel_rfl) (fun _ _ _ h => h) (by rfl) (fun o ho w hSw => by cases ho; (try dsimp only at hSw); (try go_split_ands); go_simp; (try with_reducible rfl)) hHeld ?_
  try simp only [Act.put, List.setIfInBounds_toArray, List.set_cons_zero, List.set_cons_succ]
  refine take_in (i := 19) _ (some 64) (by kernel_rfl) (by kernel_rfl) (by kernel_rfl) (by kernel_rfl) (fun _ _ _ h => h) (by rfl) (fun o ho w hSw => by cases ho; (try dsimp only at hSw); (try go_split_ands); go_simp; (try with_reducible rfl)) hHeld ?_
  try simp only [Act.put, List.setIfInBounds_toArray, List.set_cons_zero, List.set_cons_succ]
  refine take_in (i := 20) _ (some 65) (by kernel_rfl) (by kernel_rfl) (by kernel_rfl) (by kernel_rfl) (fun _ _ _ h => h) (by rfl) (fun o ho w hSw => by cases ho; (try dsimp only at hSw); (try go_split_ands); go_simp; (try with_reducible rfl)) hHeld ?_
  try simp only [Act.put, List.setIfInBounds_toArray, List.set_cons_zero, List.set_cons_succ]
  refine take_in (i := 21) _ (some 66) (by kernel_rfl) (by kernel_rfl) (by kernel_rfl) (by kernel_rfl) (fun _ _ _ h => h) (by rfl) (fun o ho w hSw => by cases ho; (try dsimp only at hSw); (try go_split_ands); go_simp; (try with_reducible rfl)) hHeld ?_
  try simp only [Act.put, List.setIfInBounds_toArray, List.set_cons_zero, List.set_cons_succ]
  refine wpAnyH_ready (rs := [17]) (by kernel_rfl) (by simp) ?_
  refine AllReadyH.cons (o := _) rfl (fun K hK => ?_) AllReadyH.nil
  go_simp
  go_at_call 27
  with_reducible refine (refStrip_any pA' pn' pc' _ p' _ (HL7.out.grow HC0.out (Nat.le_refl _)).path (Nat.le_refl _) HSM'.out).mono ?_
  rintro e wX ⟨A8, m8, c8, rfl, ho8, hb8⟩
  have hm8 : m8 = pn' := by have h1 := ho8.len; have h2 := H4.out; have h3 := HPN.out; rw [← h1, h2, h3]
  subst hm8
  have HCX := Lib.hid (below3 HC0.out hb8)
  clear hb8 ho8
  refine hK.out _ _ (HS.out _ HCX.out) (fun hHeld => ?_)
  clear hK K
  try simp only [Act.put, List.setIfInBounds_toArray, List.set_cons_zero, List.set_cons_succ]
  refine take_in (i := 18) _ (some 63) (by kernel_rfl) (by kernel_rfl) (by kernel_rfl) (by kernel_rfl) (fun _ _ _ h => h) (by rfl) (fun o ho w hSw => by cases ho; (try dsimp only at hSw); (try go_split_ands); go_simp; (try with_reducible rfl)) hHeld ?_
  try simp only [Act.put, List.setIfInBounds_toArray, List.set_cons_zero, List.set_cons_succ]
  refine take_in (i := 22) _ (some 67) (by kernel_rfl) (by kernel_rfl) (by kernel_rfl) (by kernel_rfl) (fun _ _ _ h => h) (by rfl) (fun o ho w hSw => by cases ho; (try dsimp only at hSw); (try go_split_ands); go_simp; (try with_reducible rfl)) hHeld ?_
  try simp only [Act.put, List.setIfInBounds_toArray, List.set_cons_zero, List.set_cons_succ]
  refine take_in (i := 23) _ (some 68) (by kernel_rfl) (by kernel_rfl) (by kernel_rfl) (by kernel_rfl) (fun _ _ _ h => h) (by rfl) (fun o ho w hSw => by cases ho; (try dsimp only at hSw); (try go_split_ands); go_simp; (try with_reducible rfl)) hHeld ?_
  try simp only [Act.put, List.setIfInBounds_toArray, List.set_cons_zero, List.set_cons_succ]
  refine take_in (i := 24) _ (some 69) (by kernel_rfl) (by kernel_rfl) (by kernel_rfl) (by kernel_rfl) (fun _ _ _ h => h) (by rfl) (fun o ho w hSw => by cases ho; (try dsimp only at hSw); (try go_split_ands); go_simp; (try with_reducible rfl)) hHeld ?_
  try simp only [Act.put, List.setIfInBounds_toArray, List.set_cons_zero, List.set_cons_succ]
  refine take_in (i := 25) _ (some 70) (by kernel_rfl) (by kernel_rfl) (by kernel_rfl) (by kernel_rfl) (fun _ _ _ h => h) (by rfl) (fun o ho w hSw => by cases ho; (try dsimp only at hSw); (try go_split_ands); go_simp; (try with_reducible rfl)) hHeld ?_
  try simp only [Act.put, List.setIfInBounds_toArray, List.set_cons_zero, List.set_cons_succ]
  refine take_in (i := 26) _ (some 71) (by kernel_rfl) (by kernel_rfl) (by kernel_rfl) (by kernel_rfl) (fun _ _ _ h => h) (by rfl) (fun o ho w hSw => by cases ho; (try dsimp only at hSw); (try go_split_ands); go_simp; (try with_reducible rfl)) hHeld ?_
  try simp only [Act.put, List.setIfInBounds_toArray, List.set_cons_zero, List.set_cons_succ]
  refine take_in (i := 29) _ (some 74) (by kernel_rfl) (by kernel_rfl) (by kernel_rfl) (by kernel_rfl) (fun _ _ _ h => h) (by rfl) (fun o ho w hSw => by cases ho; (try dsimp only at hSw); (try go_split_ands); go_simp; (try with_reducible rfl)) hHeld ?_
  try simp only [Act.put, List.setIfInBounds_toArray, List.set_cons_zero, List.set_cons_succ]
  refine take_in (i := 30) _ (some 75) (by kernel_rfl) (by kernel_rfl) (by kernel_rfl) (by kernel_rfl) (fun _ _ _ h => h) (by rfl) (fun o ho w hSw => by cases ho; (try dsimp only at hSw); (try go_split_ands); go_simp; (try with_reducible rfl)) hHeld ?_
  try simp only [Act.put, List.setIfInBounds_toArray, List.set_cons_zero, List.set_cons_succ]
  refine wpAnyH_ready (rs := [27]) (by kernel_rfl) (by simp) ?_
  refine AllReadyH.cons (o := _) rfl (fun K hK => ?_) AllReadyH.nil
  go_simp
  go_at_call 26
  with_reducible refine (refFlat_any pA' _ pc' p' _ (HL7.out.grow HCX.out (Nat.le_refl _)).path (by omega) (by have := HF7.out; omega)).mono ?_
  rintro e wY ⟨A9, c9, rfl, ho9, hb9⟩
  rw [HF7.out]
  have HCY := Lib.hid (below3 HCX.out hb9)
  clear hb9 ho9
  refine hK.out _ _ (HS.out _ HCY.out) (fun hHeld => ?_)
  clear hK K
  try simp only [Act.put, List.setIfInBounds_toArray, List.set_cons_zero, List.set_cons_succ]
  refine take_in (i := 28) _ (some 73) (by kernel_rfl) (by kernel_rfl) (by kernel_rfl) (by kernel_rfl) (fun _ _ _ h => h) (by rfl) (fun o ho w hSw => by cases ho; (try dsimp only at hSw); (try go_split_ands); go_simp; (try with_reducible rfl)) hHeld ?_
  try simp only [Act.put, List.setIfInBounds_toArray, List.set_cons_zero, List.set_cons_succ]
  refine take_in (i := 31) _ (some 76) (by kernel_rfl) (by kernel_rfl) (by kernel_rfl) (by kernel_rfl) (fun _ _ _ h => h) (by rfl) (fun o ho w hSw => by cases ho; (try dsimp only at hSw); (try go_split_ands); go_simp; (try with_reducible rfl)) hHeld ?_
  try simp only [Act.put, List.setIfInBounds_toArray, List.set_cons_zero, List.set_cons_succ]
  refine take_in (i := 32) _ (some 77) (by kernel_rfl) (by kernel_rfl) (by kernel_rfl) (by kernel_rfl) (fun _ _ _ h => h) (by rfl) (fun o ho w hSw => by cases ho; (try dsimp only at hSw); (try go_split_ands); go_simp; (try with_reducible rfl)) hHeld ?_
  try simp only [Act.put, List.setIfInBounds_toArray, List.set_cons_zero, List.set_cons_succ]
  refine take_in (i := 33) _ (some 78) (by kernel_rfl) (by kernel_rfl) (by kernel_rfl) (by kernel_rfl) (fun _ _ _ h => h) (by rfl) (fun o ho w hSw => by cases ho; (try dsimp only at hSw); (try go_split_ands); go_simp; (try with_reducible rfl)) hHeld ?_
  try simp only [Act.put, List.setIfInBounds_toArray, List.set_cons_zero, List.set_cons_succ]
  refine take_in (i := 34) _ (some 79) (by kernel_rfl) (by kernel_rfl) (by kernel_rfl) (by kernel_rfl) (fun _ _ _ h => h) (by rfl) (fun o ho w hSw => by cases ho; (try dsimp only at hSw); (try go_split_ands); go_simp; (try with_reducible rfl)) hHeld ?_
  try simp only [Act.put, List.setIfInBounds_toArray, List.set_cons_zero, List.set_cons_succ]
  refine take_in (i := 35) _ (some 80) (by kernel_rfl) (by kernel_rfl) (by kernel_rfl) (by kernel_rfl) (fun _ _ _ h => h) (by rfl) (fun o ho w hSw => by cases ho; (try dsimp only at hSw); (try go_split_ands); go_simp; (try with_reducible rfl)) hHeld ?_
  try simp only [Act.put, List.setIfInBounds_toArray, List.set_cons_zero, List.set_cons_succ]
  refine take_in (i := 36) _ (some 81) (by kernel_rfl) (by kernel_rfl) (by kernel_rfl) (by kernel_rfl) (fun _ _ _ h => h) (by rfl) (fun o ho w hSw => by cases ho; (try dsimp only at hSw); (try go_split_ands); go_simp; (try with_reducible rfl)) hHeld ?_
  try simp only [Act.put, List.setIfInBounds_toArray, List.set_cons_zero, List.set_cons_succ]
  refine take_in (i := 37) _ (some 82) (by kernel_rfl) (by kernel_rfl) (by kernel_rfl) (by kernel_rfl) (fun _ _ _ h => h) (by rfl) (fun o ho w hSw => by cases ho; (try dsimp only at hSw); (try go_split_ands); go_simp; (try with_reducible rfl)) hHeld ?_
  try simp only [Act.put, List.setIfInBounds_toArray, List.set_cons_zero, List.set_cons_succ]
  refine take_in (i := 38) _ (some 83) (by kernel_rfl) (by kernel_rfl) (by kernel_rfl) (by kernel_rfl) (fun _ _ _ h => h) (by rfl) (fun o ho w hSw => by cases ho; (try dsimp only at hSw); (try go_split_ands); go_simp; (try with_reducible rfl)) hHeld ?_
  try simp only [Act.put, List.setIfInBounds_toArray, List.set_cons_zero, List.set_cons_succ]
  refine wpAnyH_ready (rs := [39]) (by kernel_rfl) (by simp) ?_
  refine AllReadyH.cons (o := _) rfl (fun K hK => ?_) AllReadyH.nil
  go_simp
  go_at_call 28
  with_reducible refine (ref18Same_any cA' cA cn' cc' cn cc _ _ _ _ _ (HL7.out.grow HCY.out (Nat.le_refl _)).comm (((HL.out.below HB7.out).more HB7.out.size).grow HCY.out (Nat.le_refl _)).comm).mono ?_
  rintro e wZ ⟨rfl, hbz⟩
  have HCZ := Lib.hid (below3 HCY.out hbz)
  clear hbz
  rw [decide_eq_true rfl]
  refine hK.out _ _ (HS.out _ HCZ.out) (fun hHeld => ?_)
  clear hK K
  try simp only [Act.put, List.setIfInBounds_toArray, List.set_cons_zero, List.set_cons_succ]
  refine take_in (i := 40) _ (some 85) (by kernel_rfl) (by kernel_rfl) (by kernel_rfl) (by kernel_rfl) (fun _ _ _ h => h) (by rfl) (fun o ho w hSw => by cases ho; (try dsimp only at hSw); (try go_split_ands); go_simp; (try with_reducible rfl)) hHeld ?_
  try simp only [Act.put, List.setIfInBounds_toArray, List.set_cons_zero, List.set_cons_succ]
  refine take_in (i := 41) _ (some 86) (by kernel_rfl) (by kernel_rfl) (by kernel_rfl) (by kernel_rfl) (fun _ _ _ h => h) (by rfl) (fun o ho w hSw => by cases ho; (try dsimp only at hSw); (try go_split_ands); go_simp; (try with_reducible rfl)) hHeld ?_
  try simp only [Act.put, List.setIfInBounds_toArray, List.set_cons_zero, List.set_cons_succ]
  refine wpAnyH_ready (rs := [42]) (by kernel_rfl) (by simp) ?_
  refine AllReadyH.cons (o := _) rfl (fun K hK => ?_) AllReadyH.nil
  go_simp
  go_at_call 11
  with_reducible refine (awake41_any _).mono ?_
  rintro e wU ⟨rfl, hbu⟩
  have HCU := Lib.hid (below3 HCZ.out hbu)
  clear hbu
  refine hK.out _ _ (HS.out _ HCU.out) (fun hHeld => ?_)
  clear hK K
  try simp only [Act.put, List.setIfInBounds_toArray, List.set_cons_zero, List.set_cons_succ]
  refine take_in (i := 43) _ (some 88) (by kernel_rfl) (by kernel_rfl) (by kernel_rfl) (by kernel_rfl) (fun _ _ _ h => h) (by rfl) (fun o ho w hSw => by cases ho; (try dsimp only at hSw); (try go_split_ands); go_simp; (try with_reducible rfl)) hHeld ?_
  try simp only [Act.put, List.setIfInBounds_toArray, List.set_cons_zero, List.set_cons_succ]
  refine take_in (i := 44) _ (some 6) (by kernel_rfl) (by kernel_rfl) (by kernel_rfl) (by kernel_rfl) (fun _ _ _ h => h) (by rfl) (fun o ho w hSw => by cases ho; (try dsimp only at hSw); (try go_split_ands); go_simp; (try with_reducible rfl)) hHeld ?_
  try simp only [Act.put, List.setIfInBounds_toArray, List.set_cons_zero, List.set_cons_succ]
  refine wpAnyH_done (by kernel_rfl) ?_ _
  refine NoPanic.normal ?_
  have HBF := Lib.hid (HB7.out.trans (HCU.out.mono HB7.out.size))
  go_wp2
  go_ret
  exact ⟨rfl, HBF.out⟩
theorem advertiseLocal_walk (v0 v1 : Value) (i : Int) (w : World) (h0 : ConfIn w v0) (h1 : RouteIn w v1) (_h2 : (Lit.int .i64 i).wf = true) :
    Calls Try.prog 9 #[v0, v1, .int .i64 i] w fun e w' => e = .returned (.bool true) ∧ Below w.heap.size w w' := by
  obtain ⟨asn, cfd, rtr, clt, QA, na, g0, g1, g2, g3, qn, qc, nn, nc, m0, c0, m1, c1, m2, c2, m3, c3, d0, d1, d2, d3, mul, ps, rfl, hQ⟩ := h0
  obtain ⟨rpa, rpl, og, hop, med, pref, aas, aad, ori, hm, hp, atm, ha, ho, pA, cA, kA, uA, pn, pc, cn, cc, kn, kc, un, uc, p, us, cm, cl, rpeer, rkind, rrtr, stale, rfl, hL, hs, hus⟩ := h1
  exact localLaw asn cfd rtr clt QA na g0 g1 g2 g3 qn qc nn nc m0 c0 m1 c1 m2 c2 m3 c3 d0 d1 d2 d3 mul rpa rpl og hop med pref aas aad ori hm hp atm ha ho pA cA kA uA pn pc cn cc kn kc un uc p us cm cl rpeer rkind rrtr stale i ps w hQ hL hs hus
end Go.Proofs.Ytojgohgeagbkbaa
