/- The law AdvertiseUnchanged: plain, and the walk. -/
import Derived.Test.YtojgohgeagbkbaaLrg
import Derived.Test.YtojgohgeagbkbaaSm36
import Derived.Test.YtojgohgeagbkbaaRefAtt
import Derived.Test.YtojgohgeagbkbaaAwk
import Derived.Test.YtojgohgeagbkbaaOpr
import Derived.Deep.DeepCutAuto
namespace Go.Proofs.Ytojgohgeagbkbaa
open Go.RowKit

set_option linter.unusedVariables false
set_option linter.unusedSimpArgs false
theorem attErr_len {a : Att} (h : attErr a = 0) : a.path.length ≤ 64 := by
  have hq := attErr_path h
  unfold pathErr at hq
  split at hq
  · omega
  · omega
theorem insR_nil (p : Path) : insR p [] = p := by unfold insR; rw [if_pos (show ([] : List Int).length = 0 from rfl)]
theorem changed_same (a : Att) (fl : List Int) (sp sm : Int) (h : attErr a = 0) : changedR a fl sp sm fl a.comm a.hop sp sm = (a, 0) := by
  have he : endsB fl fl = true := by unfold endsB; simp
  have hc : chgAll a fl sp sm fl a.comm a.hop sp sm = a := by
    unfold chgAll chPath chHop chMed chPref
    rw [Nat.sub_self, List.take_zero, insR_nil]
    simp
  have hi : insR a.path (fl.take (fl.length - fl.length)) = a.path := by rw [Nat.sub_self, List.take_zero, insR_nil]
  have hp := attErr_len h
  unfold changedR
  rw [h, if_pos (show ((0 : Int) == 0) = true from rfl), if_pos he, hi, hc, if_neg (by simp; omega), h, if_pos (show ((0 : Int) == 0) = true from rfl)]
theorem flat_bits : ∀ us : Path, (flat us).length ≤ 8 * bits8 us + 7 * us.length
  | [] => by simp [flat, bits8]
  | s :: r => by
    have h1 := flat_bits r
    have e1 : bits8 (s :: r) = s.2.length / 8 + bits8 r := by simp [bits8]
    have e2 : (flat (s :: r)).length = s.2.length + (flat r).length := by simp [flat]
    rw [e1, e2, List.length_cons]
    omega
set_option maxRecDepth 100000 in
set_option maxHeartbeats 8000000 in
theorem unchangedLaw (rpa rpl : Int) (og hop med pref aas aad ori : Int) (hm hp atm ha ho : Bool) (pA cA kA uA : Option Addr) (pn pc cn cc kn kc un uc : Nat) (p us : Path) (cm cl : List Int) (rpeer rkind rrtr : Int) (stale : Bool) (met : Int) (w : World) (hL : Lists w w.heap.size pA cA kA uA pn pc cn cc kn kc un uc p cm cl us) (hs : (flat p).length ≤ 1048576) (hus : (flat us).length ≤ 1048576) :
    Calls Try.prog 7 #[.agg #[.int .u32 rpa, .int .i64 rpl, .int .i64 og, .slice pA pn pc, .int .u32 hop, .bool hm, .int .i64 med, .bool hp, .int .i64 pref, .bool atm, .bool ha, .int .i64 aas, .int .u32 aad, .slice cA cn cc, .bool ho, .int .u32 ori, .slice kA kn kc, .slice uA un uc, .int .i64 rpeer, .int .i64 rkind, .int .u32 rrtr, .bool stale], .int .i64 met] w fun e w' => e = .returned (.bool true) ∧ Below w.heap.size w w' := by
  have HL := Lib.hid hL
  obtain ⟨w1, hw1⟩ : ∃ w1, w.alloc (.cells #[.int .u32 rpa, .int .i64 rpl, .int .i64 og, .slice pA pn pc, .int .u32 hop, .bool hm, .int .i64 med, .bool hp, .int .i64 pref, .bool atm, .bool ha, .int .i64 aas, .int .u32 aad, .slice cA cn cc, .bool ho, .int .u32 ori, .slice kA kn kc, .slice uA un uc, .int .i64 rpeer, .int .i64 rkind, .int .u32 rrtr, .bool stale] 49) = w1 := ⟨_, rfl⟩
  have hbA : Blk w1 w.heap.size 49 [.int .u32 rpa, .int .i64 rpl, .int .i64 og, .slice pA pn pc, .int .u32 hop, .bool hm, .int .i64 med, .bool hp, .int .i64 pref, .bool atm, .bool ha, .int .i64 aas, .int .u32 aad, .slice cA cn cc, .bool ho, .int .u32 ori, .slice kA kn kc, .slice uA un uc, .int .i64 rpeer, .int .i64 rkind, .int .u32 rrtr, .bool stale] := by rw [← hw1]; exact Blk.new w _ _
  have hb1 : Below w.heap.size w w1 := by rw [← hw1]; exact belowA _ _
  have HB1 := Lib.hid hb1
  have HKA := Lib.hid hbA
  have HC := Lib.hid (large36_any og hop med pref aas aad ori hm hp atm ha ho pA cA kA uA pn pc cn cc kn kc un uc p us cm cl w1 (HL.out.grow hb1 (Nat.le_refl _)) hs hus)
  have hpl := hL.path.len
  have hcl := hL.comm.len
  have HSZ : Hid (¬ 3000 < sizeR p cm cl us → p.length + (flat p).length ≤ 3000 ∧ cn ≤ 3000 ∧ (flat us).length ≤ 100000) := by
    intro h
    have h1 := flat_bits us
    unfold sizeR size0 at h
    omega
  have hlt1 : w.heap.size < w1.heap.size := hbA.lt
  clear hL hbA hb1 hpl hcl
  have r0 := HKA.out.cell 0
  have r1 := HKA.out.cell 1
  have r2 := HKA.out.cell 2
  have r3 := HKA.out.cell 3
  have r4 := HKA.out.cell 4
  have r5 := HKA.out.cell 5
  have r6 := HKA.out.cell 6
  have r7 := HKA.out.cell 7
  have r8 := HKA.out.cell 8
  have r9 := HKA.out.cell 9
  have r10 := HKA.out.cell 10
  have r11 := HKA.out.cell 11
  have r12 := HKA.out.cell 12
  have r13 := HKA.out.cell 13
  have r14 := HKA.out.cell 14
  have r15 := HKA.out.cell 15
  have r16 := HKA.out.cell 16
  have r17 := HKA.out.cell 17
  have r18 := HKA.out.cell 18
  have r19 := HKA.out.cell 19
  have r20 := HKA.out.cell 20
  have r21 := HKA.out.cell 21
  simp only [List.getElem?_cons_zero, List.getElem?_cons_succ] at r0 r1 r2 r3 r4 r5 r6 r7 r8 r9 r10 r11 r12 r13 r14 r15 r16 r17 r18 r19 r20 r21
  go_enter Try.func7, Try.ntmps7
  go_wp2_with fail
  refine HC.out.mono ?_
  rintro e w2 ⟨rfl, hb⟩
  clear HC hw1 r0 r1 r2 r3 r4 r5 r6 r7 r8 r9 r10 r11 r12 r13 r14 r15 r16 r17 r18 r19 r20 r21
  have HKA2 := Lib.hid (HKA.out.keep hb)
  have HB2 := Lib.hid (HB1.out.trans (hb.mono HB1.out.size))
  have lt2 : w.heap.size < w2.heap.size := HKA2.out.lt
  clear hb HKA HB1 hlt1
  by_cases hl : 3000 < sizeR p cm cl us
  case pos =>
    rw [decide_eq_true hl]
    clear hl HSZ
    go_wp2_with fail
    refine (awake41_any w2).mono ?_
    rintro e w3 ⟨rfl, hb⟩
    have HB3 := Lib.hid (below3 HB2.out hb)
    clear hb
    go_wp2
    go_ret
    exact ⟨rfl, HB3.out⟩
  have HSM := Lib.hid (HSZ.out hl)
  rw [decide_eq_false hl]
  clear hl HSZ
  have r0 := HKA2.out.cell 0
  have r1 := HKA2.out.cell 1
  have r2 := HKA2.out.cell 2
  have r3 := HKA2.out.cell 3
  have r4 := HKA2.out.cell 4
  have r5 := HKA2.out.cell 5
  have r6 := HKA2.out.cell 6
  have r7 := HKA2.out.cell 7
  have r8 := HKA2.out.cell 8
  have r9 := HKA2.out.cell 9
  have r10 := HKA2.out.cell 10
  have r11 := HKA2.out.cell 11
  have r12 := HKA2.out.cell 12
  have r13 := HKA2.out.cell 13
  have r14 := HKA2.out.cell 14
  have r15 := HKA2.out.cell 15
  have r16 := HKA2.out.cell 16
  have r17 := HKA2.out.cell 17
  have r18 := HKA2.out.cell 18
  have r19 := HKA2.out.cell 19
  have r20 := HKA2.out.cell 20
  have r21 := HKA2.out.cell 21
  simp only [List.getElem?_cons_zero, List.getElem?_cons_succ] at r0 r1 r2 r3 r4 r5 r6 r7 r8 r9 r10 r11 r12 r13 r14 r15 r16 r17 r18 r19 r20 r21
  go_wp2_with fail
  refine (ref36Check_any og hop med pref aas aad ori hm hp atm ha ho pA cA kA uA pn pc cn cc kn kc un uc p us cm cl w2 (HL.out.grow HB2.out (Nat.le_refl _))).mono ?_
  rintro e w3 ⟨rfl, hb⟩
  clear r0 r1 r2 r3 r4 r5 r6 r7 r8 r9 r10 r11 r12 r13 r14 r15 r16 r17 r18 r19 r20 r21
  have HKA3 := Lib.hid (HKA2.out.keep hb)
  have HB3 := Lib.hid (below3 HB2.out hb)
  have lt3 : w.heap.size < w3.heap.size := HKA3.out.lt
  clear hb HKA2 HB2 lt2
  obtain ⟨ae, hae⟩ : ∃ ae, attErr ⟨og, p, hop, hm, med, hp, pref, atm, ha, aas, aad, cm, ho, ori, cl, us⟩ = ae := ⟨_, rfl⟩
  rw [hae]
  cases hae0 : (ae == 0)
  case false =>
    have hne : (ae != 0) = true := by simpa using hae0
    clear hae
    go_wp2_with fail
    refine (awake41_any w3).mono ?_
    rintro e w4 ⟨rfl, hb⟩
    have HB4 := Lib.hid (below3 HB3.out hb)
    clear hb
    go_wp2
    go_ret
    exact ⟨rfl, HB4.out⟩
  obtain rfl : ae = 0 := by simpa using hae0
  have HAE := Lib.hid hae
  have hne : ((0 : Int) != 0) = false := rfl
  clear hae0 hae
  go_wp2_with (refine wpList_load_blk rfl 49 _ rfl w.heap.size rfl HKA3.out _ Try.underlying49 rfl (by kernel_rfl) ?_)
  refine (subject_any rpa rpl og hop med pref aas aad ori hm hp atm ha ho pA cA kA uA pn pc cn cc kn kc un uc p us cm cl rpeer rkind rrtr stale met w3 (HL.out.grow HB3.out (Nat.le_refl _)) (by have := HSM.out; unfold Sm; omega)).mono ?_
  rintro e w4 ⟨fA, eA, fn, fc, en, ec, rfl, hf, hc, hb⟩
  obtain ⟨px, hpx⟩ : ∃ px, (if hp = true then pref else 100) = px := ⟨_, rfl⟩
  obtain ⟨pr, hpr⟩ : ∃ pr, protoR rkind = pr := ⟨_, rfl⟩
  rw [hpx, hpr]
  have HF := Lib.hid hf
  have HCM := Lib.hid hc
  have hfl := hf.len
  have hcl := hc.len
  have HKA4 := Lib.hid (HKA3.out.keep hb)
  have HB4 := Lib.hid (below3 HB3.out hb)
  clear hb HKA3 HB3 lt3 hf hc hpx hpr hne
  have HZ5 : Hid (Blk (w4.alloc (.cells #[.int .u32 0, .int .i64 0, .int .i64 0, .int .u32 0, .slice none 0 0, .slice none 0 0, .int .i64 0, .int .i64 0, .int .i64 0, .int .i64 0] 54)) w4.heap.size 54 [.int .u32 0, .int .i64 0, .int .i64 0, .int .u32 0, .slice none 0 0, .slice none 0 0, .int .i64 0, .int .i64 0, .int .i64 0, .int .i64 0]) := Blk.new w4 _ _
  obtain ⟨w5, hw5⟩ : ∃ w5, (w4.alloc (.cells #[.int .u32 0, .int .i64 0, .int .i64 0, .int .u32 0, .slice none 0 0, .slice none 0 0, .int .i64 0, .int .i64 0, .int .i64 0, .int .i64 0] 54)).setRow w4.heap.size #[.int .u32 rpa, .int .i64 rpl, .int .i64 pr, .int .u32 hop, .slice fA fn fc, .slice eA en ec, .int .i64 px, .int .i64 med, .int .i64 met, .int .i64 0] = w5 := ⟨_, rfl⟩
  have hbS : Blk w5 w4.heap.size 54 [.int .u32 rpa, .int .i64 rpl, .int .i64 pr, .int .u32 hop, .slice fA fn fc, .slice eA en ec, .int .i64 px, .int .i64 med, .int .i64 met, .int .i64 0] := by rw [← hw5]; exact (box_new [.int .u32 0, .int .i64 0, .int .i64 0, .int .u32 0, .slice none 0 0, .slice none 0 0, .int .i64 0, .int .i64 0, .int .i64 0, .int .i64 0] _).1
  have hb5 : Below w4.heap.size w4 w5 := by rw [← hw5]; exact (box_new [.int .u32 0, .int .i64 0, .int .i64 0, .int .u32 0, .slice none 0 0, .slice none 0 0, .int .i64 0, .int .i64 0, .int .i64 0, .int .i64 0] _).2
  have HKS5 := Lib.hid hbS
  have HKA5 := Lib.hid (HKA4.out.keep hb5)
  have HB5 := Lib.hid (below3 HB4.out hb5)
  have HF5 := Lib.hid ((HF.out.below hb5).more hb5.size)
  have HC5 := Lib.hid ((HCM.out.below hb5).more hb5.size)
  have lt5 : w.heap.size < w5.heap.size := HKA5.out.lt
  have lt4 : w4.heap.size < w5.heap.size := hbS.lt
  clear hbS hb5
  go_upto_region 4 with (refine wpList_store_blk (cs := [.int .u32 rpa, .int .i64 rpl, .int .i64 pr, .int .u32 hop, .slice fA fn fc, .slice eA en ec, .int .i64 px, .int .i64 med, .int .i64 met, .int .i64 0]) rfl 54 _ _ rfl w4.heap.size rfl rfl HZ5.out (by kernel_rfl) rfl (by kernel_rfl) ?_)
  try rw [hw5]
  clear hw5 HZ5 HKA4 HB4 HF HCM
  have r0 := HKA5.out.cell 0
  have r1 := HKA5.out.cell 1
  have r2 := HKA5.out.cell 2
  have r3 := HKA5.out.cell 3
  have r4 := HKA5.out.cell 4
  have r5 := HKA5.out.cell 5
  have r6 := HKA5.out.cell 6
  have r7 := HKA5.out.cell 7
  have r8 := HKA5.out.cell 8
  have r9 := HKA5.out.cell 9
  have r10 := HKA5.out.cell 10
  have r11 := HKA5.out.cell 11
  have r12 := HKA5.out.cell 12
  have r13 := HKA5.out.cell 13
  have r14 := HKA5.out.cell 14
  have r15 := HKA5.out.cell 15
  have r16 := HKA5.out.cell 16
  have r17 := HKA5.out.cell 17
  have r18 := HKA5.out.cell 18
  have r19 := HKA5.out.cell 19
  have r20 := HKA5.out.cell 20
  have r21 := HKA5.out.cell 21
  simp only [List.getElem?_cons_zero, List.getElem?_cons_succ] at r0 r1 r2 r3 r4 r5 r6 r7 r8 r9 r10 r11 r12 r13 r14 r15 r16 r17 r18 r19 r20 r21
  go_wp2_with (refine wpList_load_blk rfl 54 _ rfl w4.heap.size rfl HKS5.out _ Try.underlying54 rfl (by kernel_rfl) ?_)
  have hsz : p.length + (flat p).length + (flat p).length ≤ 1000000 := by have := HSM.out; omega
  have hfu : (flat us).length ≤ 1000000 := by have := HSM.out; omega
  have hfn : fn ≤ 1000000 := by have := HSM.out; omega
  have hen : en ≤ 1000000 := by have h1 := HSM.out; have h2 := HL.out.comm.len; omega
  refine (changed_any og hop med pref aas aad ori hm hp atm ha ho pA cA kA uA pn pc cn cc kn kc un uc p us cm cl rpa rpl pr hop px med met 0 fA eA fn fc en ec (flat p) cm rpa rpl pr hop px med met 0 fA eA fn fc en ec (flat p) cm w5 (HL.out.grow HB5.out (Nat.le_refl _)) HF5.out HF5.out HC5.out hsz hfu hfn hen).mono ?_
  have hch : changedR ⟨og, p, hop, hm, med, hp, pref, atm, ha, aas, aad, cm, ho, ori, cl, us⟩ (flat p) px med (flat p) cm hop px med = (⟨og, p, hop, hm, med, hp, pref, atm, ha, aas, aad, cm, ho, ori, cl, us⟩, 0) := changed_same ⟨og, p, hop, hm, med, hp, pref, atm, ha, aas, aad, cm, ho, ori, cl, us⟩ (flat p) px med HAE.out
  rw [hch]
  clear hch r0 r1 r2 r3 r4 r5 r6 r7 r8 r9 r10 r11 r12 r13 r14 r15 r16 r17 r18 r19 r20 r21
  rintro e w6 ⟨pB, cB, kB, uB, pn', pd, cn', cd, kn', kd, un', ud, rfl, hL6, hb⟩
  dsimp only at hL6 ⊢
  obtain rfl : pn' = pn := by rw [← hL6.path.len, ← HL.out.path.len]
  obtain rfl : cn' = cn := by rw [← hL6.comm.len, ← HL.out.comm.len]
  obtain rfl : kn' = kn := by rw [← hL6.clus.len, ← HL.out.clus.len]
  obtain rfl : un' = un := by rw [← hL6.unk.len, ← HL.out.unk.len]
  have HL6 := Lib.hid hL6
  have HKA6 := Lib.hid (HKA5.out.keep hb)
  have HB6 := Lib.hid (below3 HB5.out hb)
  clear hb HKA5 HB5 HF5 HC5 HKS5 lt4 lt5 hL6
  have HZ7 : Hid (Blk (w6.alloc (.cells #[.int .i64 0, .slice none 0 0, .int .u32 0, .bool false, .int .i64 0, .bool false, .int .i64 0, .bool false, .bool false, .int .i64 0, .int .u32 0, .slice none 0 0, .bool false, .int .u32 0, .slice none 0 0, .slice none 0 0] 40)) w6.heap.size 40 [.int .i64 0, .slice none 0 0, .int .u32 0, .bool false, .int .i64 0, .bool false, .int .i64 0, .bool false, .bool false, .int .i64 0, .int .u32 0, .slice none 0 0, .bool false, .int .u32 0, .slice none 0 0, .slice none 0 0]) := Blk.new w6 _ _
  obtain ⟨w7, hw7⟩ : ∃ w7, (w6.alloc (.cells #[.int .i64 0, .slice none 0 0, .int .u32 0, .bool false, .int .i64 0, .bool false, .int .i64 0, .bool false, .bool false, .int .i64 0, .int .u32 0, .slice none 0 0, .bool false, .int .u32 0, .slice none 0 0, .slice none 0 0] 40)).setRow w6.heap.size #[.int .i64 og, .slice pB pn' pd, .int .u32 hop, .bool hm, .int .i64 med, .bool hp, .int .i64 pref, .bool atm, .bool ha, .int .i64 aas, .int .u32 aad, .slice cB cn' cd, .bool ho, .int .u32 ori, .slice kB kn' kd, .slice uB un' ud] = w7 := ⟨_, rfl⟩
  have hbX : Blk w7 w6.heap.size 40 [.int .i64 og, .slice pB pn' pd, .int .u32 hop, .bool hm, .int .i64 med, .bool hp, .int .i64 pref, .bool atm, .bool ha, .int .i64 aas, .int .u32 aad, .slice cB cn' cd, .bool ho, .int .u32 ori, .slice kB kn' kd, .slice uB un' ud] := by rw [← hw7]; exact (box_new [.int .i64 0, .slice none 0 0, .int .u32 0, .bool false, .int .i64 0, .bool false, .int .i64 0, .bool false, .bool false, .int .i64 0, .int .u32 0, .slice none 0 0, .bool false, .int .u32 0, .slice none 0 0, .slice none 0 0] _).1
  have hb7 : Below w6.heap.size w6 w7 := by rw [← hw7]; exact (box_new [.int .i64 0, .slice none 0 0, .int .u32 0, .bool false, .int .i64 0, .bool false, .int .i64 0, .bool false, .bool false, .int .i64 0, .int .u32 0, .slice none 0 0, .bool false, .int .u32 0, .slice none 0 0, .slice none 0 0] _).2
  have HKX := Lib.hid hbX
  have HKA7 := Lib.hid (HKA6.out.keep hb7)
  have HB7 := Lib.hid (below3 HB6.out hb7)
  have HL7 := Lib.hid (HL6.out.grow hb7 (Nat.le_refl _))
  have lt7 : w.heap.size < w7.heap.size := HKA7.out.lt
  have lt6 : w6.heap.size < w7.heap.size := hbX.lt
  clear hbX hb7
  go_upto_region 5 with (refine wpList_store_blk (cs := [.int .i64 og, .slice pB pn' pd, .int .u32 hop, .bool hm, .int .i64 med, .bool hp, .int .i64 pref, .bool atm, .bool ha, .int .i64 aas, .int .u32 aad, .slice cB cn' cd, .bool ho, .int .u32 ori, .slice kB kn' kd, .slice uB un' ud]) rfl 40 _ _ rfl w6.heap.size rfl rfl HZ7.out (by kernel_rfl) rfl (by kernel_rfl) ?_)
  try rw [hw7]
  clear hw7 HZ7 HKA6 HB6 HL6
  have r0 := HKA7.out.cell 0
  have r1 := HKA7.out.cell 1
  have r2 := HKA7.out.cell 2
  have r3 := HKA7.out.cell 3
  have r4 := HKA7.out.cell 4
  have r5 := HKA7.out.cell 5
  have r6 := HKA7.out.cell 6
  have r7 := HKA7.out.cell 7
  have r8 := HKA7.out.cell 8
  have r9 := HKA7.out.cell 9
  have r10 := HKA7.out.cell 10
  have r11 := HKA7.out.cell 11
  have r12 := HKA7.out.cell 12
  have r13 := HKA7.out.cell 13
  have r14 := HKA7.out.cell 14
  have r15 := HKA7.out.cell 15
  have r16 := HKA7.out.cell 16
  have r17 := HKA7.out.cell 17
  have r18 := HKA7.out.cell 18
  have r19 := HKA7.out.cell 19
  have r20 := HKA7.out.cell 20
  have r21 := HKA7.out.cell 21
  simp only [List.getElem?_cons_zero, List.getElem?_cons_succ] at r0 r1 r2 r3 r4 r5 r6 r7 r8 r9 r10 r11 r12 r13 r14 r15 r16 r17 r18 r19 r20 r21
  go_wp2_with (first | (refine wpList_load_blkG (by rfl) 40 _ rfl w6.heap.size rfl HKX.out _ Try.underlying40 rfl (by kernel_rfl) ?_) | fail)
  refine (same36_true og hop med pref aas aad ori hm hp atm ha ho pB cB kB uB pn' pd cn' cd kn' kd un' ud p us cm cl pA cA kA uA pc cc kc uc w7 HL7.out (HL.out.grow HB7.out (Nat.le_refl _))).mono ?_
  rintro e w8 ⟨rfl, hb⟩
  have HB8 := Lib.hid (below3 HB7.out hb)
  clear hb r0 r1 r2 r3 r4 r5 r6 r7 r8 r9 r10 r11 r12 r13 r14 r15 r16 r17 r18 r19 r20 r21
  go_wp2_with fail
  refine (awake41_any w8).mono ?_
  rintro e w9 ⟨rfl, hb⟩
  have HB9 := Lib.hid (below3 HB8.out hb)
  clear hb
  go_wp2
  go_ret
  exact ⟨rfl, HB9.out⟩
theorem advertiseUnchanged_walk (v0 : Value) (i : Int) (w : World) (h0 : RouteIn w v0) (_h1 : (Lit.int .i64 i).wf = true) :
    Calls Try.prog 7 #[v0, .int .i64 i] w fun e w' => e = .returned (.bool true) ∧ Below w.heap.size w w' := by
  obtain ⟨rpa, rpl, og, hop, med, pref, aas, aad, ori, hm, hp, atm, ha, ho, pA, cA, kA, uA, pn, pc, cn, cc, kn, kc, un, uc, p, us, cm, cl, rpeer, rkind, rrtr, stale, rfl, hL, hs, hus⟩ := h0
  exact unchangedLaw rpa rpl og hop med pref aas aad ori hm hp atm ha ho pA cA kA uA pn pc cn cc kn kc un uc p us cm cl rpeer rkind rrtr stale i w hL hs hus
end Go.Proofs.Ytojgohgeagbkbaa
