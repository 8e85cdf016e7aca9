/- The document's comparison of subjects: equal ones. The law AdvertiseSubject: the walk. -/
import Derived.Test.YtojgohgeagbkbaaLst
import Derived.Test.YtojgohgeagbkbaaAccR
import Derived.Test.YtojgohgeagbkbaaRow
import Derived.BigQuiet
import Derived.Test.YtojgohgeagbkbaaRSub
import Derived.Test.YtojgohgeagbkbaaLrg
import Derived.Test.YtojgohgeagbkbaaAwk
import Derived.Test.YtojgohgeagbkbaaOpr
import Derived.Deep.DeepCutAuto
namespace Go.Proofs.Ytojgohgeagbkbaa
open Go.RowKit

set_option linter.unusedVariables false in
set_option linter.unusedSimpArgs false in
set_option maxRecDepth 100000 in
set_option maxHeartbeats 8000000 in
theorem same21_true (spa spl spr shop spref smed smet stag : Int) (fA eA fB eB : Option Addr) (fn fc en ec fd ed : Nat) (fl cms : List Int) (w : World)
    (h1 : Ints w w.heap.size .i64 fA fn fc fl) (h2 : Ints w w.heap.size .u32 eA en ec cms) (h3 : Ints w w.heap.size .i64 fB fn fd fl) (h4 : Ints w w.heap.size .u32 eB en ed cms) :
    Calls Try.prog 16 #[.agg #[.int .u32 spa, .int .i64 spl, .int .i64 spr, .int .u32 shop, .slice fA fn fc, .slice eA en ec, .int .i64 spref, .int .i64 smed, .int .i64 smet, .int .i64 stag], .agg #[.int .u32 spa, .int .i64 spl, .int .i64 spr, .int .u32 shop, .slice fB fn fd, .slice eB en ed, .int .i64 spref, .int .i64 smed, .int .i64 smet, .int .i64 stag]] w fun e w' => e = .returned (.bool true) ∧ Below w.heap.size w w' := by
  obtain ⟨w1, hw1⟩ : ∃ w1, (w.alloc (.cells #[.int .u32 spa, .int .i64 spl, .int .i64 spr, .int .u32 shop, .slice fA fn fc, .slice eA en ec, .int .i64 spref, .int .i64 smed, .int .i64 smet, .int .i64 stag] 54)).alloc (.cells #[.int .u32 spa, .int .i64 spl, .int .i64 spr, .int .u32 shop, .slice fB fn fd, .slice eB en ed, .int .i64 spref, .int .i64 smed, .int .i64 smet, .int .i64 stag] 54) = w1 := ⟨_, rfl⟩
  have hbA : Blk w1 w.heap.size 54 [.int .u32 spa, .int .i64 spl, .int .i64 spr, .int .u32 shop, .slice fA fn fc, .slice eA en ec, .int .i64 spref, .int .i64 smed, .int .i64 smet, .int .i64 stag] := by rw [← hw1]; exact (Blk.new w _ _).keep (belowA _ _)
  have hbB : Blk w1 (w.heap.size + 1) 54 [.int .u32 spa, .int .i64 spl, .int .i64 spr, .int .u32 shop, .slice fB fn fd, .slice eB en ed, .int .i64 spref, .int .i64 smed, .int .i64 smet, .int .i64 stag] := by rw [← hw1]; exact Blk.new2 w _ _ _
  have hb1 : Below w.heap.size w w1 := by rw [← hw1]; exact below3 (belowA _ _) (belowA _ _)
  have HB1 := Lib.hid hb1
  have HKA := Lib.hid hbA
  have HKB := Lib.hid hbB
  have HX := Lib.hid (h1.below hb1)
  have HY := Lib.hid (h3.below hb1)
  have HC := Lib.hid (ref18Same_any eA eB en ec en ed w.heap.size w.heap.size cms cms)
  have H2 := Lib.hid h2
  have H4 := Lib.hid h4
  have hn : fn ≤ 9223372036854775807 := by have h1' := h1.1; have h2' := h1.2.1; simp only [maxLen] at h2'; omega
  have hlt : w.heap.size + 1 < w1.heap.size := hbB.lt
  have hlt0 : w.heap.size < w1.heap.size := by omega
  clear h1 h2 h3 h4 hbA hbB hb1
  have a0 := HKA.out.cell 0
  have a1 := HKA.out.cell 1
  have a2 := HKA.out.cell 2
  have a3 := HKA.out.cell 3
  have a4 := HKA.out.cell 4
  have a5 := HKA.out.cell 5
  have a6 := HKA.out.cell 6
  have a7 := HKA.out.cell 7
  have a8 := HKA.out.cell 8
  have a9 := HKA.out.cell 9
  simp only [List.getElem?_cons_zero, List.getElem?_cons_succ] at a0 a1 a2 a3 a4 a5 a6 a7 a8 a9
  have b0 := HKB.out.cell 0
  have b1 := HKB.out.cell 1
  have b2 := HKB.out.cell 2
  have b3 := HKB.out.cell 3
  have b4 := HKB.out.cell 4
  have b5 := HKB.out.cell 5
  have b6 := HKB.out.cell 6
  have b7 := HKB.out.cell 7
  have b8 := HKB.out.cell 8
  have b9 := HKB.out.cell 9
  simp only [List.getElem?_cons_zero, List.getElem?_cons_succ] at b0 b1 b2 b3 b4 b5 b6 b7 b8 b9
  go_enter Try.func16, Try.ntmps16
  go_wp2
  try rw [hw1]
  clear hw1
  go_loopw [65] (fun i wr => ∃ k : Nat, k ≤ fn ∧ i = .int .i64 k ∧ Hid (Below w1.heap.size w1 wr)) (fun i _ => fn - (intOf i).toNat)
  case atStart => exact ⟨0, Nat.zero_le _, rfl, Below.refl _ _⟩
  case round =>
    obtain ⟨k, hk, rfl, hbw⟩ := hrel
    have HKA1 := Lib.hid (HKA.out.keep hbw.out)
    have HKB1 := Lib.hid (HKB.out.keep hbw.out)
    have HBR := Lib.hid (HB1.out.trans (hbw.out.mono HB1.out.size))
    have lA : w.heap.size < wr.heap.size := by have := hbw.out.size; omega
    have lB : w.heap.size + 1 < wr.heap.size := by have := hbw.out.size; omega
    clear a0 a1 a2 a3 a4 a5 a6 a7 a8 a9 b0 b1 b2 b3 b4 b5 b6 b7 b8 b9
    by_cases hlt' : k < fn
    case neg =>
      obtain rfl : k = fn := by omega
      have a5 := HKA1.out.cell 5
      have b5 := HKB1.out.cell 5
      simp only [List.getElem?_cons_zero, List.getElem?_cons_succ] at a5 b5
      go_wp2_with fail
      refine (HC.out wr (H2.out.below HBR.out) (H4.out.below HBR.out)).mono ?_
      rintro e w2 ⟨rfl, hb⟩
      rw [show decide True = true from rfl]
      have HB2 := Lib.hid (below3 HBR.out hb)
      clear hb
      go_wp2
      go_ret
      exact ⟨rfl, HB2.out⟩
    have a4 := HKA1.out.cell 4
    have b4 := HKB1.out.cell 4
    simp only [List.getElem?_cons_zero, List.getElem?_cons_succ] at a4 b4
    obtain ⟨x2, o2, x, rfl, hb2, gx, hxx⟩ := (HX.out.below (hbw.out.mono HB1.out.size)).cell hlt'
    obtain ⟨y2, p2, y, rfl, hb2', gy, hyy⟩ := (HY.out.below (hbw.out.mono HB1.out.size)).cell hlt'
    obtain rfl : x = y := by rw [← hxx.out, ← hyy.out]
    have lx : x2 < wr.heap.size := by omega
    have ly : y2 < wr.heap.size := by omega
    have k0 : (0 : Int) ≤ (k : Int) := by omega
    have k1 : (k : Int) < (fn : Int) := by omega
    clear hxx hyy HKA1 HKB1
    go_wp2
    go_quiet (fail)
    go_wp2
    go_roundw
    case rel => exact ⟨k + 1, by omega, by go_num, below_drewN hbw.out _⟩
    case measure => simp [intOf]; omega
set_option linter.unusedVariables false in
set_option linter.unusedSimpArgs false in
set_option maxRecDepth 100000 in
set_option maxHeartbeats 4000000 in
theorem large21_any (spa spl spr shop spref smed smet stag : Int) (fA eA : Option Addr) (fn fc en ec : Nat) (fl cms : List Int) (w : World) (hfn : fn ≤ 1000000000) (hen : en ≤ 1000000000) :
    Calls Try.prog 19 #[.agg #[.int .u32 spa, .int .i64 spl, .int .i64 spr, .int .u32 shop, .slice fA fn fc, .slice eA en ec, .int .i64 spref, .int .i64 smed, .int .i64 smet, .int .i64 stag]] w fun e w' => e = .returned (.bool (decide (2100 < fn) || decide (600 < en))) ∧ Below w.heap.size w w' := by
  by_cases h : 2100 < fn
  · have d : decide ((fn : Int) > 2100) = true := by simp; omega
    rw [decide_eq_true h, Bool.true_or]
    clear h
    go_enter Try.func19, Try.ntmps19
    go_wp2
    go_ret
    exact ⟨rfl, belowA _ _⟩
  · have d : decide ((fn : Int) > 2100) = false := by simp; omega
    rw [decide_eq_false h, Bool.false_or]
    clear h
    by_cases h : 600 < en
    · have d2 : decide ((en : Int) > 600) = true := by simp; omega
      rw [decide_eq_true h]
      clear h
      go_enter Try.func19, Try.ntmps19
      go_wp2
      go_ret
      exact ⟨rfl, belowA _ _⟩
    · have d2 : decide ((en : Int) > 600) = false := by simp; omega
      rw [decide_eq_false h]
      clear h
      go_enter Try.func19, Try.ntmps19
      go_wp2
      go_ret
      exact ⟨rfl, belowA _ _⟩
end Go.Proofs.Ytojgohgeagbkbaa
namespace Go.Proofs.Ytojgohgeagbkbaa
open Go.RowKit

set_option linter.unusedVariables false
set_option linter.unusedSimpArgs false
set_option maxRecDepth 100000 in
set_option maxHeartbeats 8000000 in
theorem subjectLaw (rpa rpl : Int) (og hop med pref aas aad ori : Int) (hm hp atm ha ho : Bool) (pA cA kA uA : Option Addr) (pn pc cn cc kn kc un uc : Nat) (p us : Path) (cm cl : List Int) (rpeer rkind rrtr : Int) (stale : Bool) (met : Int) (w : World) (hL : Lists w w.heap.size pA cA kA uA pn pc cn cc kn kc un uc p cm cl us) (hs : (flat p).length ≤ 1048576) (hus : (flat us).length ≤ 1048576) :
    Calls Try.prog 5 #[.agg #[.int .u32 rpa, .int .i64 rpl, .int .i64 og, .slice pA pn pc, .int .u32 hop, .bool hm, .int .i64 med, .bool hp, .int .i64 pref, .bool atm, .bool ha, .int .i64 aas, .int .u32 aad, .slice cA cn cc, .bool ho, .int .u32 ori, .slice kA kn kc, .slice uA un uc, .int .i64 rpeer, .int .i64 rkind, .int .u32 rrtr, .bool stale], .int .i64 met] w fun e w' => e = .returned (.bool true) ∧ Below w.heap.size w w' := by
  have HL := Lib.hid hL
  obtain ⟨w1, hw1⟩ : ∃ w1, w.alloc (.cells #[.int .u32 rpa, .int .i64 rpl, .int .i64 og, .slice pA pn pc, .int .u32 hop, .bool hm, .int .i64 med, .bool hp, .int .i64 pref, .bool atm, .bool ha, .int .i64 aas, .int .u32 aad, .slice cA cn cc, .bool ho, .int .u32 ori, .slice kA kn kc, .slice uA un uc, .int .i64 rpeer, .int .i64 rkind, .int .u32 rrtr, .bool stale] 49) = w1 := ⟨_, rfl⟩
  have hbA : Blk w1 w.heap.size 49 [.int .u32 rpa, .int .i64 rpl, .int .i64 og, .slice pA pn pc, .int .u32 hop, .bool hm, .int .i64 med, .bool hp, .int .i64 pref, .bool atm, .bool ha, .int .i64 aas, .int .u32 aad, .slice cA cn cc, .bool ho, .int .u32 ori, .slice kA kn kc, .slice uA un uc, .int .i64 rpeer, .int .i64 rkind, .int .u32 rrtr, .bool stale] := by rw [← hw1]; exact Blk.new w _ _
  have hb1 : Below w.heap.size w w1 := by rw [← hw1]; exact belowA _ _
  have HB1 := Lib.hid hb1
  have HKA := Lib.hid hbA
  have HC := Lib.hid (large36_any og hop med pref aas aad ori hm hp atm ha ho pA cA kA uA pn pc cn cc kn kc un uc p us cm cl w1 (HL.out.grow hb1 (Nat.le_refl _)) hs hus)
  have hpl := hL.path.len
  have HSZ : Hid (¬ 3000 < sizeR p cm cl us → p.length + (flat p).length ≤ 3000) := by
    intro h
    unfold sizeR size0 at h
    omega
  have hlt1 : w.heap.size < w1.heap.size := hbA.lt
  have r0 := HKA.out.cell 0
  have r1 := HKA.out.cell 1
  have r2 := HKA.out.cell 2
  have r3 := HKA.out.cell 3
  have r4 := HKA.out.cell 4
  have r5 := HKA.out.cell 5
  have r6 := HKA.out.cell 6
  have r7 := HKA.out.cell 7
  have r8 := HKA.out.cell 8
  have r9 := HKA.out.cell 9
  have r10 := HKA.out.cell 10
  have r11 := HKA.out.cell 11
  have r12 := HKA.out.cell 12
  have r13 := HKA.out.cell 13
  have r14 := HKA.out.cell 14
  have r15 := HKA.out.cell 15
  have r16 := HKA.out.cell 16
  have r17 := HKA.out.cell 17
  have r18 := HKA.out.cell 18
  have r19 := HKA.out.cell 19
  have r20 := HKA.out.cell 20
  have r21 := HKA.out.cell 21
  simp only [List.getElem?_cons_zero, List.getElem?_cons_succ] at r0 r1 r2 r3 r4 r5 r6 r7 r8 r9 r10 r11 r12 r13 r14 r15 r16 r17 r18 r19 r20 r21
  clear hL hbA hb1 hpl
  go_enter Try.func5, Try.ntmps5
  go_wp2_with fail
  refine HC.out.mono ?_
  rintro e w2 ⟨rfl, hb⟩
  clear HC hw1 hlt1 r0 r1 r2 r3 r4 r5 r6 r7 r8 r9 r10 r11 r12 r13 r14 r15 r16 r17 r18 r19 r20 r21
  have HKA2 := Lib.hid (HKA.out.keep hb)
  have HB2 := Lib.hid (HB1.out.trans (hb.mono HB1.out.size))
  clear hb HKA HB1
  by_cases hl : 3000 < sizeR p cm cl us
  case pos =>
    rw [decide_eq_true hl]
    clear hl HSZ
    go_wp2_with fail
    refine (awake41_any w2).mono ?_
    rintro e w3 ⟨rfl, hb⟩
    have HB3 := Lib.hid (below3 HB2.out hb)
    clear hb
    go_wp2
    go_ret
    exact ⟨rfl, HB3.out⟩
  have hszp := HSZ.out hl
  have hsm : Sm p := by unfold Sm; omega
  rw [decide_eq_false hl]
  clear hl HSZ
  obtain ⟨px, hpx⟩ : ∃ px, (if hp = true then pref else 100) = px := ⟨_, rfl⟩
  obtain ⟨pr, hpr⟩ : ∃ pr, protoR rkind = pr := ⟨_, rfl⟩
  have H1 : Hid (∀ W, Below w2.heap.size w2 W → Calls Try.prog 17 #[.agg #[.int .u32 rpa, .int .i64 rpl, .int .i64 og, .slice pA pn pc, .int .u32 hop, .bool hm, .int .i64 med, .bool hp, .int .i64 pref, .bool atm, .bool ha, .int .i64 aas, .int .u32 aad, .slice cA cn cc, .bool ho, .int .u32 ori, .slice kA kn kc, .slice uA un uc, .int .i64 rpeer, .int .i64 rkind, .int .u32 rrtr, .bool stale], .int .i64 met] W (GivesSub rpa rpl pr hop px med met 0 (flat p) cm W)) := by
    intro W hW
    have hbw := HB2.out.trans (hW.mono HB2.out.size)
    have := subject_any rpa rpl og hop med pref aas aad ori hm hp atm ha ho pA cA kA uA pn pc cn cc kn kc un uc p us cm cl rpeer rkind rrtr stale met W (HL.out.grow hbw (Nat.le_refl _)) hsm
    rw [hpx, hpr] at this
    exact this
  have H2 : Hid (∀ W, Below w2.heap.size w2 W → Calls Try.prog 18 #[.agg #[.int .u32 rpa, .int .i64 rpl, .int .i64 og, .slice pA pn pc, .int .u32 hop, .bool hm, .int .i64 med, .bool hp, .int .i64 pref, .bool atm, .bool ha, .int .i64 aas, .int .u32 aad, .slice cA cn cc, .bool ho, .int .u32 ori, .slice kA kn kc, .slice uA un uc, .int .i64 rpeer, .int .i64 rkind, .int .u32 rrtr, .bool stale], .int .i64 met] W (GivesSub rpa rpl pr hop px med met 0 (flat p) cm W)) := by
    intro W hW
    have hbw := HB2.out.trans (hW.mono HB2.out.size)
    have := refSubject_any rpa rpl og hop med pref aas aad ori hm hp atm ha ho pA cA kA uA pn pc cn cc kn kc un uc p us cm cl rpeer rkind rrtr stale met W (HL.out.grow hbw (Nat.le_refl _)) hsm
    rw [hpx, hpr] at this
    exact this
  have HS : Hid (∀ V, Below w2.heap.size w2 V → Blk V w.heap.size 49 [.int .u32 rpa, .int .i64 rpl, .int .i64 og, .slice pA pn pc, .int .u32 hop, .bool hm, .int .i64 med, .bool hp, .int .i64 pref, .bool atm, .bool ha, .int .i64 aas, .int .u32 aad, .slice cA cn cc, .bool ho, .int .u32 ori, .slice kA kn kc, .slice uA un uc, .int .i64 rpeer, .int .i64 rkind, .int .u32 rrtr, .bool stale]) := fun V h => HKA2.out.keep h
  have HC0 : Hid (Below w2.heap.size w2 w2.drew) := (Below.refl _ _).drew
  have hlt2 : w.heap.size < w2.heap.size := HKA2.out.lt
  clear hpx hpr hs hus hszp hsm
  go_upto_region 3 with fail
  refine wp_region_noPanic ?_
  refine wp_region_held_drew (S := fun V => Blk V w.heap.size 49 [.int .u32 rpa, .int .i64 rpl, .int .i64 og, .slice pA pn pc, .int .u32 hop, .bool hm, .int .i64 med, .bool hp, .int .i64 pref, .bool atm, .bool ha, .int .i64 aas, .int .u32 aad, .slice cA cn cc, .bool ho, .int .u32 ori, .slice kA kn kc, .slice uA un uc, .int .i64 rpeer, .int .i64 rkind, .int .u32 rrtr, .bool stale]) (by kernel_rfl) (HS.out _ HC0.out) (fun hHeld => ?_)
  refine take_in (i := 0) _ (some 9) (by kernel_rfl) (by kernel_rfl) (by kernel_rfl) (by kernel_rfl) (fun _ _ _ h => h) (by rfl) (fun o ho w hSw => by cases ho; exact run_load_blk _ _ rfl _ rfl (hSw) _ Try.underlying49 rfl (by kernel_rfl)) hHeld ?_
  try simp only [Act.put, List.setIfInBounds_toArray, List.set_cons_zero, List.set_cons_succ]
  refine take_in (i := 1) _ (some 10) (by kernel_rfl) (by kernel_rfl) (by kernel_rfl) (by kernel_rfl) (fun _ _ _ h => h) (by rfl) (fun o ho w hSw => by cases ho; (try dsimp only at hSw); (try go_split_ands); go_simp; (try with_reducible rfl)) hHeld ?_
  try simp only [Act.put, List.setIfInBounds_toArray, List.set_cons_zero, List.set_cons_succ]
  refine take_in (i := 3) _ (some 12) (by kernel_rfl) (by kernel_rfl) (by kernel_rfl) (by kernel_rfl) (fun _ _ _ h => h) (by rfl) (fun o ho w hSw => by cases ho; exact run_load_blk _ _ rfl _ rfl (hSw) _ Try.underlying49 rfl (by kernel_rfl)) hHeld ?_
  try simp only [Act.put, List.setIfInBounds_toArray, List.set_cons_zero, List.set_cons_succ]
  refine take_in (i := 4) _ (some 13) (by kernel_rfl) (by kernel_rfl) (by kernel_rfl) (by kernel_rfl) (fun _ _ _ h => h) (by rfl) (fun o ho w hSw => by cases ho; (try dsimp only at hSw); (try go_split_ands); go_simp; (try with_reducible rfl)) hHeld ?_
  try simp only [Act.put, List.setIfInBounds_toArray, List.set_cons_zero, List.set_cons_succ]
  refine wpAnyH_ready (rs := [2]) (by kernel_rfl) (by simp) ?_
  refine AllReadyH.cons (o := _) rfl (fun K hK => ?_) AllReadyH.nil
  go_simp
  go_at_call 17
  with_reducible refine (H1.out _ HC0.out).mono ?_
  rintro e wX ⟨fA, eA, fn, fc, en, ec, rfl, hf1, hc1, hbX⟩
  have HF1 := Lib.hid hf1
  have HC1 := Lib.hid hc1
  have HCX := Lib.hid (below3 HC0.out hbX)
  clear hbX hf1 hc1
  refine hK.out _ _ (HS.out _ HCX.out) (fun hHeld => ?_)
  clear hK K
  try simp only [Act.put, List.setIfInBounds_toArray, List.set_cons_zero, List.set_cons_succ]
  refine wpAnyH_ready (rs := [5]) (by kernel_rfl) (by simp) ?_
  refine AllReadyH.cons (o := _) rfl (fun K hK => ?_) AllReadyH.nil
  go_simp
  go_at_call 18
  with_reducible refine (H2.out _ HCX.out).mono ?_
  rintro e wY ⟨fB, eB, fn2, fd, en2, ed, rfl, hf2, hc2, hbY⟩
  obtain rfl : fn2 = fn := by rw [← hf2.len, ← HF1.out.len]
  obtain rfl : en2 = en := by rw [← hc2.len, ← HC1.out.len]
  have HF1Y := Lib.hid ((HF1.out.below hbY).more hbY.size)
  have HC1Y := Lib.hid ((HC1.out.below hbY).more hbY.size)
  have HF2 := Lib.hid hf2
  have HC2 := Lib.hid hc2
  have HCY := Lib.hid (below3 HCX.out hbY)
  clear hbY hf2 hc2 HF1 HC1
  refine hK.out _ _ (HS.out _ HCY.out) (fun hHeld => ?_)
  clear hK K
  try simp only [Act.put, List.setIfInBounds_toArray, List.set_cons_zero, List.set_cons_succ]
  refine wpAnyH_ready (rs := [6]) (by kernel_rfl) (by simp) ?_
  refine AllReadyH.cons (o := _) rfl (fun K hK => ?_) AllReadyH.nil
  go_simp
  go_at_call 16
  with_reducible refine (same21_true rpa rpl pr hop px med met 0 fA eA fB eB fn2 fc en2 ec fd ed (flat p) cm _ HF1Y.out HC1Y.out HF2.out HC2.out).mono ?_
  rintro e wZ ⟨rfl, hbZ⟩
  have HCZ := Lib.hid (below3 HCY.out hbZ)
  clear hbZ
  refine hK.out _ _ (HS.out _ HCZ.out) (fun hHeld => ?_)
  clear hK K
  try simp only [Act.put, List.setIfInBounds_toArray, List.set_cons_zero, List.set_cons_succ]
  refine take_in (i := 7) _ (some 16) (by kernel_rfl) (by kernel_rfl) (by kernel_rfl) (by kernel_rfl) (fun _ _ _ h => h) (by rfl) (fun o ho w hSw => by cases ho; (try dsimp only at hSw); (try go_split_ands); go_simp; (try with_reducible rfl)) hHeld ?_
  try simp only [Act.put, List.setIfInBounds_toArray, List.set_cons_zero, List.set_cons_succ]
  refine wpAnyH_ready (rs := [8]) (by kernel_rfl) (by simp) ?_
  refine AllReadyH.cons (o := _) rfl (fun K hK => ?_) AllReadyH.nil
  go_simp
  go_at_call 11
  with_reducible refine (awake41_any _).mono ?_
  rintro e wU ⟨rfl, hbU⟩
  have HCU := Lib.hid (below3 HCZ.out hbU)
  clear hbU
  refine hK.out _ _ (HS.out _ HCU.out) (fun hHeld => ?_)
  clear hK K
  try simp only [Act.put, List.setIfInBounds_toArray, List.set_cons_zero, List.set_cons_succ]
  refine take_in (i := 9) _ (some 18) (by kernel_rfl) (by kernel_rfl) (by kernel_rfl) (by kernel_rfl) (fun _ _ _ h => h) (by rfl) (fun o ho w hSw => by cases ho; (try dsimp only at hSw); (try go_split_ands); go_simp; (try with_reducible rfl)) hHeld ?_
  try simp only [Act.put, List.setIfInBounds_toArray, List.set_cons_zero, List.set_cons_succ]
  refine take_in (i := 10) _ (some 4) (by kernel_rfl) (by kernel_rfl) (by kernel_rfl) (by kernel_rfl) (fun _ _ _ h => h) (by rfl) (fun o ho w hSw => by cases ho; (try dsimp only at hSw); (try go_split_ands); go_simp; (try with_reducible rfl)) hHeld ?_
  try simp only [Act.put, List.setIfInBounds_toArray, List.set_cons_zero, List.set_cons_succ]
  refine wpAnyH_done (by kernel_rfl) ?_ _
  refine NoPanic.normal ?_
  have HBF := Lib.hid (HB2.out.trans (HCU.out.mono HB2.out.size))
  go_wp2
  go_ret
  exact ⟨rfl, HBF.out⟩
theorem advertiseSubject_walk (v0 : Value) (i : Int) (w : World) (h0 : RouteIn w v0) (_h1 : (Lit.int .i64 i).wf = true) :
    Calls Try.prog 5 #[v0, .int .i64 i] w fun e w' => e = .returned (.bool true) ∧ Below w.heap.size w w' := by
  obtain ⟨rpa, rpl, og, hop, med, pref, aas, aad, ori, hm, hp, atm, ha, ho, pA, cA, kA, uA, pn, pc, cn, cc, kn, kc, un, uc, p, us, cm, cl, rpeer, rkind, rrtr, stale, rfl, hL, hs, hus⟩ := h0
  exact subjectLaw rpa rpl og hop med pref aas aad ori hm hp atm ha ho pA cA kA uA pn pc cn cc kn kc un uc p us cm cl rpeer rkind rrtr stale i w hL hs hus
end Go.Proofs.Ytojgohgeagbkbaa
