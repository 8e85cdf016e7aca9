/- Changed, the program's: the walk. -/
import Derived.Test.YtojgohgeagbkbaaChgR
import Derived.BigRegion
import Derived.Deep.DeepCutAuto
import Derived.Deep.CutBlock
namespace Go.Proofs.Ytojgohgeagbkbaa
open Go.RowKit

set_option linter.unusedVariables false
set_option linter.unusedSimpArgs false
set_option maxRecDepth 100000 in
set_option maxHeartbeats 8000000 in
theorem changed_any (og hop med pref aas aad ori : Int) (hm hp atm ha ho : Bool) (pA cA kA uA : Option Addr) (pn pc cn cc kn kc un uc : Nat) (p us : Path) (cm cl : List Int) (spab splb sprb shopb sprefb smedb smetb stagb : Int) (fAb eAb : Option Addr) (fnb fcb enb ecb : Nat) (flb cmsb : List Int) (spaa spla spra shopa sprefa smeda smeta staga : Int) (fAa eAa : Option Addr) (fna fca ena eca : Nat) (fla cmsa : List Int) (w : World) (hL : Lists w w.heap.size pA cA kA uA pn pc cn cc kn kc un uc p cm cl us) (hbp : Ints w w.heap.size .i64 fAb fnb fcb flb) (hap : Ints w w.heap.size .i64 fAa fna fca fla) (hac : Ints w w.heap.size .u32 eAa ena eca cmsa)
    (hs : p.length + (flat p).length + fla.length ≤ 1000000) (hu : (flat us).length ≤ 1000000) (hbn : fnb ≤ 1000000) (hcn : ena ≤ 1000000) :
    Calls Try.prog 20 #[.agg #[.int .i64 og, .slice pA pn pc, .int .u32 hop, .bool hm, .int .i64 med, .bool hp, .int .i64 pref, .bool atm, .bool ha, .int .i64 aas, .int .u32 aad, .slice cA cn cc, .bool ho, .int .u32 ori, .slice kA kn kc, .slice uA un uc], .agg #[.int .u32 spab, .int .i64 splb, .int .i64 sprb, .int .u32 shopb, .slice fAb fnb fcb, .slice eAb enb ecb, .int .i64 sprefb, .int .i64 smedb, .int .i64 smetb, .int .i64 stagb], .agg #[.int .u32 spaa, .int .i64 spla, .int .i64 spra, .int .u32 shopa, .slice fAa fna fca, .slice eAa ena eca, .int .i64 sprefa, .int .i64 smeda, .int .i64 smeta, .int .i64 staga]] w (GivesAtt (changedR ⟨og, p, hop, hm, med, hp, pref, atm, ha, aas, aad, cm, ho, ori, cl, us⟩ flb sprefb smedb fla cmsa shopa sprefa smeda) w) := by
  have HL := Lib.hid hL
  have HBP := Lib.hid hbp
  have HAP := Lib.hid hap
  have HAC := Lib.hid hac
  have hlb := hbp.len
  have hla := hap.len
  obtain ⟨w1, hw1⟩ : ∃ w1, (((w.alloc (.cells #[.int .i64 og, .slice pA pn pc, .int .u32 hop, .bool hm, .int .i64 med, .bool hp, .int .i64 pref, .bool atm, .bool ha, .int .i64 aas, .int .u32 aad, .slice cA cn cc, .bool ho, .int .u32 ori, .slice kA kn kc, .slice uA un uc] 40)).alloc (.cells #[.int .u32 spab, .int .i64 splb, .int .i64 sprb, .int .u32 shopb, .slice fAb fnb fcb, .slice eAb enb ecb, .int .i64 sprefb, .int .i64 smedb, .int .i64 smetb, .int .i64 stagb] 54)).alloc (.cells #[.int .u32 spaa, .int .i64 spla, .int .i64 spra, .int .u32 shopa, .slice fAa fna fca, .slice eAa ena eca, .int .i64 sprefa, .int .i64 smeda, .int .i64 smeta, .int .i64 staga] 54)).alloc (.cells #[.int .i64 0, .slice none 0 0, .int .u32 0, .bool false, .int .i64 0, .bool false, .int .i64 0, .bool false, .bool false, .int .i64 0, .int .u32 0, .slice none 0 0, .bool false, .int .u32 0, .slice none 0 0, .slice none 0 0] 40) = w1 := ⟨_, rfl⟩
  have hbA : Blk w1 w.heap.size 40 [.int .i64 og, .slice pA pn pc, .int .u32 hop, .bool hm, .int .i64 med, .bool hp, .int .i64 pref, .bool atm, .bool ha, .int .i64 aas, .int .u32 aad, .slice cA cn cc, .bool ho, .int .u32 ori, .slice kA kn kc, .slice uA un uc] := by rw [← hw1]; exact (((Blk.new w _ _).keep (belowA _ _)).keep (belowA _ _)).keep (belowA _ _)
  have hbB : Blk w1 (w.heap.size + 1) 54 [.int .u32 spab, .int .i64 splb, .int .i64 sprb, .int .u32 shopb, .slice fAb fnb fcb, .slice eAb enb ecb, .int .i64 sprefb, .int .i64 smedb, .int .i64 smetb, .int .i64 stagb] := by rw [← hw1]; exact ((Blk.new2 w _ _ _).keep (belowA _ _)).keep (belowA _ _)
  have hbS : Blk w1 (w.heap.size + 2) 54 [.int .u32 spaa, .int .i64 spla, .int .i64 spra, .int .u32 shopa, .slice fAa fna fca, .slice eAa ena eca, .int .i64 sprefa, .int .i64 smeda, .int .i64 smeta, .int .i64 staga] := by
    rw [← hw1]
    have := Blk.new2 (w.alloc (.cells #[.int .i64 og, .slice pA pn pc, .int .u32 hop, .bool hm, .int .i64 med, .bool hp, .int .i64 pref, .bool atm, .bool ha, .int .i64 aas, .int .u32 aad, .slice cA cn cc, .bool ho, .int .u32 ori, .slice kA kn kc, .slice uA un uc] 40)) (.cells #[.int .u32 spab, .int .i64 splb, .int .i64 sprb, .int .u32 shopb, .slice fAb fnb fcb, .slice eAb enb ecb, .int .i64 sprefb, .int .i64 smedb, .int .i64 smetb, .int .i64 stagb] 54) 54 #[.int .u32 spaa, .int .i64 spla, .int .i64 spra, .int .u32 shopa, .slice fAa fna fca, .slice eAa ena eca, .int .i64 sprefa, .int .i64 smeda, .int .i64 smeta, .int .i64 staga]
    rw [World.size_alloc] at this
    exact this.keep (belowA _ _)
  have hbZ : Blk w1 (w.heap.size + 3) 40 [.int .i64 0, .slice none 0 0, .int .u32 0, .bool false, .int .i64 0, .bool false, .int .i64 0, .bool false, .bool false, .int .i64 0, .int .u32 0, .slice none 0 0, .bool false, .int .u32 0, .slice none 0 0, .slice none 0 0] := by
    rw [← hw1]
    have := Blk.new2 ((w.alloc (.cells #[.int .i64 og, .slice pA pn pc, .int .u32 hop, .bool hm, .int .i64 med, .bool hp, .int .i64 pref, .bool atm, .bool ha, .int .i64 aas, .int .u32 aad, .slice cA cn cc, .bool ho, .int .u32 ori, .slice kA kn kc, .slice uA un uc] 40)).alloc (.cells #[.int .u32 spab, .int .i64 splb, .int .i64 sprb, .int .u32 shopb, .slice fAb fnb fcb, .slice eAb enb ecb, .int .i64 sprefb, .int .i64 smedb, .int .i64 smetb, .int .i64 stagb] 54)) (.cells #[.int .u32 spaa, .int .i64 spla, .int .i64 spra, .int .u32 shopa, .slice fAa fna fca, .slice eAa ena eca, .int .i64 sprefa, .int .i64 smeda, .int .i64 smeta, .int .i64 staga] 54) 40 #[.int .i64 0, .slice none 0 0, .int .u32 0, .bool false, .int .i64 0, .bool false, .int .i64 0, .bool false, .bool false, .int .i64 0, .int .u32 0, .slice none 0 0, .bool false, .int .u32 0, .slice none 0 0, .slice none 0 0]
    rw [World.size_alloc, World.size_alloc] at this
    exact this
  have hb1 : Below w.heap.size w w1 := by rw [← hw1]; exact below3 (below3 (below3 (belowA _ _) (belowA _ _)) (belowA _ _)) (belowA _ _)
  have HB1 := Lib.hid hb1
  have HKA := Lib.hid hbA
  have HKB := Lib.hid hbB
  have HKS := Lib.hid hbS
  have HKZ := Lib.hid hbZ
  have HC := Lib.hid (attCheck_any og hop med pref aas aad ori hm hp atm ha ho pA cA kA uA pn pc cn cc kn kc un uc p us cm cl w1 (HL.out.grow hb1 (Nat.le_refl _)))
  clear hL hbp hap hac hbA hbB hbS hbZ hb1
  go_enter Try.func20, Try.ntmps20
  go_wp2_with (first | (rw [hw1]; refine wpList_load_blk rfl 40 _ rfl w.heap.size rfl HKA.out _ Try.underlying40 rfl (by kernel_rfl) ?_) | (refine wpList_load_blk rfl 40 _ rfl w.heap.size rfl HKA.out _ Try.underlying40 rfl (by kernel_rfl) ?_))
  refine HC.out.mono ?_
  rintro e w2 ⟨rfl, hb⟩
  clear HC hw1
  obtain ⟨ae, hae⟩ : ∃ ae, attErr ⟨og, p, hop, hm, med, hp, pref, atm, ha, aas, aad, cm, ho, ori, cl, us⟩ = ae := ⟨_, rfl⟩
  rw [hae]
  have HAE := Lib.hid hae
  have HKA2 := Lib.hid (HKA.out.keep hb)
  have HKB2 := Lib.hid (HKB.out.keep hb)
  have HKS2 := Lib.hid (HKS.out.keep hb)
  have HKZ2 := Lib.hid (HKZ.out.keep hb)
  have HB2 := Lib.hid (HB1.out.trans (hb.mono HB1.out.size))
  clear hb hae HKA HKB HKS HKZ HB1
  cases hae0 : (ae == 0)
  case false =>
    have HF : Hid (changedR ⟨og, p, hop, hm, med, hp, pref, atm, ha, aas, aad, cm, ho, ori, cl, us⟩ flb sprefb smedb fla cmsa shopa sprefa smeda = (zeroAtt, ae)) := by show _ = _; unfold changedR; rw [HAE.out, if_neg (by rw [hae0]; simp)]
    have hne : (ae != 0) = true := by simpa using hae0
    obtain ⟨wz, hwz⟩ : ∃ wz, w2.setRow (w.heap.size + 3) #[.int .i64 0, .slice none 0 0, .int .u32 0, .bool false, .int .i64 0, .bool false, .int .i64 0, .bool false, .bool false, .int .i64 0, .int .u32 0, .slice none 0 0, .bool false, .int .u32 0, .slice none 0 0, .slice none 0 0] = wz := ⟨_, rfl⟩
    have HKZ9 : Hid (Blk wz (w.heap.size + 3) 40 [.int .i64 0, .slice none 0 0, .int .u32 0, .bool false, .int .i64 0, .bool false, .int .i64 0, .bool false, .bool false, .int .i64 0, .int .u32 0, .slice none 0 0, .bool false, .int .u32 0, .slice none 0 0, .slice none 0 0]) := by show Blk _ _ _ _; rw [← hwz]; exact HKZ2.out.row _
    have HB9 : Hid (Below w.heap.size w wz) := by show Below _ _ _; rw [← hwz]; exact HB2.out.trans ((Save.row (w.heap.size + 3) w2 _).below (by omega) HB2.out.size)
    go_wp2_with (refine wpList_store_blk rfl 40 _ _ rfl (w.heap.size + 3) rfl rfl HKZ2.out (by kernel_rfl) rfl (by kernel_rfl) ?_)
    try rw [hwz]
    refine bodyPost_ret (results_cell_row2 rfl _ (w.heap.size + 3) _ rfl HKZ9.out Try.underlying40 rfl (by kernel_rfl)) rfl ?_
    rw [HF.out]
    exact ⟨none, none, none, none, 0, 0, 0, 0, 0, 0, 0, 0, rfl, lists_zero _ _, HB9.out⟩
  obtain rfl : ae = 0 := by simpa using hae0
  clear hae0
  have hzz : w.heap.size + 3 < w2.heap.size := HKZ2.out.lt
  have lA : w.heap.size < w2.heap.size := by omega
  have lB : w.heap.size + 1 < w2.heap.size := by omega
  have lS : w.heap.size + 2 < w2.heap.size := by omega
  have b4 := HKB2.out.cell 4
  have s4 := HKS2.out.cell 4
  simp only [List.getElem?_cons_zero, List.getElem?_cons_succ] at b4 s4
  by_cases hlt : fna < fnb
  case pos =>
    have HF : Hid (changedR ⟨og, p, hop, hm, med, hp, pref, atm, ha, aas, aad, cm, ho, ori, cl, us⟩ flb sprefb smedb fla cmsa shopa sprefa smeda = (zeroAtt, 1)) := by
      show _ = _
      unfold changedR
      rw [HAE.out, if_pos (show ((0 : Int) == 0) = true from rfl), if_neg (by unfold endsB; rw [hlb, hla, decide_eq_false (by omega)]; simp)]
    have hn0 : decide ((fna : Int) - (fnb : Int) < 0) = true := by simp; omega
    go_upto_region 5 with fail
    go_quiet (fail)
    obtain ⟨w3, hw3⟩ : ∃ w3, w2.drewN nq = w3 := ⟨_, rfl⟩
    have HKZ3 : Hid (Blk w3 (w.heap.size + 3) 40 [.int .i64 0, .slice none 0 0, .int .u32 0, .bool false, .int .i64 0, .bool false, .int .i64 0, .bool false, .bool false, .int .i64 0, .int .u32 0, .slice none 0 0, .bool false, .int .u32 0, .slice none 0 0, .slice none 0 0]) := by show Blk _ _ _ _; rw [← hw3]; exact HKZ2.out
    have HB3 : Hid (Below w.heap.size w w3) := by show Below _ _ _; rw [← hw3]; exact below_drewN HB2.out _
    rw [hw3]
    clear hw3
    obtain ⟨wz, hwz⟩ : ∃ wz, w3.setRow (w.heap.size + 3) #[.int .i64 0, .slice none 0 0, .int .u32 0, .bool false, .int .i64 0, .bool false, .int .i64 0, .bool false, .bool false, .int .i64 0, .int .u32 0, .slice none 0 0, .bool false, .int .u32 0, .slice none 0 0, .slice none 0 0] = wz := ⟨_, rfl⟩
    have HKZ9 : Hid (Blk wz (w.heap.size + 3) 40 [.int .i64 0, .slice none 0 0, .int .u32 0, .bool false, .int .i64 0, .bool false, .int .i64 0, .bool false, .bool false, .int .i64 0, .int .u32 0, .slice none 0 0, .bool false, .int .u32 0, .slice none 0 0, .slice none 0 0]) := by show Blk _ _ _ _; rw [← hwz]; exact HKZ3.out.row _
    have HB9 : Hid (Below w.heap.size w wz) := by show Below _ _ _; rw [← hwz]; exact HB3.out.trans ((Save.row (w.heap.size + 3) w3 _).below (by omega) HB3.out.size)
    go_wp2_with (refine wpList_store_blk rfl 40 _ _ rfl (w.heap.size + 3) rfl rfl HKZ3.out (by kernel_rfl) rfl (by kernel_rfl) ?_)
    try rw [hwz]
    refine bodyPost_ret (results_cell_row2 rfl _ (w.heap.size + 3) _ rfl HKZ9.out Try.underlying40 rfl (by kernel_rfl)) rfl ?_
    rw [HF.out]
    exact ⟨none, none, none, none, 0, 0, 0, 0, 0, 0, 0, 0, rfl, lists_zero _ _, HB9.out⟩
  obtain ⟨dd, hdd⟩ : ∃ dd, fna - fnb = dd := ⟨_, rfl⟩
  have hd : (fna : Int) - (fnb : Int) = (dd : Int) := by omega
  have hn0 : decide ((dd : Int) < 0) = false := by simp
  have hdle : dd ≤ fna := by omega
  have hdi : (dd : Int) ≤ (fna : Int) := by omega
  obtain ⟨A3, c3, hs3, hy3⟩ := HAP.out.sliceFrom (P := Try.prog) (T := 52) (E := 3) Try.underlying52 (by kernel_rfl) (lo := dd) hdle
  have HY3 := Lib.hid hy3
  have HDD := Lib.hid hdd
  have hends : endsB flb fla = decide (fla.drop dd = flb) := by
    unfold endsB
    rw [hlb, hla, hdd, decide_eq_true (show fnb ≤ fna by omega), Bool.true_and]
  have HEN := Lib.hid hends
  obtain ⟨eb, heb⟩ : ∃ eb, decide (fla.drop dd = flb) = eb := ⟨_, rfl⟩
  rw [heb] at HEN
  have HS : Hid (∀ V, Below w2.heap.size w2 V → V.cell? ⟨w.heap.size + 1, 4, none⟩ = some (.slice fAb fnb fcb) ∧ V.cell? ⟨w.heap.size + 2, 4, none⟩ = some (.slice fAa fna fca)) := fun V h => ⟨(HKB2.out.keep h).cell 4, (HKS2.out.keep h).cell 4⟩
  have HC : Hid (Below w2.heap.size w2 w2.drew) := (Below.refl _ _).drew
  have HEB := Lib.hid heb
  clear hends hy3 hdd heb
  go_upto_region 5 with fail
  go_cut [35] (fun v wx => v = .bool (!eb) ∧ Hid (Below w2.heap.size w2 wx))
  case first =>
    refine wp_region_noPanic ?_
    refine wp_region_held_drew (S := fun V => V.cell? ⟨w.heap.size + 1, 4, none⟩ = some (.slice fAb fnb fcb) ∧ V.cell? ⟨w.heap.size + 2, 4, none⟩ = some (.slice fAa fna fca)) (by kernel_rfl) (HS.out _ HC.out) (fun hHeld => ?_)
    refine take_in (i := 0) _ (some 24) (by kernel_rfl) (by kernel_rfl) (by kernel_rfl) (by kernel_rfl) (fun _ _ _ h => h) (by rfl) (fun o ho w hSw => by cases ho; (try dsimp only at hSw); (try go_split_ands); go_simp; (try with_reducible rfl)) hHeld ?_
    try simp only [Act.put, List.setIfInBounds_toArray, List.set_cons_zero, List.set_cons_succ]
    refine take_in (i := 1) _ (some 25) (by kernel_rfl) (by kernel_rfl) (by kernel_rfl) (by kernel_rfl) (fun _ _ _ h => h) (by rfl) (fun o ho w hSw => by cases ho; (try dsimp only at hSw); (try go_split_ands); go_simp; (try with_reducible rfl)) hHeld ?_
    try simp only [Act.put, List.setIfInBounds_toArray, List.set_cons_zero, List.set_cons_succ]
    refine take_in (i := 2) _ (some 26) (by kernel_rfl) (by kernel_rfl) (by kernel_rfl) (by kernel_rfl) (fun _ _ _ h => h) (by rfl) (fun o ho w hSw => by cases ho; (try dsimp only at hSw); (try go_split_ands); go_simp; (try with_reducible rfl)) hHeld ?_
    try simp only [Act.put, List.setIfInBounds_toArray, List.set_cons_zero, List.set_cons_succ]
    refine take_in (i := 3) _ (some 27) (by kernel_rfl) (by kernel_rfl) (by kernel_rfl) (by kernel_rfl) (fun _ _ _ h => h) (by rfl) (fun o ho w hSw => by cases ho; (try dsimp only at hSw); (try go_split_ands); go_simp; (try with_reducible rfl)) hHeld ?_
    try simp only [Act.put, List.setIfInBounds_toArray, List.set_cons_zero, List.set_cons_succ]
    refine take_in (i := 4) _ (some 28) (by kernel_rfl) (by kernel_rfl) (by kernel_rfl) (by kernel_rfl) (fun _ _ _ h => h) (by rfl) (fun o ho w hSw => by cases ho; (try dsimp only at hSw); (try go_split_ands); go_simp; (try with_reducible rfl)) hHeld ?_
    try simp only [Act.put, List.setIfInBounds_toArray, List.set_cons_zero, List.set_cons_succ]
    refine take_in (i := 5) _ (some 29) (by kernel_rfl) (by kernel_rfl) (by kernel_rfl) (by kernel_rfl) (fun _ _ _ h => h) (by rfl) (fun o ho w hSw => by cases ho; (try dsimp only at hSw); (try go_split_ands); go_simp; (try with_reducible rfl)) hHeld ?_
    try simp only [Act.put, List.setIfInBounds_toArray, List.set_cons_zero, List.set_cons_succ]
    refine take_in (i := 6) _ (some 30) (by kernel_rfl) (by kernel_rfl) (by kernel_rfl) (by kernel_rfl) (fun _ _ _ h => h) (by rfl) (fun o ho w hSw => by cases ho; (try dsimp only at hSw); (try go_split_ands); go_simp; (try with_reducible rfl)) hHeld ?_
    try simp only [Act.put, List.setIfInBounds_toArray, List.set_cons_zero, List.set_cons_succ]
    refine take_in (i := 7) _ (some 31) (by kernel_rfl) (by kernel_rfl) (by kernel_rfl) (by kernel_rfl) (fun _ _ _ h => h) (by rfl) (fun o ho w hSw => by cases ho; (try dsimp only at hSw); (try go_split_ands); go_simp; (try with_reducible rfl)) hHeld ?_
    try simp only [Act.put, List.setIfInBounds_toArray, List.set_cons_zero, List.set_cons_succ]
    refine take_in (i := 8) _ (some 32) (by kernel_rfl) (by kernel_rfl) (by kernel_rfl) (by kernel_rfl) (fun _ _ _ h => h) (by rfl) (fun o ho w hSw => by cases ho; (try dsimp only at hSw); (try go_split_ands); go_simp; (try with_reducible rfl)) hHeld ?_
    try simp only [Act.put, List.setIfInBounds_toArray, List.set_cons_zero, List.set_cons_succ]
    refine wpAnyH_ready (rs := [9]) (by kernel_rfl) (by simp) ?_
    refine AllReadyH.cons (o := _) rfl (fun K hK => ?_) AllReadyH.nil
    go_simp
    go_at_call 45
    with_reducible refine (equalInts_any A3 fAb (fna - dd) c3 fnb fcb w.heap.size w.heap.size _ _ _ (HY3.out.below (HB2.out.trans (HC.out.mono HB2.out.size))) (HBP.out.below (HB2.out.trans (HC.out.mono HB2.out.size)))).mono ?_
    rintro e wX ⟨rfl, hbX⟩
    have HCX := Lib.hid (below3 HC.out hbX)
    rw [HEB.out]
    clear hbX
    refine hK.out _ _ (HS.out _ HCX.out) (fun hHeld => ?_)
    clear hK K
    try simp only [Act.put, List.setIfInBounds_toArray, List.set_cons_zero, List.set_cons_succ]
    refine take_in (i := 10) _ (some 34) (by kernel_rfl) (by kernel_rfl) (by kernel_rfl) (by kernel_rfl) (fun _ _ _ h => h) (by rfl) (fun o ho w hSw => by cases ho; (try dsimp only at hSw); (try go_split_ands); go_simp; (try with_reducible rfl)) hHeld ?_
    try simp only [Act.put, List.setIfInBounds_toArray, List.set_cons_zero, List.set_cons_succ]
    refine take_in (i := 11) _ (some 35) (by kernel_rfl) (by kernel_rfl) (by kernel_rfl) (by kernel_rfl) (fun _ _ _ h => h) (by rfl) (fun o ho w hSw => by cases ho; (try dsimp only at hSw); (try go_split_ands); go_simp; (try with_reducible rfl)) hHeld ?_
    try simp only [Act.put, List.setIfInBounds_toArray, List.set_cons_zero, List.set_cons_succ]
    refine wpAnyH_done (by kernel_rfl) ?_ _
    refine NoPanic.normal ?_
    go_wp2
    go_meet
    exact ⟨rfl, HCX⟩
  case rest =>
    obtain ⟨rfl, hbw⟩ := hcut
    obtain ⟨w3, rfl⟩ : ∃ w3 : World, w3 = wc := ⟨_, rfl⟩
    have HKA3 := Lib.hid (HKA2.out.keep hbw.out)
    have HKB3 := Lib.hid (HKB2.out.keep hbw.out)
    have HKS3 := Lib.hid (HKS2.out.keep hbw.out)
    have HKZ3 := Lib.hid (HKZ2.out.keep hbw.out)
    have HB3 := Lib.hid (HB2.out.trans (hbw.out.mono HB2.out.size))
    clear hbw HS HC HKA2 HKB2 HKS2 HKZ2 HB2 b4 s4 lA lB lS
    cases eb
    case false =>
      have HF : Hid (changedR ⟨og, p, hop, hm, med, hp, pref, atm, ha, aas, aad, cm, ho, ori, cl, us⟩ flb sprefb smedb fla cmsa shopa sprefa smeda = (zeroAtt, 1)) := by show _ = _; unfold changedR; rw [HAE.out, if_pos (show ((0 : Int) == 0) = true from rfl), if_neg (by rw [HEN.out]; simp)]
      obtain ⟨wz, hwz⟩ : ∃ wz, w3.setRow (w.heap.size + 3) #[.int .i64 0, .slice none 0 0, .int .u32 0, .bool false, .int .i64 0, .bool false, .int .i64 0, .bool false, .bool false, .int .i64 0, .int .u32 0, .slice none 0 0, .bool false, .int .u32 0, .slice none 0 0, .slice none 0 0] = wz := ⟨_, rfl⟩
      have HKZ9 : Hid (Blk wz (w.heap.size + 3) 40 [.int .i64 0, .slice none 0 0, .int .u32 0, .bool false, .int .i64 0, .bool false, .int .i64 0, .bool false, .bool false, .int .i64 0, .int .u32 0, .slice none 0 0, .bool false, .int .u32 0, .slice none 0 0, .slice none 0 0]) := by show Blk _ _ _ _; rw [← hwz]; exact HKZ3.out.row _
      have HB9 : Hid (Below w.heap.size w wz) := by show Below _ _ _; rw [← hwz]; exact HB3.out.trans ((Save.row (w.heap.size + 3) w3 _).below (by omega) HB3.out.size)
      go_wp2_with (refine wpList_store_blk rfl 40 _ _ rfl (w.heap.size + 3) rfl rfl HKZ3.out (by kernel_rfl) rfl (by kernel_rfl) ?_)
      try rw [hwz]
      refine bodyPost_ret (results_cell_row2 rfl _ (w.heap.size + 3) _ rfl HKZ9.out Try.underlying40 rfl (by kernel_rfl)) rfl ?_
      rw [HF.out]
      exact ⟨none, none, none, none, 0, 0, 0, 0, 0, 0, 0, 0, rfl, lists_zero _ _, HB9.out⟩
    have HF : Hid (changedR ⟨og, p, hop, hm, med, hp, pref, atm, ha, aas, aad, cm, ho, ori, cl, us⟩ flb sprefb smedb fla cmsa shopa sprefa smeda =
      (if decide (64 < (insR p (fla.take dd)).length) = true then (zeroAtt, 4) else if (attErr (chgAll ⟨og, p, hop, hm, med, hp, pref, atm, ha, aas, aad, cm, ho, ori, cl, us⟩ flb sprefb smedb fla cmsa shopa sprefa smeda) == 0) = true then (chgAll ⟨og, p, hop, hm, med, hp, pref, atm, ha, aas, aad, cm, ho, ori, cl, us⟩ flb sprefb smedb fla cmsa shopa sprefa smeda, 0) else (zeroAtt, attErr (chgAll ⟨og, p, hop, hm, med, hp, pref, atm, ha, aas, aad, cm, ho, ori, cl, us⟩ flb sprefb smedb fla cmsa shopa sprefa smeda)))) := by
      show _ = _
      unfold changedR
      rw [HAE.out, if_pos (show ((0 : Int) == 0) = true from rfl), if_pos HEN.out, hlb, hla, HDD.out]
    have HALL : Hid (chgAll ⟨og, p, hop, hm, med, hp, pref, atm, ha, aas, aad, cm, ho, ori, cl, us⟩ flb sprefb smedb fla cmsa shopa sprefa smeda = chPath (chHop (chMed (chPref ⟨og, p, hop, hm, med, hp, pref, atm, ha, aas, aad, cm, ho, ori, cl, us⟩ sprefa sprefb) smeda smedb) shopa cmsa) (insR p (fla.take dd))) := by
      show _ = _
      unfold chgAll
      rw [hlb, hla, HDD.out]
    have hzz3 : w.heap.size + 3 < w3.heap.size := HKZ3.out.lt
    have HC := Lib.hid (pvcopy_any2 og hop med pref aas aad ori hm hp atm ha ho pA cA kA uA pn pc cn cc kn kc un uc p us cm cl w.heap.size w3 (HL.out.below HB3.out) HB3.out.size (by omega) hu)
    go_wp2_with (refine wpList_load_blk rfl 40 _ rfl w.heap.size rfl HKA3.out _ Try.underlying40 rfl (by kernel_rfl) ?_)
    refine HC.out.mono ?_
    rintro e w4 ⟨pA', cA', kA', uA', pc', cc', kc', uc', rfl, hL4, hb4, hz4⟩
    have HKA4 := Lib.hid (HKA3.out.keep hb4)
    obtain ⟨w5, hw5⟩ : ∃ w5, w4.setRow w.heap.size #[.int .i64 og, .slice pA' pn pc', .int .u32 hop, .bool hm, .int .i64 med, .bool hp, .int .i64 pref, .bool atm, .bool ha, .int .i64 aas, .int .u32 aad, .slice cA' cn cc', .bool ho, .int .u32 ori, .slice kA' kn kc', .slice uA' un uc'] = w5 := ⟨_, rfl⟩
    have hs5 : Save w.heap.size w4 w5 := by rw [← hw5]; exact Save.row _ _ _
    have HI0 : Hid (ChI w.heap.size (w3.heap.size + 2) w [.int .u32 spab, .int .i64 splb, .int .i64 sprb, .int .u32 shopb, .slice fAb fnb fcb, .slice eAb enb ecb, .int .i64 sprefb, .int .i64 smedb, .int .i64 smetb, .int .i64 stagb] [.int .u32 spaa, .int .i64 spla, .int .i64 spra, .int .u32 shopa, .slice fAa fna fca, .slice eAa ena eca, .int .i64 sprefa, .int .i64 smeda, .int .i64 smeta, .int .i64 staga] ⟨og, p, hop, hm, med, hp, pref, atm, ha, aas, aad, cm, ho, ori, cl, us⟩ w5) := by
      refine ⟨pA', cA', kA', uA', pn, pc', cn, cc', kn, kc', un, uc', ?_, (HKB3.out.keep hb4).save hs5 (by omega), (HKS3.out.keep hb4).save hs5 (by omega), (HKZ3.out.keep hb4).save hs5 (by omega), (hL4.gap (Gap.of_save hs5 ⟨Nat.le_refl _, by omega⟩ (Nat.le_refl _))).more hs5.size, (HB3.out.trans (hb4.mono HB3.out.size)).trans (hs5.below (Nat.le_refl _) (Nat.le_trans HB3.out.size hb4.size)), ?_⟩
      · show Blk _ _ _ _
        rw [← hw5]
        exact HKA4.out.row _
      · exact Nat.le_trans hz4 hs5.size
    have HKA5 : Hid (Blk w5 w.heap.size 40 [.int .i64 og, .slice pA' pn pc', .int .u32 hop, .bool hm, .int .i64 med, .bool hp, .int .i64 pref, .bool atm, .bool ha, .int .i64 aas, .int .u32 aad, .slice cA' cn cc', .bool ho, .int .u32 ori, .slice kA' kn kc', .slice uA' un uc']) := by
      show Blk _ _ _ _
      rw [← hw5]
      exact HKA4.out.row _
    have HKB5 := Lib.hid ((HKB3.out.keep hb4).save hs5 (by omega))
    have HKS5 := Lib.hid ((HKS3.out.keep hb4).save hs5 (by omega))
    have HKZ5 := Lib.hid ((HKZ3.out.keep hb4).save hs5 (by omega))
    have HL5 := Lib.hid ((hL4.gap (Gap.of_save hs5 ⟨Nat.le_refl _, by omega⟩ (Nat.le_refl _))).more hs5.size)
    have HB5 := Lib.hid ((HB3.out.trans (hb4.mono HB3.out.size)).trans (hs5.below (Nat.le_refl _) (Nat.le_trans HB3.out.size hb4.size)))
    have HH5 : Hid (w3.heap.size + 2 ≤ w5.heap.size) := Nat.le_trans hz4 hs5.size
    have b6 := HKB5.out.cell 6
    have s6 := HKS5.out.cell 6
    simp only [List.getElem?_cons_zero, List.getElem?_cons_succ] at b6 s6
    have lB : w.heap.size + 1 < w5.heap.size := HKB5.out.lt
    have lS : w.heap.size + 2 < w5.heap.size := HKS5.out.lt
    clear hs5 hL4 hb4 hz4 HKA3 HKB3 HKS3 HKZ3 HB3 HC HI0
    go_upto_if 43 with (refine wpList_store_blk rfl 40 _ _ rfl w.heap.size rfl rfl HKA4.out (by kernel_rfl) rfl (by kernel_rfl) ?_)
    try rw [hw5]
    clear hw5 HKA4
    go_cut [] (fun wx => ChI w.heap.size (w3.heap.size + 2) w [.int .u32 spab, .int .i64 splb, .int .i64 sprb, .int .u32 shopb, .slice fAb fnb fcb, .slice eAb enb ecb, .int .i64 sprefb, .int .i64 smedb, .int .i64 smetb, .int .i64 stagb] [.int .u32 spaa, .int .i64 spla, .int .i64 spra, .int .u32 shopa, .slice fAa fna fca, .slice eAa ena eca, .int .i64 sprefa, .int .i64 smeda, .int .i64 smeta, .int .i64 staga] (chPref ⟨og, p, hop, hm, med, hp, pref, atm, ha, aas, aad, cm, ho, ori, cl, us⟩ sprefa sprefb) wx)
    case first =>
      cases hpe : (sprefa != sprefb)
      case true =>
        have a5 := HKA5.out.cell 5
        have a6 := HKA5.out.cell 6
        have f5 := HKA5.out.frozen 5
        have f6 := HKA5.out.frozen 6
        simp only [List.getElem?_cons_zero, List.getElem?_cons_succ] at a5 a6
        have lA : w.heap.size < w5.heap.size := HKA5.out.lt
        have HFIN : Hid (∀ V, Save w.heap.size w5 V → Blk V w.heap.size 40 [.int .i64 og, .slice pA' pn pc', .int .u32 hop, .bool hm, .int .i64 med, .bool true, .int .i64 sprefa, .bool atm, .bool ha, .int .i64 aas, .int .u32 aad, .slice cA' cn cc', .bool ho, .int .u32 ori, .slice kA' kn kc', .slice uA' un uc'] → ChI w.heap.size (w3.heap.size + 2) w [.int .u32 spab, .int .i64 splb, .int .i64 sprb, .int .u32 shopb, .slice fAb fnb fcb, .slice eAb enb ecb, .int .i64 sprefb, .int .i64 smedb, .int .i64 smetb, .int .i64 stagb] [.int .u32 spaa, .int .i64 spla, .int .i64 spra, .int .u32 shopa, .slice fAa fna fca, .slice eAa ena eca, .int .i64 sprefa, .int .i64 smeda, .int .i64 smeta, .int .i64 staga] (chPref ⟨og, p, hop, hm, med, hp, pref, atm, ha, aas, aad, cm, ho, ori, cl, us⟩ sprefa sprefb) V) := fun V hV hk => by
          refine ⟨pA', cA', kA', uA', pn, pc', cn, cc', kn, kc', un, uc', ?_, HKB5.out.save hV (by omega), HKS5.out.save hV (by omega), HKZ5.out.save hV (by omega), (HL5.out.gap (Gap.of_save hV ⟨Nat.le_refl _, by omega⟩ (Nat.le_refl _))).more hV.size, HB5.out.trans (hV.below (Nat.le_refl _) HB5.out.size), Nat.le_trans HH5.out hV.size⟩
          show Blk _ _ _ _
          unfold attCells chPref
          dsimp only
          rw [hpe, if_pos rfl, if_pos rfl]
          exact hk
        go_upto_region 9 with fail
        go_region
        all_goals
          go_wp2
          go_meet
        all_goals first
          | exact HFIN.out _ ((Save.set.trans Save.set).trans Save.drew) ((HKA5.out.set 5 _).set 6 _)
          | exact HFIN.out _ ((Save.set.trans Save.set).trans Save.drew) ((HKA5.out.set 6 _).set 5 _)
      case false =>
        have HFIN : Hid (ChI w.heap.size (w3.heap.size + 2) w [.int .u32 spab, .int .i64 splb, .int .i64 sprb, .int .u32 shopb, .slice fAb fnb fcb, .slice eAb enb ecb, .int .i64 sprefb, .int .i64 smedb, .int .i64 smetb, .int .i64 stagb] [.int .u32 spaa, .int .i64 spla, .int .i64 spra, .int .u32 shopa, .slice fAa fna fca, .slice eAa ena eca, .int .i64 sprefa, .int .i64 smeda, .int .i64 smeta, .int .i64 staga] (chPref ⟨og, p, hop, hm, med, hp, pref, atm, ha, aas, aad, cm, ho, ori, cl, us⟩ sprefa sprefb) w5) := by
          refine ⟨pA', cA', kA', uA', pn, pc', cn, cc', kn, kc', un, uc', ?_, HKB5, HKS5, HKZ5, HL5, HB5, HH5⟩
          show Blk _ _ _ _
          unfold attCells chPref
          dsimp only
          rw [hpe, if_neg (by simp), if_neg (by simp)]
          exact HKA5.out
        go_wp2
        go_meet
        exact HFIN.out
    case rest =>
      clear HKA5 HKB5 HKS5 HKZ5 HL5 HB5 HH5 b6 s6 lB lS
      obtain ⟨hp1, hhp1⟩ : ∃ x, (if (sprefa != sprefb) = true then true else hp) = x := ⟨_, rfl⟩
      obtain ⟨pref1, hpref1⟩ : ∃ x, (if (sprefa != sprefb) = true then sprefa else pref) = x := ⟨_, rfl⟩
      have hat1 : chPref ⟨og, p, hop, hm, med, hp, pref, atm, ha, aas, aad, cm, ho, ori, cl, us⟩ sprefa sprefb = ⟨og, p, hop, hm, med, hp1, pref1, atm, ha, aas, aad, cm, ho, ori, cl, us⟩ := by unfold chPref; dsimp only; rw [hhp1, hpref1]
      rw [hat1] at hcut HALL
      clear hhp1 hpref1 hat1
      obtain ⟨pA1, cA1, kA1, uA1, pn1, pc1, cn1, cc1, kn1, kc1, un1, uc1, hkx, HKB5, HKS5, HKZ5, HL5, HB5, HH5⟩ := hcut
      obtain ⟨w5b, rfl⟩ : ∃ w5b : World, w5b = wc := ⟨_, rfl⟩
      have HKA5 : Hid (Blk w5b w.heap.size 40 [.int .i64 og, .slice pA1 pn1 pc1, .int .u32 hop, .bool hm, .int .i64 med, .bool hp1, .int .i64 pref1, .bool atm, .bool ha, .int .i64 aas, .int .u32 aad, .slice cA1 cn1 cc1, .bool ho, .int .u32 ori, .slice kA1 kn1 kc1, .slice uA1 un1 uc1]) := hkx
      have b7 := HKB5.out.cell 7
      have s7 := HKS5.out.cell 7
      simp only [List.getElem?_cons_zero, List.getElem?_cons_succ] at b7 s7
      have lB : w.heap.size + 1 < w5b.heap.size := HKB5.out.lt
      have lS : w.heap.size + 2 < w5b.heap.size := HKS5.out.lt
      clear hkx
      go_upto_if 52 with fail
      go_cut [] (fun wx => ChI w.heap.size (w3.heap.size + 2) w [.int .u32 spab, .int .i64 splb, .int .i64 sprb, .int .u32 shopb, .slice fAb fnb fcb, .slice eAb enb ecb, .int .i64 sprefb, .int .i64 smedb, .int .i64 smetb, .int .i64 stagb] [.int .u32 spaa, .int .i64 spla, .int .i64 spra, .int .u32 shopa, .slice fAa fna fca, .slice eAa ena eca, .int .i64 sprefa, .int .i64 smeda, .int .i64 smeta, .int .i64 staga] (chMed ⟨og, p, hop, hm, med, hp1, pref1, atm, ha, aas, aad, cm, ho, ori, cl, us⟩ smeda smedb) wx)
      case first =>
        cases hpe : (smeda != smedb)
        case true =>
          have a3 := HKA5.out.cell 3
          have a4 := HKA5.out.cell 4
          have f3 := HKA5.out.frozen 3
          have f4 := HKA5.out.frozen 4
          simp only [List.getElem?_cons_zero, List.getElem?_cons_succ] at a3 a4
          have lA : w.heap.size < w5b.heap.size := HKA5.out.lt
          have HFIN : Hid (∀ V, Save w.heap.size w5b V → Blk V w.heap.size 40 [.int .i64 og, .slice pA1 pn1 pc1, .int .u32 hop, .bool true, .int .i64 smeda, .bool hp1, .int .i64 pref1, .bool atm, .bool ha, .int .i64 aas, .int .u32 aad, .slice cA1 cn1 cc1, .bool ho, .int .u32 ori, .slice kA1 kn1 kc1, .slice uA1 un1 uc1] → ChI w.heap.size (w3.heap.size + 2) w [.int .u32 spab, .int .i64 splb, .int .i64 sprb, .int .u32 shopb, .slice fAb fnb fcb, .slice eAb enb ecb, .int .i64 sprefb, .int .i64 smedb, .int .i64 smetb, .int .i64 stagb] [.int .u32 spaa, .int .i64 spla, .int .i64 spra, .int .u32 shopa, .slice fAa fna fca, .slice eAa ena eca, .int .i64 sprefa, .int .i64 smeda, .int .i64 smeta, .int .i64 staga] (chMed ⟨og, p, hop, hm, med, hp1, pref1, atm, ha, aas, aad, cm, ho, ori, cl, us⟩ smeda smedb) V) := fun V hV hk => by
            refine ⟨pA1, cA1, kA1, uA1, pn1, pc1, cn1, cc1, kn1, kc1, un1, uc1, ?_, HKB5.out.save hV (by omega), HKS5.out.save hV (by omega), HKZ5.out.save hV (by omega), (HL5.out.gap (Gap.of_save hV ⟨Nat.le_refl _, by omega⟩ (Nat.le_refl _))).more hV.size, HB5.out.trans (hV.below (Nat.le_refl _) HB5.out.size), Nat.le_trans HH5.out hV.size⟩
            show Blk _ _ _ _
            unfold attCells chMed
            dsimp only
            rw [hpe, if_pos rfl, if_pos rfl]
            exact hk
          go_upto_region 11 with fail
          go_region
          all_goals
            go_wp2
            go_meet
          all_goals first
            | exact HFIN.out _ ((Save.set.trans Save.set).trans Save.drew) ((HKA5.out.set 3 _).set 4 _)
            | exact HFIN.out _ ((Save.set.trans Save.set).trans Save.drew) ((HKA5.out.set 4 _).set 3 _)
        case false =>
          have HFIN : Hid (ChI w.heap.size (w3.heap.size + 2) w [.int .u32 spab, .int .i64 splb, .int .i64 sprb, .int .u32 shopb, .slice fAb fnb fcb, .slice eAb enb ecb, .int .i64 sprefb, .int .i64 smedb, .int .i64 smetb, .int .i64 stagb] [.int .u32 spaa, .int .i64 spla, .int .i64 spra, .int .u32 shopa, .slice fAa fna fca, .slice eAa ena eca, .int .i64 sprefa, .int .i64 smeda, .int .i64 smeta, .int .i64 staga] (chMed ⟨og, p, hop, hm, med, hp1, pref1, atm, ha, aas, aad, cm, ho, ori, cl, us⟩ smeda smedb) w5b) := by
            refine ⟨pA1, cA1, kA1, uA1, pn1, pc1, cn1, cc1, kn1, kc1, un1, uc1, ?_, HKB5, HKS5, HKZ5, HL5, HB5, HH5⟩
            show Blk _ _ _ _
            unfold attCells chMed
            dsimp only
            rw [hpe, if_neg (by simp), if_neg (by simp)]
            exact HKA5.out
          go_wp2
          go_meet
          exact HFIN.out
      case rest =>
        clear HKA5 HKB5 HKS5 HKZ5 HL5 HB5 HH5 b7 s7 lB lS
        obtain ⟨hm1, hhm1⟩ : ∃ x, (if (smeda != smedb) = true then true else hm) = x := ⟨_, rfl⟩
        obtain ⟨med1, hmed1⟩ : ∃ x, (if (smeda != smedb) = true then smeda else med) = x := ⟨_, rfl⟩
        have hat2 : chMed ⟨og, p, hop, hm, med, hp1, pref1, atm, ha, aas, aad, cm, ho, ori, cl, us⟩ smeda smedb = ⟨og, p, hop, hm1, med1, hp1, pref1, atm, ha, aas, aad, cm, ho, ori, cl, us⟩ := by unfold chMed; dsimp only; rw [hhm1, hmed1]
        rw [hat2] at hcut HALL
        clear hhm1 hmed1 hat2
        obtain ⟨pA2, cA2, kA2, uA2, pn2, pc2, cn2, cc2, kn2, kc2, un2, uc2, hkx, HKB6, HKS6, HKZ6, HL6, HB6, HH6⟩ := hcut
        obtain ⟨w6, rfl⟩ : ∃ w6 : World, w6 = wc := ⟨_, rfl⟩
        have HKA6 : Hid (Blk w6 w.heap.size 40 [.int .i64 og, .slice pA2 pn2 pc2, .int .u32 hop, .bool hm1, .int .i64 med1, .bool hp1, .int .i64 pref1, .bool atm, .bool ha, .int .i64 aas, .int .u32 aad, .slice cA2 cn2 cc2, .bool ho, .int .u32 ori, .slice kA2 kn2 kc2, .slice uA2 un2 uc2]) := hkx
        clear hkx
        go_upto_region 12 with fail
        have HS : Hid (∀ V, Below w6.heap.size w6 V → V.cell? ⟨w.heap.size + 2, 3, none⟩ = some (.int .u32 shopa) ∧ V.cell? ⟨w.heap.size + 2, 5, none⟩ = some (.slice eAa ena eca)) := fun V h => ⟨(HKS6.out.keep h).cell 3, (HKS6.out.keep h).cell 5⟩
        have HC : Hid (Below w6.heap.size w6 w6.drew) := (Below.refl _ _).drew
        go_cut [] (fun wx => ChI w.heap.size (w3.heap.size + 2) w [.int .u32 spab, .int .i64 splb, .int .i64 sprb, .int .u32 shopb, .slice fAb fnb fcb, .slice eAb enb ecb, .int .i64 sprefb, .int .i64 smedb, .int .i64 smetb, .int .i64 stagb] [.int .u32 spaa, .int .i64 spla, .int .i64 spra, .int .u32 shopa, .slice fAa fna fca, .slice eAa ena eca, .int .i64 sprefa, .int .i64 smeda, .int .i64 smeta, .int .i64 staga] ⟨og, p, shopa, hm1, med1, hp1, pref1, atm, ha, aas, aad, cmsa, ho, ori, cl, us⟩ wx)
        case first =>
          refine wp_region_noPanic ?_
          refine wp_region_held_drew (S := fun V => V.cell? ⟨w.heap.size + 2, 3, none⟩ = some (.int .u32 shopa) ∧ V.cell? ⟨w.heap.size + 2, 5, none⟩ = some (.slice eAa ena eca)) (by kernel_rfl) (HS.out _ HC.out) (fun hHeld => ?_)
          refine take_in (i := 0) _ (some 57) (by kernel_rfl) (by kernel_rfl) (by kernel_rfl) (by kernel_rfl) (fun _ _ _ h => h) (by rfl) (fun o ho w hSw => by cases ho; (try dsimp only at hSw); (try go_split_ands); go_simp; (try with_reducible rfl)) hHeld ?_
          try simp only [Act.put, List.setIfInBounds_toArray, List.set_cons_zero, List.set_cons_succ]
          refine take_in (i := 1) _ (some 58) (by kernel_rfl) (by kernel_rfl) (by kernel_rfl) (by kernel_rfl) (fun _ _ _ h => h) (by rfl) (fun o ho w hSw => by cases ho; (try dsimp only at hSw); (try go_split_ands); go_simp; (try with_reducible rfl)) hHeld ?_
          try simp only [Act.put, List.setIfInBounds_toArray, List.set_cons_zero, List.set_cons_succ]
          refine take_in (i := 2) _ (some 59) (by kernel_rfl) (by kernel_rfl) (by kernel_rfl) (by kernel_rfl) (fun _ _ _ h => h) (by rfl) (fun o ho w hSw => by cases ho; (try dsimp only at hSw); (try go_split_ands); go_simp; (try with_reducible rfl)) hHeld ?_
          try simp only [Act.put, List.setIfInBounds_toArray, List.set_cons_zero, List.set_cons_succ]
          refine take_in (i := 3) _ (some 60) (by kernel_rfl) (by kernel_rfl) (by kernel_rfl) (by kernel_rfl) (fun _ _ _ h => h) (by rfl) (fun o ho w hSw => by cases ho; (try dsimp only at hSw); (try go_split_ands); go_simp; (try with_reducible rfl)) hHeld ?_
          try simp only [Act.put, List.setIfInBounds_toArray, List.set_cons_zero, List.set_cons_succ]
          refine take_in (i := 5) _ (some 62) (by kernel_rfl) (by kernel_rfl) (by kernel_rfl) (by kernel_rfl) (fun _ _ _ h => h) (by rfl) (fun o ho w hSw => by cases ho; (try dsimp only at hSw); (try go_split_ands); go_simp; (try with_reducible rfl)) hHeld ?_
          try simp only [Act.put, List.setIfInBounds_toArray, List.set_cons_zero, List.set_cons_succ]
          refine wpAnyH_ready (rs := [4]) (by kernel_rfl) (by simp) ?_
          refine AllReadyH.cons (o := _) rfl (fun K hK => ?_) AllReadyH.nil
          go_simp
          go_at_call 44
          with_reducible refine (dupl_any eAa none ena eca 0 0 _ cmsa [] _ (((HAC.out.below HB6.out).more HB6.out.size).below HC.out) (Ints.nil _ _ _) (Nat.le_refl _) (by omega) (by omega)).mono ?_
          rintro e wX ⟨D7, d7, rfl, hi7, hab7, hb7⟩
          rw [List.nil_append, Nat.zero_add] at hi7
          rw [Nat.zero_add] at hab7
          have hbX : Below w6.heap.size w6 wX := HC.out.trans hb7
          have HCX := Lib.hid hbX
          have hkaX := HKA6.out.keep hbX
          have a2 := hkaX.cell 2
          have a11 := hkaX.cell 11
          have f2 := hkaX.frozen 2
          have f11 := hkaX.frozen 11
          simp only [List.getElem?_cons_zero, List.getElem?_cons_succ] at a2 a11
          have lX : w.heap.size < wX.heap.size := hkaX.lt
          obtain ⟨w7, hw7⟩ : ∃ w7, wX.setCell ⟨w.heap.size, 2, none⟩ (.int .u32 shopa) = w7 := ⟨_, rfl⟩
          have hs7 : Save w.heap.size wX w7 := by rw [← hw7]; exact Save.set
          have hk7 : Blk w7 w.heap.size 40 [.int .i64 og, .slice pA2 pn2 pc2, .int .u32 shopa, .bool hm1, .int .i64 med1, .bool hp1, .int .i64 pref1, .bool atm, .bool ha, .int .i64 aas, .int .u32 aad, .slice cA2 cn2 cc2, .bool ho, .int .u32 ori, .slice kA2 kn2 kc2, .slice uA2 un2 uc2] := by rw [← hw7]; exact hkaX.set 2 _
          obtain ⟨w8, hw8⟩ : ∃ w8, w7.setCell ⟨w.heap.size, 11, none⟩ (.slice D7 ena d7) = w8 := ⟨_, rfl⟩
          have hs8 : Save w.heap.size w7 w8 := by rw [← hw8]; exact Save.set
          have hk8 : Blk w8 w.heap.size 40 [.int .i64 og, .slice pA2 pn2 pc2, .int .u32 shopa, .bool hm1, .int .i64 med1, .bool hp1, .int .i64 pref1, .bool atm, .bool ha, .int .i64 aas, .int .u32 aad, .slice D7 ena d7, .bool ho, .int .u32 ori, .slice kA2 kn2 kc2, .slice uA2 un2 uc2] := by rw [← hw8]; exact hk7.set 11 _
          have hsv := hs7.trans hs8
          have HFIN : Hid (ChI w.heap.size (w3.heap.size + 2) w [.int .u32 spab, .int .i64 splb, .int .i64 sprb, .int .u32 shopb, .slice fAb fnb fcb, .slice eAb enb ecb, .int .i64 sprefb, .int .i64 smedb, .int .i64 smetb, .int .i64 stagb] [.int .u32 spaa, .int .i64 spla, .int .i64 spra, .int .u32 shopa, .slice fAa fna fca, .slice eAa ena eca, .int .i64 sprefa, .int .i64 smeda, .int .i64 smeta, .int .i64 staga] ⟨og, p, shopa, hm1, med1, hp1, pref1, atm, ha, aas, aad, cmsa, ho, ori, cl, us⟩ w8) := by
            have hla := (HL6.out.gap (Gap.of_below hbX)).gap (Gap.of_save hsv ⟨Nat.le_refl _, by omega⟩ hbX.size)
            have hmo := Nat.le_trans hbX.size hsv.size
            refine ⟨pA2, D7, kA2, uA2, pn2, pc2, ena, d7, kn2, kc2, un2, uc2, hk8, (HKB6.out.keep hbX).save hsv (by omega), (HKS6.out.keep hbX).save hsv (by omega), (HKZ6.out.keep hbX).save hsv (by omega), ⟨hla.path.more hmo, ⟨(ints_save hi7 hsv (Nat.le_refl _) fun hn ad e => ?_).more hsv.size, fun hn ad e => .inr ?_⟩, hla.clus.more hmo, hla.unk.more hmo, hla.small.1, by omega, hla.small.2.2.1, hla.small.2.2.2⟩, (HB6.out.trans (hbX.mono HB6.out.size)).trans (hsv.below (Nat.le_refl _) (Nat.le_of_lt lX)), Nat.le_trans HH6.out hmo⟩
            · have h1 := hab7 hn ad e
              have h2 := HC.out.size
              have h3 := HKA6.out.lt
              omega
            · exact Nat.le_trans (Nat.le_trans HH6.out HC.out.size) (hab7 hn ad e)
          have l7 : w.heap.size < w7.heap.size := hk7.lt
          have b11 := hk7.cell 11
          have g11 := hk7.frozen 11
          simp only [List.getElem?_cons_zero, List.getElem?_cons_succ] at b11
          have HSX := Lib.hid (HS.out _ hbX)
          have HS7 : Hid (w7.cell? ⟨w.heap.size + 2, 3, none⟩ = some (.int .u32 shopa) ∧ w7.cell? ⟨w.heap.size + 2, 5, none⟩ = some (.slice eAa ena eca)) := ⟨((HKS6.out.keep hbX).save hs7 (by omega)).cell 3, ((HKS6.out.keep hbX).save hs7 (by omega)).cell 5⟩
          have HS8 : Hid (w8.cell? ⟨w.heap.size + 2, 3, none⟩ = some (.int .u32 shopa) ∧ w8.cell? ⟨w.heap.size + 2, 5, none⟩ = some (.slice eAa ena eca)) := ⟨((HKS6.out.keep hbX).save hsv (by omega)).cell 3, ((HKS6.out.keep hbX).save hsv (by omega)).cell 5⟩
          clear hi7 hab7 hb7 hbX hkaX hs7 hk7 hs8 hk8 hsv
          refine hK.out _ _ HSX.out (fun hHeld => ?_)
          clear hK K
          try simp only [Act.put, List.setIfInBounds_toArray, List.set_cons_zero, List.set_cons_succ]
          refine wpAnyH_ready (rs := [6]) (by kernel_rfl) (by simp) ?_
          refine AllReadyH.cons (o := _) rfl (fun K hK => ?_) AllReadyH.nil
          go_simp
          refine hK.out _ _ HS7.out (fun hHeld => ?_)
          clear hK K
          try simp only [Act.put, List.setIfInBounds_toArray, List.set_cons_zero, List.set_cons_succ]
          refine take_in (i := 7) _ (some 63) (by kernel_rfl) (by kernel_rfl) (by kernel_rfl) (by kernel_rfl) (fun _ _ _ h => h) (by rfl) (fun o ho w hSw => by cases ho; (try dsimp only at hSw); (try go_split_ands); go_simp; (try with_reducible rfl)) hHeld ?_
          try simp only [Act.put, List.setIfInBounds_toArray, List.set_cons_zero, List.set_cons_succ]
          refine wpAnyH_ready (rs := [8]) (by kernel_rfl) (by simp) ?_
          refine AllReadyH.cons (o := _) rfl (fun K hK => ?_) AllReadyH.nil
          go_simp
          refine hK.out _ _ HS8.out (fun hHeld => ?_)
          clear hK K
          try simp only [Act.put, List.setIfInBounds_toArray, List.set_cons_zero, List.set_cons_succ]
          refine wpAnyH_done (by kernel_rfl) ?_ _
          refine NoPanic.normal ?_
          go_wp2
          go_meet
          exact HFIN.out
        case rest =>
          clear HKA6 HKB6 HKS6 HKZ6 HL6 HB6 HH6 HS HC
          have hat3 : chHop ⟨og, p, hop, hm1, med1, hp1, pref1, atm, ha, aas, aad, cm, ho, ori, cl, us⟩ shopa cmsa = ⟨og, p, shopa, hm1, med1, hp1, pref1, atm, ha, aas, aad, cmsa, ho, ori, cl, us⟩ := rfl
          rw [hat3] at HALL
          clear hat3
          obtain ⟨pA3, cA3, kA3, uA3, pn3, pc3, cn3, cc3, kn3, kc3, un3, uc3, hkx, HKB7, HKS7, HKZ7, hl7, HB7, HH7⟩ := hcut
          obtain ⟨w7, rfl⟩ : ∃ w7 : World, w7 = wc := ⟨_, rfl⟩
          have HKA7 : Hid (Blk w7 w.heap.size 40 [.int .i64 og, .slice pA3 pn3 pc3, .int .u32 shopa, .bool hm1, .int .i64 med1, .bool hp1, .int .i64 pref1, .bool atm, .bool ha, .int .i64 aas, .int .u32 aad, .slice cA3 cn3 cc3, .bool ho, .int .u32 ori, .slice kA3 kn3 kc3, .slice uA3 un3 uc3]) := hkx
          have HL7 : Hid (ALists w7 w7.heap.size w.heap.size (w3.heap.size + 2) pA3 cA3 kA3 uA3 pn3 pc3 cn3 cc3 kn3 kc3 un3 uc3 p cmsa cl us) := hl7
          clear hkx hl7
          obtain ⟨A4, c4, hs4, hy4⟩ := HAP.out.sliceTo (P := Try.prog) (T := 52) (E := 3) Try.underlying52 (by kernel_rfl) (hi := dd) hdle
          have HY4 := Lib.hid hy4
          have HTL : Hid ((fla.take dd).length ≤ fla.length) := by show _ ≤ _; rw [List.length_take]; omega
          clear hy4
          have hddm : dd ≤ fla.length := by omega
          have HS : Hid (∀ V, Below w7.heap.size w7 V → V.cell? ⟨w.heap.size + 2, 4, none⟩ = some (.slice fAa fna fca)) := fun V h => (HKS7.out.keep h).cell 4
          have HA1 : Hid (∀ V, Below w7.heap.size w7 V → V.cell? ⟨w.heap.size, 1, none⟩ = some (.slice pA3 pn3 pc3)) := fun V h => (HKA7.out.keep h).cell 1
          have HC : Hid (Below w7.heap.size w7 w7.drew) := (Below.refl _ _).drew
          go_upto_region 13 with fail
          go_cut [] (fun wx => ChI w.heap.size (w3.heap.size + 2) w [.int .u32 spab, .int .i64 splb, .int .i64 sprb, .int .u32 shopb, .slice fAb fnb fcb, .slice eAb enb ecb, .int .i64 sprefb, .int .i64 smedb, .int .i64 smetb, .int .i64 stagb] [.int .u32 spaa, .int .i64 spla, .int .i64 spra, .int .u32 shopa, .slice fAa fna fca, .slice eAa ena eca, .int .i64 sprefa, .int .i64 smeda, .int .i64 smeta, .int .i64 staga] (chPath ⟨og, p, shopa, hm1, med1, hp1, pref1, atm, ha, aas, aad, cmsa, ho, ori, cl, us⟩ (insR p (fla.take dd))) wx)
          case first =>
            refine wp_region_noPanic ?_
            refine wp_region_held_drew (S := fun V => V.cell? ⟨w.heap.size + 2, 4, none⟩ = some (.slice fAa fna fca)) (by kernel_rfl) (HS.out _ HC.out) (fun hHeld => ?_)
            refine take_in (i := 0) _ (some 64) (by kernel_rfl) (by kernel_rfl) (by kernel_rfl) (by kernel_rfl) (fun _ _ _ h => h) (by rfl) (fun o ho w hSw => by cases ho; (try dsimp only at hSw); (try go_split_ands); go_simp; (try with_reducible rfl)) hHeld ?_
            try simp only [Act.put, List.setIfInBounds_toArray, List.set_cons_zero, List.set_cons_succ]
            refine take_in (i := 2) _ (some 66) (by kernel_rfl) (by kernel_rfl) (by kernel_rfl) (by kernel_rfl) (fun _ _ _ h => h) (by rfl) (fun o ho w hSw => by cases ho; (try dsimp only at hSw); (try go_split_ands); go_simp; (try with_reducible rfl)) hHeld ?_
            try simp only [Act.put, List.setIfInBounds_toArray, List.set_cons_zero, List.set_cons_succ]
            refine take_in (i := 3) _ (some 67) (by kernel_rfl) (by kernel_rfl) (by kernel_rfl) (by kernel_rfl) (fun _ _ _ h => h) (by rfl) (fun o ho w hSw => by cases ho; (try dsimp only at hSw); (try go_split_ands); go_simp; (try with_reducible rfl)) hHeld ?_
            try simp only [Act.put, List.setIfInBounds_toArray, List.set_cons_zero, List.set_cons_succ]
            refine take_in (i := 4) _ (some 68) (by kernel_rfl) (by kernel_rfl) (by kernel_rfl) (by kernel_rfl) (fun _ _ _ h => h) (by rfl) (fun o ho w hSw => by cases ho; (try dsimp only at hSw); (try go_split_ands); go_simp; (try with_reducible rfl)) hHeld ?_
            try simp only [Act.put, List.setIfInBounds_toArray, List.set_cons_zero, List.set_cons_succ]
            refine take_in (i := 5) _ (some 69) (by kernel_rfl) (by kernel_rfl) (by kernel_rfl) (by kernel_rfl) (fun _ _ _ h => h) (by rfl) (fun o ho w hSw => by cases ho; (try dsimp only at hSw); (try go_split_ands); go_simp; (try with_reducible rfl)) hHeld ?_
            try simp only [Act.put, List.setIfInBounds_toArray, List.set_cons_zero, List.set_cons_succ]
            refine wpAnyH_ready (rs := [1]) (by kernel_rfl) (by simp) ?_
            refine AllReadyH.cons (o := _) rfl (fun K hK => ?_) AllReadyH.nil
            have a1 := HA1.out _ HC.out
            go_simp
            clear a1
            refine hK.out _ _ (HS.out _ HC.out) (fun hHeld => ?_)
            clear hK K
            try simp only [Act.put, List.setIfInBounds_toArray, List.set_cons_zero, List.set_cons_succ]
            refine wpAnyH_ready (rs := [6]) (by kernel_rfl) (by simp) ?_
            refine AllReadyH.cons (o := _) rfl (fun K hK => ?_) AllReadyH.nil
            go_simp
            go_at_call 47
            with_reducible refine (inserted_any pA3 pn3 pc3 w.heap.size (w3.heap.size + 2) p A4 dd c4 (fla.take dd) _ ((HL7.out.path.gap (Gap.of_below HC.out)).more HC.out.size) ((((HY4.out.below HB7.out).more HB7.out.size).below HC.out).more HC.out.size) (by omega) (Nat.le_trans HH7.out HC.out.size)).mono ?_
            rintro e wX ⟨A9, n9, c9, rfl, hr9, hb9⟩
            have hbX : Below w7.heap.size w7 wX := HC.out.trans hb9
            have HCX := Lib.hid hbX
            have hkaX := HKA7.out.keep hbX
            have a1 := hkaX.cell 1
            have f1 := hkaX.frozen 1
            simp only [List.getElem?_cons_zero, List.getElem?_cons_succ] at a1
            have lX : w.heap.size < wX.heap.size := hkaX.lt
            obtain ⟨w8, hw8⟩ : ∃ w8, wX.setCell ⟨w.heap.size, 1, none⟩ (.slice A9 n9 c9) = w8 := ⟨_, rfl⟩
            have hs8 : Save w.heap.size wX w8 := by rw [← hw8]; exact Save.set
            have hk8 : Blk w8 w.heap.size 40 [.int .i64 og, .slice A9 n9 c9, .int .u32 shopa, .bool hm1, .int .i64 med1, .bool hp1, .int .i64 pref1, .bool atm, .bool ha, .int .i64 aas, .int .u32 aad, .slice cA3 cn3 cc3, .bool ho, .int .u32 ori, .slice kA3 kn3 kc3, .slice uA3 un3 uc3] := by rw [← hw8]; exact hkaX.set 1 _
            have hn9 : n9 ≤ 1000000000 := by have h1 := hr9.segs.len; have h2 := insR_len p (fla.take dd); have h3 := HTL.out; omega
            have HFIN : Hid (ChI w.heap.size (w3.heap.size + 2) w [.int .u32 spab, .int .i64 splb, .int .i64 sprb, .int .u32 shopb, .slice fAb fnb fcb, .slice eAb enb ecb, .int .i64 sprefb, .int .i64 smedb, .int .i64 smetb, .int .i64 stagb] [.int .u32 spaa, .int .i64 spla, .int .i64 spra, .int .u32 shopa, .slice fAa fna fca, .slice eAa ena eca, .int .i64 sprefa, .int .i64 smeda, .int .i64 smeta, .int .i64 staga] (chPath ⟨og, p, shopa, hm1, med1, hp1, pref1, atm, ha, aas, aad, cmsa, ho, ori, cl, us⟩ (insR p (fla.take dd))) w8) := by
              have hla := (HL7.out.gap (Gap.of_below hbX)).gap (Gap.of_save hs8 ⟨Nat.le_refl _, by omega⟩ hbX.size)
              have hmo := Nat.le_trans hbX.size hs8.size
              exact ⟨A9, cA3, kA3, uA3, n9, c9, cn3, cc3, kn3, kc3, un3, uc3, hk8, (HKB7.out.keep hbX).save hs8 (by omega), (HKS7.out.keep hbX).save hs8 (by omega), (HKZ7.out.keep hbX).save hs8 (by omega), ⟨(hr9.gap (Gap.of_save hs8 ⟨Nat.le_refl _, by omega⟩ (Nat.le_refl _))).more hs8.size, hla.comm.more hmo, hla.clus.more hmo, hla.unk.more hmo, hn9, hla.small.2⟩, (HB7.out.trans (hbX.mono HB7.out.size)).trans (hs8.below (Nat.le_refl _) (Nat.le_of_lt lX)), Nat.le_trans HH7.out hmo⟩
            have HSX := Lib.hid (HS.out _ hbX)
            have HS8 : Hid (w8.cell? ⟨w.heap.size + 2, 4, none⟩ = some (.slice fAa fna fca)) := ((HKS7.out.keep hbX).save hs8 (by omega)).cell 4
            clear hr9 hb9 hbX hkaX hs8 hk8
            refine hK.out _ _ HSX.out (fun hHeld => ?_)
            clear hK K
            try simp only [Act.put, List.setIfInBounds_toArray, List.set_cons_zero, List.set_cons_succ]
            refine take_in (i := 7) _ (some 71) (by kernel_rfl) (by kernel_rfl) (by kernel_rfl) (by kernel_rfl) (fun _ _ _ h => h) (by rfl) (fun o ho w hSw => by cases ho; (try dsimp only at hSw); (try go_split_ands); go_simp; (try with_reducible rfl)) hHeld ?_
            try simp only [Act.put, List.setIfInBounds_toArray, List.set_cons_zero, List.set_cons_succ]
            refine wpAnyH_ready (rs := [8]) (by kernel_rfl) (by simp) ?_
            refine AllReadyH.cons (o := _) rfl (fun K hK => ?_) AllReadyH.nil
            go_simp
            refine hK.out _ _ HS8.out (fun hHeld => ?_)
            clear hK K
            try simp only [Act.put, List.setIfInBounds_toArray, List.set_cons_zero, List.set_cons_succ]
            refine wpAnyH_done (by kernel_rfl) ?_ _
            refine NoPanic.normal ?_
            go_wp2
            go_meet
            exact HFIN.out
          case rest =>
            obtain ⟨q, hq⟩ : ∃ q, insR p (fla.take dd) = q := ⟨_, rfl⟩
            rw [hq] at hcut HALL HF
            have hat4 : chPath ⟨og, p, shopa, hm1, med1, hp1, pref1, atm, ha, aas, aad, cmsa, ho, ori, cl, us⟩ q = ⟨og, q, shopa, hm1, med1, hp1, pref1, atm, ha, aas, aad, cmsa, ho, ori, cl, us⟩ := rfl
            rw [hat4] at hcut HALL
            rw [HALL.out] at HF
            obtain ⟨pA4, cA4, kA4, uA4, pn4, pc4, cn4, cc4, kn4, kc4, un4, uc4, hkx, _, _, HKZ8, hl8, HB8, HH8⟩ := hcut
            obtain ⟨w8, rfl⟩ : ∃ w8 : World, w8 = wc := ⟨_, rfl⟩
            have HKA8 : Hid (Blk w8 w.heap.size 40 [.int .i64 og, .slice pA4 pn4 pc4, .int .u32 shopa, .bool hm1, .int .i64 med1, .bool hp1, .int .i64 pref1, .bool atm, .bool ha, .int .i64 aas, .int .u32 aad, .slice cA4 cn4 cc4, .bool ho, .int .u32 ori, .slice kA4 kn4 kc4, .slice uA4 un4 uc4]) := hkx
            have HL8 : Hid (ALists w8 w8.heap.size w.heap.size (w3.heap.size + 2) pA4 cA4 kA4 uA4 pn4 pc4 cn4 cc4 kn4 kc4 un4 uc4 q cmsa cl us) := hl8
            have hqn : q.length = pn4 := HL8.out.path.segs.len
            have hqs : pn4 ≤ 1000000000 := HL8.out.small.1
            have hzz8 : w.heap.size + 3 < w8.heap.size := HKZ8.out.lt
            have lA : w.heap.size < w8.heap.size := by omega
            have a1 := HKA8.out.cell 1
            simp only [List.getElem?_cons_zero, List.getElem?_cons_succ] at a1
            clear hkx hl8 hat4 HALL HKA7 HKB7 HKS7 HKZ7 HL7 HB7 HH7 HS HA1 HC hq
            rw [hqn] at HF
            by_cases hk64 : 64 < pn4
            case pos =>
              have d64 : decide ((pn4 : Int) > 64) = true := by simp; omega
              rw [if_pos (by simpa using hk64)] at HF
              clear hk64 hqn
              obtain ⟨wz, hwz⟩ : ∃ wz, w8.setRow (w.heap.size + 3) #[.int .i64 0, .slice none 0 0, .int .u32 0, .bool false, .int .i64 0, .bool false, .int .i64 0, .bool false, .bool false, .int .i64 0, .int .u32 0, .slice none 0 0, .bool false, .int .u32 0, .slice none 0 0, .slice none 0 0] = wz := ⟨_, rfl⟩
              have HKZ9 : Hid (Blk wz (w.heap.size + 3) 40 [.int .i64 0, .slice none 0 0, .int .u32 0, .bool false, .int .i64 0, .bool false, .int .i64 0, .bool false, .bool false, .int .i64 0, .int .u32 0, .slice none 0 0, .bool false, .int .u32 0, .slice none 0 0, .slice none 0 0]) := by show Blk _ _ _ _; rw [← hwz]; exact HKZ8.out.row _
              have HB9 : Hid (Below w.heap.size w wz) := by show Below _ _ _; rw [← hwz]; exact HB8.out.trans ((Save.row (w.heap.size + 3) w8 _).below (by omega) HB8.out.size)
              go_wp2_with (refine wpList_store_blk rfl 40 _ _ rfl (w.heap.size + 3) rfl rfl HKZ8.out (by kernel_rfl) rfl (by kernel_rfl) ?_)
              try rw [hwz]
              refine bodyPost_ret (results_cell_row2 rfl _ (w.heap.size + 3) _ rfl HKZ9.out Try.underlying40 rfl (by kernel_rfl)) rfl ?_
              rw [HF.out]
              exact ⟨none, none, none, none, 0, 0, 0, 0, 0, 0, 0, 0, rfl, lists_zero _ _, HB9.out⟩
            have d64 : decide ((pn4 : Int) > 64) = false := by simp; omega
            rw [if_neg (by simpa using hk64)] at HF
            clear hk64 hqn
            have HC := Lib.hid (attCheck_any og shopa med1 pref1 aas aad ori hm1 hp1 atm ha ho pA4 cA4 kA4 uA4 pn4 pc4 cn4 cc4 kn4 kc4 un4 uc4 q us cmsa cl w8 HL8.out.lists)
            go_wp2_with (refine wpList_load_blk rfl 40 _ rfl w.heap.size rfl HKA8.out _ Try.underlying40 rfl (by kernel_rfl) ?_)
            refine HC.out.mono ?_
            rintro e w9 ⟨rfl, hb9x⟩
            clear HC a1
            obtain ⟨ae, hae⟩ : ∃ ae, attErr ⟨og, q, shopa, hm1, med1, hp1, pref1, atm, ha, aas, aad, cmsa, ho, ori, cl, us⟩ = ae := ⟨_, rfl⟩
            rw [hae] at HF ⊢
            clear hae
            have HZ9 := Lib.hid (HKZ8.out.keep hb9x)
            have HA9 := Lib.hid (HKA8.out.keep hb9x)
            have HL9 := Lib.hid ((HL8.out.gap (Gap.of_below hb9x)).more hb9x.size)
            have HB9 := Lib.hid (HB8.out.trans (hb9x.mono HB8.out.size))
            have HH9 : Hid (w3.heap.size + 2 ≤ w9.heap.size) := Nat.le_trans HH8.out hb9x.size
            clear HKZ8 HKA8 HL8 HB8 hb9x HH8
            cases hea : (ae == 0)
            case false =>
              rw [hea, if_neg (by simp)] at HF
              have hne : (ae != 0) = true := by simpa using hea
              have HB9c := HB9
              obtain ⟨wz, hwz⟩ : ∃ wz, w9.setRow (w.heap.size + 3) #[.int .i64 0, .slice none 0 0, .int .u32 0, .bool false, .int .i64 0, .bool false, .int .i64 0, .bool false, .bool false, .int .i64 0, .int .u32 0, .slice none 0 0, .bool false, .int .u32 0, .slice none 0 0, .slice none 0 0] = wz := ⟨_, rfl⟩
              have HKZ9 : Hid (Blk wz (w.heap.size + 3) 40 [.int .i64 0, .slice none 0 0, .int .u32 0, .bool false, .int .i64 0, .bool false, .int .i64 0, .bool false, .bool false, .int .i64 0, .int .u32 0, .slice none 0 0, .bool false, .int .u32 0, .slice none 0 0, .slice none 0 0]) := by show Blk _ _ _ _; rw [← hwz]; exact HZ9.out.row _
              have HB9 : Hid (Below w.heap.size w wz) := by show Below _ _ _; rw [← hwz]; exact HB9c.out.trans ((Save.row (w.heap.size + 3) w9 _).below (by omega) HB9c.out.size)
              go_wp2_with (refine wpList_store_blk rfl 40 _ _ rfl (w.heap.size + 3) rfl rfl HZ9.out (by kernel_rfl) rfl (by kernel_rfl) ?_)
              try rw [hwz]
              refine bodyPost_ret (results_cell_row2 rfl _ (w.heap.size + 3) _ rfl HKZ9.out Try.underlying40 rfl (by kernel_rfl)) rfl ?_
              rw [HF.out]
              exact ⟨none, none, none, none, 0, 0, 0, 0, 0, 0, 0, 0, rfl, lists_zero _ _, HB9.out⟩
            obtain rfl : ae = 0 := by simpa using hea
            rw [hea, if_pos rfl] at HF
            clear hea
            obtain ⟨wz, hwz⟩ : ∃ wz, w9.setRow (w.heap.size + 3) #[.int .i64 og, .slice pA4 pn4 pc4, .int .u32 shopa, .bool hm1, .int .i64 med1, .bool hp1, .int .i64 pref1, .bool atm, .bool ha, .int .i64 aas, .int .u32 aad, .slice cA4 cn4 cc4, .bool ho, .int .u32 ori, .slice kA4 kn4 kc4, .slice uA4 un4 uc4] = wz := ⟨_, rfl⟩
            have hsz : Save (w.heap.size + 3) w9 wz := by rw [← hwz]; exact Save.row _ _ _
            have HKZZ : Hid (Blk wz (w.heap.size + 3) 40 [.int .i64 og, .slice pA4 pn4 pc4, .int .u32 shopa, .bool hm1, .int .i64 med1, .bool hp1, .int .i64 pref1, .bool atm, .bool ha, .int .i64 aas, .int .u32 aad, .slice cA4 cn4 cc4, .bool ho, .int .u32 ori, .slice kA4 kn4 kc4, .slice uA4 un4 uc4]) := by show Blk _ _ _ _; rw [← hwz]; exact HZ9.out.row _
            have HBZ : Hid (Below w.heap.size w wz) := HB9.out.trans (hsz.below (by omega) HB9.out.size)
            have HLZ := Lib.hid ((HL9.out.gap (Gap.of_save hsz ⟨by omega, by omega⟩ (Nat.le_refl _))).more hsz.size)
            go_wp2_with (first | (refine wpList_load_blk rfl 40 _ rfl w.heap.size rfl HA9.out _ Try.underlying40 rfl (by kernel_rfl) ?_) | (refine wpList_store_blk rfl 40 _ _ rfl (w.heap.size + 3) rfl rfl HZ9.out (by kernel_rfl) rfl (by kernel_rfl) ?_))
            try rw [hwz]
            refine bodyPost_ret (results_cell_row2 rfl _ (w.heap.size + 3) _ rfl HKZZ.out Try.underlying40 rfl (by kernel_rfl)) rfl ?_
            rw [HF.out]
            exact ⟨pA4, cA4, kA4, uA4, pn4, pc4, cn4, cc4, kn4, kc4, un4, uc4, rfl, HLZ.out.lists, HBZ.out⟩
end Go.Proofs.Ytojgohgeagbkbaa
