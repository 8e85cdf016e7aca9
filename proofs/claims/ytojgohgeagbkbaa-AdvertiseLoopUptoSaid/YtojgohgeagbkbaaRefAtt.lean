/- routingref36.Check: the errors of attributes, the reference's. -/
import Derived.Test.YtojgohgeagbkbaaLst
import Derived.Test.YtojgohgeagbkbaaSegRef
import Derived.Deep.DeepCutAuto
namespace Go.Proofs.Ytojgohgeagbkbaa
open Go.RowKit

theorem firstE_zero {e : Int} {r : List Int} {x : Int} (h : x = firstE (e :: r)) (h0 : e = 0) : x = firstE r := by rw [h, firstE, if_pos h0]
theorem firstE_stop {e : Int} {r : List Int} {x : Int} (h : x = firstE (e :: r)) (h0 : e ≠ 0) : x = e := by rw [h, firstE, if_neg h0]
def wordB (n : Int) : Bool := decide (0 ≤ n) && decide (n ≤ 4294967295)
theorem optE_bad {n : Int} (h : wordB n = false) : optE true n 0 = 5 := by
  have : n < 0 ∨ n > 4294967295 := by
    simp only [wordB, Bool.and_eq_false_iff, decide_eq_false_iff_not] at h
    omega
  unfold optE
  rw [if_pos rfl, if_pos this]
theorem optE_good {n : Int} (h : wordB n = true) : optE true n 0 = 0 := by
  have : ¬ (n < 0 ∨ n > 4294967295) := by
    simp only [wordB, Bool.and_eq_true, decide_eq_true_eq] at h
    omega
  unfold optE
  rw [if_pos rfl, if_neg this]
theorem optE_has {has : Bool} {n : Int} (h : (has && !wordB n) = true) : optE has n 0 = 5 := by
  cases has
  · simp at h
  · exact optE_bad (by simpa using h)
theorem optE_not {has : Bool} {n : Int} (h : (!has && n != 0) = true) (l : Int) : optE has n l = 1 := by
  cases has
  · simp at h
    unfold optE
    rw [if_neg (by simp), if_neg h]
  · simp at h
theorem optE_fine {has : Bool} {n : Int} (h : (has && !wordB n) = false) (h' : (!has && n != 0) = false) : optE has n 0 = 0 := by
  cases has
  · simp at h'
    unfold optE
    rw [if_neg (by simp), if_pos h']
  · exact optE_good (by simpa using h)
def asB (n : Int) : Bool := decide (n < 1) || decide (n > 4294967295)
theorem optE_as {has : Bool} {n : Int} (h : (has && asB n) = true) : optE has n 1 = 5 := by
  cases has
  · simp at h
  · simp only [asB, Bool.true_and, Bool.or_eq_true, decide_eq_true_eq] at h
    unfold optE
    rw [if_pos rfl, if_pos h]
theorem aggr_bad {has : Bool} {n a : Int} {r : List Int} {x : Int} (hx : x = firstE (optE has n 1 :: whenE (!has && a != 0) 1 :: r)) (h : (!has && (n != 0 || a != 0)) = true) : x = 1 := by
  cases has
  · simp only [Bool.not_false, Bool.true_and, Bool.or_eq_true, bne_iff_ne, ne_eq] at h
    by_cases hn : n = 0
    · have ha : ¬ a = 0 := by omega
      subst hn
      have h1 := firstE_zero hx rfl
      have : whenE (!false && a != 0) 1 = 1 := by simp [whenE, ha]
      rw [this] at h1
      exact firstE_stop h1 (by decide)
    · have : optE false n 1 = 1 := by unfold optE; rw [if_neg (by simp), if_neg hn]
      rw [this] at hx
      exact firstE_stop hx (by decide)
  · simp at h
theorem aggr_fine {has : Bool} {n a : Int} {r : List Int} {x : Int} (hx : x = firstE (optE has n 1 :: whenE (!has && a != 0) 1 :: r)) (h : (has && asB n) = false) (h' : (!has && (n != 0 || a != 0)) = false) : x = firstE r := by
  cases has
  · simp only [Bool.not_false, Bool.true_and, Bool.or_eq_false_iff, bne_eq_false_iff_eq] at h'
    obtain ⟨rfl, rfl⟩ := h'
    exact firstE_zero (firstE_zero hx rfl) rfl
  · simp only [asB, Bool.true_and, Bool.or_eq_false_iff, decide_eq_false_iff_not] at h
    have : optE true n 1 = 0 := by unfold optE; rw [if_pos rfl, if_neg (by omega)]
    exact firstE_zero (firstE_zero hx this) rfl
theorem orig_when (ho : Bool) (o : Int) : whenE (ho == (o == 0)) 1 = whenE (ho != (o != 0)) 1 := by
  cases ho <;> by_cases h : o = 0 <;> simp [h, whenE]
def UIn (w : World) (us : Path) (n : Nat) (iv : Value) (W : World) : Prop := ∃ k : Nat, k ≤ n ∧ iv = .int .i64 k ∧ Hid (unkE us = unkF (prevK us k) (us.drop k)) ∧ Hid (Below w.heap.size w W)
set_option linter.unusedSimpArgs false in
set_option linter.unusedVariables false in
set_option maxRecDepth 100000 in
set_option maxHeartbeats 8000000 in
theorem ref36Check_any (og hop med pref aas aad ori : Int) (hm hp atm ha ho : Bool) (pA cA kA uA : Option Addr) (pn pc cn cc kn kc un uc : Nat) (p us : Path) (cm cl : List Int) (w : World) (hL : Lists w w.heap.size pA cA kA uA pn pc cn cc kn kc un uc p cm cl us) :
    Calls Try.prog 23 #[.agg #[.int .i64 og, .slice pA pn pc, .int .u32 hop, .bool hm, .int .i64 med, .bool hp, .int .i64 pref, .bool atm, .bool ha, .int .i64 aas, .int .u32 aad, .slice cA cn cc, .bool ho, .int .u32 ori, .slice kA kn kc, .slice uA un uc]] w fun e w' => e = .returned (.int .i64 (attErr ⟨og, p, hop, hm, med, hp, pref, atm, ha, aas, aad, cm, ho, ori, cl, us⟩)) ∧ Below w.heap.size w w' := by
  have HL := Lib.hid hL
  have hpn : pn ≤ 140737488355328 := by have := hL.small; omega
  have hcn : cn ≤ 140737488355328 := by have := hL.small; omega
  have hkn : kn ≤ 140737488355328 := by have := hL.small; omega
  have hun : un ≤ 140737488355328 := by have := hL.small; omega
  obtain ⟨w1, hw1⟩ : ∃ w1, w.alloc (.cells #[.int .i64 og, .slice pA pn pc, .int .u32 hop, .bool hm, .int .i64 med, .bool hp, .int .i64 pref, .bool atm, .bool ha, .int .i64 aas, .int .u32 aad, .slice cA cn cc, .bool ho, .int .u32 ori, .slice kA kn kc, .slice uA un uc] 40) = w1 := ⟨_, rfl⟩
  have hbk : Blk w1 w.heap.size 40 [.int .i64 og, .slice pA pn pc, .int .u32 hop, .bool hm, .int .i64 med, .bool hp, .int .i64 pref, .bool atm, .bool ha, .int .i64 aas, .int .u32 aad, .slice cA cn cc, .bool ho, .int .u32 ori, .slice kA kn kc, .slice uA un uc] := by rw [← hw1]; exact Blk.new w _ _
  have hb1 : Below w.heap.size w w1 := by rw [← hw1]; exact belowA _ _
  have HB1 := Lib.hid hb1
  have HK := Lib.hid hbk
  have hlt := hbk.lt
  have HE : Hid (attErr ⟨og, p, hop, hm, med, hp, pref, atm, ha, aas, aad, cm, ho, ori, cl, us⟩ = firstE (attErrs ⟨og, p, hop, hm, med, hp, pref, atm, ha, aas, aad, cm, ho, ori, cl, us⟩)) := rfl
  generalize attErr ⟨og, p, hop, hm, med, hp, pref, atm, ha, aas, aad, cm, ho, ori, cl, us⟩ = E at HE ⊢
  unfold attErrs at HE
  dsimp only at HE
  rw [orig_when] at HE
  clear hL hb1
  have hq0 := hbk.cell 0
  simp only [List.getElem?_cons_zero, List.getElem?_cons_succ] at hq0
  clear hbk
  by_cases h0 : og < 0
  · have d0 : decide (og < 0) = true := by simpa using h0
    have HF : Hid (E = 5) := firstE_stop (e := 5) (by rw [HE.out, d0]; rfl) (by decide)
    clear h0
    go_enter Try.func23, Try.ntmps23
    go_wp2
    go_ret
    exact ⟨by rw [HF.out]; rfl, HB1.out⟩
  have d0 : decide (og < 0) = false := by simpa using h0
  by_cases h2 : og > 2
  · have d2 : decide (og > 2) = true := by simpa using h2
    have d2' : decide (2 < og) = true := by simpa using h2
    have HF : Hid (E = 5) := firstE_stop (e := 5) (by rw [HE.out, d0, d2']; rfl) (by decide)
    clear h0 h2 d2'
    go_enter Try.func23, Try.ntmps23
    go_wp2
    go_ret
    exact ⟨by rw [HF.out]; rfl, HB1.out⟩
  have d2 : decide (og > 2) = false := by simpa using h2
  have HE1 := Lib.hid (firstE_zero HE.out (by rw [d0, show decide (2 < og) = false by simpa using h2]; rfl))
  clear HE h0 h2
  have hk1 := HK.out.cell 1
  simp only [List.getElem?_cons_zero, List.getElem?_cons_succ] at hk1
  have HR := Lib.hid (refCheck_any pA pn pc _ p w1 (HL.out.below HB1.out).path HB1.out.size hpn)
  go_enter Try.func23, Try.ntmps23
  go_wp2_with fail
  refine HR.out.mono ?_
  rintro e w2 ⟨rfl, hb⟩
  have HK2 := Lib.hid (HK.out.keep hb)
  have HB2 := Lib.hid (below3 HB1.out hb)
  clear hb HR hk1 hq0 d0 d2
  generalize pathErr p = ep at HE1 ⊢
  by_cases hep : ep = 0
  case neg =>
    have d : (ep != 0) = true := by simpa using hep
    have HF := Lib.hid (firstE_stop HE1.out hep)
    clear hep
    go_wp2
    go_ret
    exact ⟨by rw [HF.out]; rfl, HB2.out⟩
  subst hep
  have HE2 := Lib.hid (firstE_zero HE1.out rfl)
  clear HE1 HK HB1 hw1
  have hlt2 := HK2.out.lt

  have hc2 := HK2.out.cell 2
  have hc3 := HK2.out.cell 3
  have hc4 := HK2.out.cell 4
  have hc5 := HK2.out.cell 5
  have hc6 := HK2.out.cell 6
  have hc8 := HK2.out.cell 8
  have hc9 := HK2.out.cell 9
  have hc10 := HK2.out.cell 10
  have hc11 := HK2.out.cell 11
  simp only [List.getElem?_cons_zero, List.getElem?_cons_succ] at hc2 hc3 hc4 hc5 hc6 hc8 hc9 hc10 hc11
  by_cases hh : hop = 0
  · subst hh
    have HF : Hid (E = 1) := firstE_stop (e := 1) HE2.out (by decide)
    go_wp2
    go_ret
    exact ⟨by rw [HF.out]; rfl, HB2.out⟩
  have dh : (hop == 0) = false := by simpa using hh
  have HE3 := Lib.hid (firstE_zero HE2.out (by rw [dh]; rfl))
  clear HE2 hh
  go_upto_region 8 with fail
  go_cut [27] (fun c wx => c = .bool (hm && !wordB med) ∧ w2 = wx)
  case first =>
    cases hm
    · go_wp2_with fail
      go_meet
      exact ⟨rfl, rfl⟩
    · go_wp2_with fail
      refine (word_any med _).mono ?_
      rintro e wx ⟨rfl, rfl⟩
      go_wp2_with fail
      go_meet
      exact ⟨bool_eq (by simp [wordB]), rfl⟩
  obtain ⟨rfl, rfl⟩ := hcut
  obtain ⟨b1, b1h⟩ : ∃ b, (hm && !wordB med) = b := ⟨_, rfl⟩
  rw [b1h]
  cases b1
  case true =>
    have HF : Hid (E = 5) := firstE_stop (e := 5) (by rw [HE3.out, optE_has b1h]) (by decide)
    go_wp2
    go_ret
    exact ⟨by rw [HF.out]; rfl, HB2.out⟩
  go_upto_region 10 with fail
  go_cut [36] (fun c wx => c = .bool (!hm && med != 0) ∧ w2 = wx)
  case first =>
    cases hm
    · go_wp2_with fail
      go_meet
      exact ⟨rfl, rfl⟩
    · go_wp2_with fail
      go_meet
      exact ⟨rfl, rfl⟩
  obtain ⟨rfl, rfl⟩ := hcut
  obtain ⟨b2, b2h⟩ : ∃ b, (!hm && med != 0) = b := ⟨_, rfl⟩
  rw [b2h]
  cases b2
  case true =>
    have HF : Hid (E = 1) := firstE_stop (e := 1) (by rw [HE3.out, optE_not b2h]) (by decide)
    go_wp2
    go_ret
    exact ⟨by rw [HF.out]; rfl, HB2.out⟩
  have HE4 := Lib.hid (firstE_zero HE3.out (optE_fine b1h b2h))
  clear HE3 b1h b2h
  go_upto_region 12 with fail
  go_cut [45] (fun c wx => c = .bool (hp && !wordB pref) ∧ w2 = wx)
  case first =>
    cases hp
    · go_wp2_with fail
      go_meet
      exact ⟨rfl, rfl⟩
    · go_wp2_with fail
      refine (word_any pref _).mono ?_
      rintro e wx ⟨rfl, rfl⟩
      go_wp2_with fail
      go_meet
      exact ⟨bool_eq (by simp [wordB]), rfl⟩
  obtain ⟨rfl, rfl⟩ := hcut
  obtain ⟨b3, b3h⟩ : ∃ b, (hp && !wordB pref) = b := ⟨_, rfl⟩
  rw [b3h]
  cases b3
  case true =>
    have HF : Hid (E = 5) := firstE_stop (e := 5) (by rw [HE4.out, optE_has b3h]) (by decide)
    go_wp2
    go_ret
    exact ⟨by rw [HF.out]; rfl, HB2.out⟩
  go_upto_region 14 with fail
  go_cut [54] (fun c wx => c = .bool (!hp && pref != 0) ∧ w2 = wx)
  case first =>
    cases hp
    · go_wp2_with fail
      go_meet
      exact ⟨rfl, rfl⟩
    · go_wp2_with fail
      go_meet
      exact ⟨rfl, rfl⟩
  obtain ⟨rfl, rfl⟩ := hcut
  obtain ⟨b4, b4h⟩ : ∃ b, (!hp && pref != 0) = b := ⟨_, rfl⟩
  rw [b4h]
  cases b4
  case true =>
    have HF : Hid (E = 1) := firstE_stop (e := 1) (by rw [HE4.out, optE_not b4h]) (by decide)
    go_wp2
    go_ret
    exact ⟨by rw [HF.out]; rfl, HB2.out⟩
  have HE5 := Lib.hid (firstE_zero HE4.out (optE_fine b3h b4h))
  clear HE4 b3h b4h
  go_upto_region 16 with fail
  go_cut [63] (fun c wx => c = .bool (ha && asB aas) ∧ w2 = wx)
  case first =>
    cases ha
    · go_wp2_with fail
      go_meet
      exact ⟨rfl, rfl⟩
    · obtain ⟨q, hq⟩ : ∃ b, decide (aas < 1) = b := ⟨_, rfl⟩
      cases q
      · go_wp2_with fail
        go_meet
        exact ⟨bool_eq (by unfold asB; rw [hq]; rfl), rfl⟩
      · go_wp2_with fail
        go_meet
        exact ⟨bool_eq (by unfold asB; rw [hq]; rfl), rfl⟩
  obtain ⟨rfl, rfl⟩ := hcut
  obtain ⟨b5, b5h⟩ : ∃ b, (ha && asB aas) = b := ⟨_, rfl⟩
  rw [b5h]
  cases b5
  case true =>
    have HF : Hid (E = 5) := firstE_stop (e := 5) (by rw [HE5.out, optE_as b5h]) (by decide)
    go_wp2
    go_ret
    exact ⟨by rw [HF.out]; rfl, HB2.out⟩
  go_upto_region 18 with fail
  go_cut [76] (fun c wx => c = .bool (!ha && (aas != 0 || aad != 0)) ∧ w2 = wx)
  case first =>
    cases ha
    · obtain ⟨q, hq⟩ : ∃ b, (aas != 0) = b := ⟨_, rfl⟩
      cases q
      · go_wp2_with fail
        go_meet
        exact ⟨bool_eq (by rw [hq]; rfl), rfl⟩
      · go_wp2_with fail
        go_meet
        exact ⟨bool_eq (by rw [hq]; rfl), rfl⟩
    · go_wp2_with fail
      go_meet
      exact ⟨rfl, rfl⟩
  obtain ⟨rfl, rfl⟩ := hcut
  obtain ⟨b6, b6h⟩ : ∃ b, (!ha && (aas != 0 || aad != 0)) = b := ⟨_, rfl⟩
  rw [b6h]
  cases b6
  case true =>
    have HF : Hid (E = 1) := aggr_bad HE5.out b6h
    go_wp2
    go_ret
    exact ⟨by rw [HF.out]; rfl, HB2.out⟩
  have HE6 := Lib.hid (aggr_fine HE5.out b5h b6h)
  clear HE5 b5h b6h
  have HL2 := Lib.hid (HL.out.grow HB2.out (Nat.le_refl _))
  have HR := Lib.hid (ref18Check_any cA cn cc _ cm _ HL2.out.comm hcn)
  go_wp2_with fail
  refine HR.out.mono ?_
  rintro e w3 ⟨rfl, hb⟩
  have HK3 := Lib.hid (HK2.out.keep hb)
  have HB3 := Lib.hid (below3 HB2.out hb)
  have HL3 := Lib.hid (HL2.out.grow hb (Nat.le_refl _))
  clear hb HR hc2 hc3 hc4 hc5 hc6 hc8 hc9 hc10 hc11 HK2 HB2 HL2 hlt hlt2
  have hlt3 := HK3.out.lt
  generalize commE cm = ec at HE6 ⊢
  by_cases hec : ec = 0
  case neg =>
    have d : (ec != 0) = true := by simpa using hec
    have HF := Lib.hid (firstE_stop HE6.out hec)
    clear hec
    go_wp2
    go_ret
    exact ⟨by rw [HF.out]; rfl, HB3.out⟩
  subst hec
  have HE7 := Lib.hid (firstE_zero HE6.out rfl)
  clear HE6
  have hc12 := HK3.out.cell 12
  have hc13 := HK3.out.cell 13
  have hc14 := HK3.out.cell 14
  have hc15 := HK3.out.cell 15
  simp only [List.getElem?_cons_zero, List.getElem?_cons_succ] at hc12 hc13 hc14 hc15
  obtain ⟨b7, b7h⟩ : ∃ b, (!(ho == (ori != 0))) = b := ⟨_, rfl⟩
  cases b7
  case true =>
    have HF : Hid (E = 1) := firstE_stop (e := 1) (by rw [HE7.out, show (ho != (ori != 0)) = true from b7h]; rfl) (by decide)
    go_wp2
    go_ret
    exact ⟨by rw [HF.out]; rfl, HB3.out⟩
  have HE8 := Lib.hid (firstE_zero HE7.out (by rw [show (ho != (ori != 0)) = false from b7h]; rfl))
  clear HE7
  have HT : Hid (Ints w3 w3.heap.size .u32 kA kn kc cl) := HL3.out.clus
  have HTL : Hid (cl.length = kn) := HT.out.len
  by_cases h64 : 64 < kn
  · have d : decide ((kn : Int) > 64) = true := by simp; omega
    have HF : Hid (E = 4) := firstE_stop (e := 4) (by rw [HE8.out, show clusE cl = 4 from if_pos (by rw [HTL.out]; exact h64)]) (by decide)
    go_wp2
    go_ret
    exact ⟨by rw [HF.out]; rfl, HB3.out⟩
  have d64 : decide ((kn : Int) > 64) = false := by simp; omega
  have HP : Hid (clusE cl = if memB cl 0 then 1 else 0) := if_neg (by rw [HTL.out]; exact h64)
  clear h64
  go_wp2
  go_loop [109] (fun i => ∃ k : Nat, k ≤ kn ∧ i = .int .i64 k ∧ Hid (∀ j, j < k → cl.getD j 0 ≠ 0)) (fun i => kn - (intOf i).toNat)
  case atStart => exact ⟨0, Nat.zero_le _, rfl, fun j hj => absurd hj (by omega)⟩
  case round =>
    obtain ⟨k, hk, rfl, hno⟩ := hrel
    by_cases hlk : k < kn
    · obtain ⟨b, o, y, rfl, hbB, c0, hy⟩ := HT.out.cell hlk
      by_cases hyx : y = 0
      · have HF : Hid (E = 1) := firstE_stop (e := 1) (by rw [HE8.out, HP.out, memB_yes (by rw [HTL.out]; exact hlk) (by rw [hy.out, hyx])]; rfl) (by decide)
        have d : (y == 0) = true := by simp [hyx]
        clear hy hyx
        go_wp2
        go_ret
        exact ⟨by rw [HF.out]; rfl, HB3.out⟩
      · have HN : Hid (∀ j, j < k + 1 → cl.getD j 0 ≠ 0) := ins_next hno.out hy.out hyx
        have d : (y == 0) = false := by simp [hyx]
        clear hy hyx
        go_wp2
        go_round
        case rel => exact ⟨k + 1, by omega, by go_num, HN⟩
        case measure => simp [intOf]; omega
    obtain rfl : k = kn := by omega
    have HE9 := Lib.hid (firstE_zero HE8.out (by rw [HP.out, memB_no fun j hj => hno.out j (by rw [← HTL.out]; exact hj)]; rfl))
    clear HE8 HP hno HTL HT
    have HX : Hid (Tlvs w3 w3.heap.size uA un uc us) := HL3.out.unk
    have HUL : Hid (us.length = un) := HX.out.len
    by_cases h64 : 64 < un
    · have d : decide ((un : Int) > 64) = true := by simp; omega
      have HF : Hid (E = 4) := firstE_stop (e := 4) (by rw [HE9.out, show unkE us = 4 from if_pos (by rw [HUL.out]; exact h64)]) (by decide)
      go_wp2
      go_ret
      exact ⟨by rw [HF.out]; rfl, HB3.out⟩
    have d64' : decide ((un : Int) > 64) = false := by simp; omega
    have hn64 : un ≤ 64 := by omega
    have HP : Hid (unkE us = unkF (prevK us 0) (us.drop 0)) := if_neg (by rw [HUL.out]; exact h64)
    have HEU : Hid (E = unkE us) := by
      show _ = _
      rw [HE9.out, firstE]
      split
      · rename_i h; rw [h]; rfl
      · rfl
    clear h64 HE9
    go_wp2
    go_loopw [123] (fun iv wr => UIn w3 us un iv wr) (fun i _ => un - (intOf i).toNat)
    case atStart => exact ⟨0, Nat.zero_le _, rfl, HP, Below.refl _ _⟩
    case round =>
      obtain ⟨k, hk, rfl, hpe, hbw⟩ := hrel
      have hc15' : wr.cell? ⟨w.heap.size, 15, none⟩ = some (.slice uA un uc) := (hbw.out.cell (p := ⟨w.heap.size, 15, none⟩) hlt3).trans hc15
      have hw3r := hbw.out.size
      by_cases hlt : k < un
      case neg =>
        obtain rfl : k = un := by omega
        have HF : Hid (E = 0) := by
          show _ = _
          rw [HEU.out, hpe.out, List.drop_of_length_le (by rw [HUL.out]; exact Nat.le_refl _), unkF]
        go_wp2
        go_ret
        exact ⟨by rw [HF.out]; rfl, below3 HB3.out hbw.out⟩
      have HXR : Hid (Tlvs wr w3.heap.size uA un uc us) := HX.out.below hbw.out
      obtain ⟨b, o, f, rfl, hbB, hf, g0, g1, hi⟩ := HXR.out.get hlt
      obtain ⟨y, fA, fn, fc, xs⟩ := f
      dsimp only at g0 g1 hi
      have hbr : b < wr.heap.size := by omega
      have hwlt : w.heap.size < wr.heap.size := by omega
      have HF : Hid (us[k]? = some (y, xs)) := hf
      have HLX : Hid (xs.length = fn) := hi.out.len
      have HBA : Hid (Below w3.heap.size w3 (wr.alloc (.cells #[.int .i64 y, .slice fA fn fc] 88))) := below3 hbw.out (belowA _ _)
      clear hf hi
      by_cases hk1 : y < 11
      · have HF2 : Hid (unkE us = 15) := by show _ = _; rw [hpe.out, unk_kind HF.out (.inl (by dsimp only; omega))]
        have d1 : decide (y < 11) = true := by simpa using hk1
        go_wp2
        go_ret
        exact ⟨by rw [HEU.out, HF2.out]; rfl, below3 HB3.out HBA.out⟩
      have d1 : decide (y < 11) = false := by simpa using hk1
      by_cases hk2 : 255 < y
      · have HF2 : Hid (unkE us = 15) := by show _ = _; rw [hpe.out, unk_kind HF.out (.inr hk2)]
        have d2 : decide (y > 255) = true := by simpa using hk2
        go_wp2
        go_ret
        exact ⟨by rw [HEU.out, HF2.out]; rfl, below3 HB3.out HBA.out⟩
      have d2 : decide (y > 255) = false := by simpa using hk2
      have HK : Hid (¬ (y ≤ 10 ∨ 255 < y)) := fun h => by omega
      by_cases hk0 : k = 0
      · subst hk0
        have HLE : Hid (leK (prevK us 0) y = false) := rfl
        have d0 : decide (((0 : Nat) : Int) > 0) = false := by simp
        have d0' : decide ((0 : Int) > 0) = false := by simp
        simp only [Nat.zero_mul, Nat.add_zero] at g0 g1
        by_cases hln : 255 < fn
        · have HF2 : Hid (unkE us = 4) := by show _ = _; rw [hpe.out, unk_long HF.out HK.out HLE.out (by dsimp only; rw [HLX.out]; exact hln)]
          have dl : decide ((fn : Int) > 255) = true := by simp; omega
          clear hpe
          go_wp2
          go_quiet (fail)
          go_wp2
          go_ret
          exact ⟨by rw [HEU.out, HF2.out]; rfl, below3 HB3.out (below_drewN HBA.out _)⟩
        · have HN : Hid (unkE us = unkF (prevK us (0 + 1)) (us.drop (0 + 1))) := by show _ = _; rw [hpe.out, unk_next HF.out HK.out HLE.out (by dsimp only; rw [HLX.out]; exact hln)]
          have dl : decide ((fn : Int) > 255) = false := by simp; omega
          clear hpe
          go_wp2
          go_quiet (fail)
          go_wp2
          go_roundw
          case rel => exact ⟨0 + 1, by omega, by go_num, HN, below_drewN HBA.out _⟩
          case measure => simp [intOf]; omega
      obtain ⟨b', o', f', he', hbB', hf', g0', g1', hi'⟩ := HXR.out.get (j := k - 1) (by omega)
      obtain ⟨rfl, rfl⟩ : b = b' ∧ o = o' := by simpa using he'
      obtain ⟨z, fA', fn', fc', xs'⟩ := f'
      dsimp only at g0' g1' hi'
      have HPK : Hid (prevK us k = some z) := by
        show _ = _
        unfold prevK
        rw [if_neg hk0, hf'.out]
        rfl
      have dk : decide ((k : Int) > 0) = true := by simp; omega
      have hk1 : 0 < k := by omega
      have nz : ((k : Int) - 1).toNat = k - 1 := by omega
      have p1 : 0 ≤ (k : Int) - 1 := by omega
      have p2 : (k : Int) - 1 < (un : Int) := by omega
      clear hf' hi' he'
      by_cases hyz : y ≤ z
      · have HF2 : Hid (unkE us = 16) := by show _ = _; rw [hpe.out, unk_order HF.out HK.out (by rw [HPK.out]; simpa [leK] using hyz)]
        have d : decide (y ≤ z) = true := by simp [hyz]
        clear hpe
        go_wp2
        go_quiet (fail)
        go_wp2
        go_ret
        exact ⟨by rw [HEU.out, HF2.out]; rfl, below3 HB3.out (below_drewN HBA.out _)⟩
      have d : decide (y ≤ z) = false := by simp; omega
      have HLE : Hid (leK (prevK us k) y = false) := by show _ = _; rw [HPK.out]; simpa [leK] using hyz
      by_cases hln : 255 < fn
      · have HF2 : Hid (unkE us = 4) := by show _ = _; rw [hpe.out, unk_long HF.out HK.out HLE.out (by dsimp only; rw [HLX.out]; exact hln)]
        have dl : decide ((fn : Int) > 255) = true := by simp; omega
        clear hpe
        go_wp2
        go_quiet (fail)
        go_wp2
        go_ret
        exact ⟨by rw [HEU.out, HF2.out]; rfl, below3 HB3.out (below_drewN HBA.out _)⟩
      · have HN : Hid (unkE us = unkF (prevK us (k + 1)) (us.drop (k + 1))) := by show _ = _; rw [hpe.out, unk_next HF.out HK.out HLE.out (by dsimp only; rw [HLX.out]; exact hln)]
        have dl : decide ((fn : Int) > 255) = false := by simp; omega
        clear hpe
        go_wp2
        go_quiet (fail)
        go_wp2
        go_roundw
        case rel => exact ⟨k + 1, by omega, by go_num, HN, below_drewN HBA.out _⟩
        case measure => simp [intOf]; omega
end Go.Proofs.Ytojgohgeagbkbaa
