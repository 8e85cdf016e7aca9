/- Merge: the reference's. -/
import Derived.Test.YteohdanlcaoaiaaDoorAscend
import Derived.Test.YteohdanlcaoaiaaDoorValidLaw
import Derived.Test.YteohdanlcaoaiaaDoorSegRef
namespace Go.Proofs.YteohdanlcaoaiaaDoor
open Go.RowKit

set_option linter.unusedSimpArgs false in
set_option maxRecDepth 100000 in
set_option maxHeartbeats 8000000 in
theorem refMerge_any (A B : Option Addr) (n c m d : Nat) (p q : Path) (w : World) (hx : Segs w w.heap.size A n c p) (hy : Segs w w.heap.size B m d q) (hs : Sm p) (ht : Sm q) :
    Calls Tryd.prog 37 #[.slice A n c, .slice B m d] w (GivesPathErr (mergeR p q) w) := by
  have HX := Lib.hid hx
  have HY := Lib.hid hy
  have HS := Lib.hid hs
  have HT := Lib.hid ht
  have hn : n ≤ 1000000 := by have h1 := hx.len; unfold Sm at hs; omega
  have hm : m ≤ 1000000 := by have h1 := hy.len; unfold Sm at ht; omega
  clear hx hy hs ht
  go_enter Tryd.func37, Tryd.ntmps37
  go_wp2_with fail
  refine (refCheck_any A n c _ p w HX.out (Nat.le_refl _) (by omega)).mono ?_
  rintro e w1 ⟨rfl, hb1⟩
  have HB1 := Lib.hid hb1
  by_cases he : pathErr p = 0
  case neg =>
    have HF : Hid (mergeR p q = ([], pathErr p)) := if_pos he
    obtain ⟨g, hg⟩ : ∃ g, pathErr p = g := ⟨_, rfl⟩
    rw [hg] at HF he ⊢
    have d1 : (g != 0) = true := by simp [he]
    clear he hg hb1
    go_wp2
    go_ret2
    rw [HF.out]
    exact ⟨_, _, _, rfl, SOut.nil _ _ _, HB1.out⟩
  rw [he]
  go_wp2_with fail
  refine (refCheck_any B m d _ q w1 (HY.out.grow hb1 (Nat.le_refl _)) (Nat.le_refl _) (by omega)).mono ?_
  rintro e w2 ⟨rfl, hb2⟩
  have HB2 := Lib.hid (below3 HB1.out hb2)
  by_cases hf : pathErr q = 0
  case neg =>
    have HF : Hid (mergeR p q = ([], pathErr q)) := by
      show _ = _
      unfold mergeR
      rw [if_neg (fun g => g he), if_pos hf]
    obtain ⟨g, hg⟩ : ∃ g, pathErr q = g := ⟨_, rfl⟩
    rw [hg] at HF hf ⊢
    have d1 : (g != 0) = true := by simp [hf]
    clear he hf hg hb1 hb2
    go_wp2
    go_ret2
    rw [HF.out]
    exact ⟨_, _, _, rfl, SOut.nil _ _ _, HB2.out⟩
  rw [hf]
  obtain ⟨out, hout⟩ : ∃ o, mergeOut ((leadR (stripR p)).take (lcp (leadR (stripR p)) (leadR (stripR q)))) (othersR (stripR p) (stripR q)) = o := ⟨_, rfl⟩
  obtain ⟨ot, hot⟩ : ∃ o, othersR (stripR p) (stripR q) = o := ⟨_, rfl⟩
  have HM : Hid (mergeR p q = if 255 < ot.length ∨ 64 < out.length then ([], 4) else (out, 0)) := by
    show _ = _
    unfold mergeR
    rw [if_neg (fun g => g he), if_neg (fun g => g hf), hout, hot]
  have HOUT := Lib.hid hout
  have HOT := Lib.hid hot
  have HE := Lib.hid he
  have HF := Lib.hid hf
  clear he hf hb1 hb2 hout hot
  go_wp2_with fail
  refine (refStrip_any A n c _ p w2 (HX.out.below HB2.out) HB2.out.size HS.out).mono ?_
  rintro e w3 ⟨A3, m3, c3, rfl, ho3, hb3⟩
  have HB3 := Lib.hid (below3 HB2.out hb3)
  have HSP := Lib.hid (sm_strip HS.out)
  have HSQ := Lib.hid (sm_strip HT.out)
  have HX3 := Lib.hid ho3.segs
  clear hb3 ho3
  go_wp2_with fail
  refine (refStrip_any B m d _ q w3 (HY.out.below HB3.out) HB3.out.size HT.out).mono ?_
  rintro e w4 ⟨A4, m4, c4, rfl, ho4, hb4⟩
  have HB4 := Lib.hid (below3 HB3.out hb4)
  have HX4 := Lib.hid (HX3.out.grow hb4 (Nat.le_refl _))
  have HY4 := Lib.hid ho4.segs
  have HRA := Lib.hid (flat_strip_range HE.out)
  have HRB := Lib.hid (flat_strip_range HF.out)
  obtain ⟨a, ha⟩ : ∃ a, stripR p = a := ⟨_, rfl⟩
  obtain ⟨b, hb⟩ : ∃ b, stripR q = b := ⟨_, rfl⟩
  rw [ha] at HX4 HSP HOUT HOT HRA
  rw [hb] at HY4 HSQ HOUT HOT HRB
  clear hb4 ho4 HX3 HX HY HS HT ha hb
  go_wp2_with fail
  refine (refLeading_any A3 m3 c3 _ a w4 HX4.out (Nat.le_refl _) HSP.out).mono ?_
  rintro e w5 ⟨A5, c5, rfl, ho5, hb5⟩
  have HX5 := Lib.hid (HX4.out.grow hb5 (Nat.le_refl _))
  have HY5 := Lib.hid (HY4.out.grow hb5 (Nat.le_refl _))
  have HB5 := Lib.hid (below3 HB4.out hb5)
  have HI5 := Lib.hid ho5.ints
  clear hb5 ho5 HX4 HY4
  go_wp2_with fail
  refine (refLeading_any A4 m4 c4 _ b w5 HY5.out (Nat.le_refl _) HSQ.out).mono ?_
  rintro e w6 ⟨A6, c6, rfl, ho6, hb6⟩
  have HX6 := Lib.hid (HX5.out.grow hb6 (Nat.le_refl _))
  have HY6 := Lib.hid (HY5.out.grow hb6 (Nat.le_refl _))
  have HB6 := Lib.hid (below3 HB5.out hb6)
  have HI5' := Lib.hid ((HI5.out.below hb6).more hb6.size)
  have HI6 := Lib.hid ho6.ints
  have hla := lead_le a
  have hlb := lead_le b
  have hfa : (flat a).length ≤ 1000000 := by have := HSP.out; unfold Sm at this; omega
  have hfb : (flat b).length ≤ 1000000 := by have := HSQ.out; unfold Sm at this; omega
  obtain ⟨x, hxx⟩ : ∃ x, leadR a = x := ⟨_, rfl⟩
  obtain ⟨y, hyy⟩ : ∃ y, leadR b = y := ⟨_, rfl⟩
  have HXX := Lib.hid hxx
  have HYY := Lib.hid hyy
  rw [hxx] at HI5' hla HOUT ⊢
  rw [hyy] at HI6 hlb HOUT ⊢
  have HOTE : Hid (othersR a b = ot) := HOT
  have HOT2 : Hid (insAll (insAll [] ((flat a).drop (lcp x y))) ((flat b).drop (lcp x y)) = ot) := by
    show _ = _
    rw [← HOT.out, ← hxx, ← hyy]
    rfl
  obtain ⟨lx, hlx⟩ : ∃ n, x.length = n := ⟨_, rfl⟩
  obtain ⟨ly, hly⟩ : ∃ n, y.length = n := ⟨_, rfl⟩
  have HLX := Lib.hid hlx
  have HLY := Lib.hid hly
  rw [hlx] at HI5' hla ⊢
  rw [hly] at HI6 hlb ⊢
  clear hb6 ho6 HX5 HY5 HI5 hxx hyy hlx hly HOT
  go_wp2
  go_loopw [10] (fun nv wr => LcInv w6 x y nv wr) (fun nv _ => lx - (intOf nv).toNat)
  case atStart => exact ⟨0, Nat.zero_le _, Nat.zero_le _, rfl, by show _ = _; simp, Below.refl _ _⟩
  case round =>
    obtain ⟨k, hkx, hky, rfl, hlc, hbw⟩ := hrel
    rw [HLX.out] at hkx
    rw [HLY.out] at hky
    have hwr := hbw.out.size
    obtain ⟨cb, hcb⟩ : ∃ c, eqAt x y k = c := ⟨_, rfl⟩
    have HCB := Lib.hid hcb
    clear hcb
    go_upto_region 10 with fail
    go_cut [51] (fun bv wx => bv = .bool cb ∧ Hid (Below wr.heap.size wr wx))
    case first =>
      have HDR : Hid (Below wr.heap.size wr wr.drew) := (Below.refl _ _).drew
      by_cases h1 : k < lx
      case neg =>
        have hb1 : Hid (cb = false) := by show _ = _; rw [← HCB.out]; unfold eqAt; rw [HLX.out]; simp [h1]
        have hnk : ¬ (k : Int) < (lx : Int) := by omega
        have dk : decide ((k : Int) < (lx : Int)) = false := by simp; omega
        clear h1
        refine wp_region_noPanic ?_
        refine wp_region_held_drew (S := fun _ => True) (by kernel_rfl) trivial (fun hHeld => ?_)
        refine take_in (i := 0) _ (some 31) (by kernel_rfl) (by kernel_rfl) (by kernel_rfl) (by kernel_rfl) (fun _ _ _ h => h) (by rfl) (fun o ho w hSw => by cases ho; (try dsimp only at hSw); (try go_split_ands); go_simp; (try with_reducible rfl)) hHeld ?_
        try simp only [Act.put, List.setIfInBounds_toArray, List.set_cons_zero, List.set_cons_succ]
        refine take_in (i := 1) _ (some 32) (by kernel_rfl) (by kernel_rfl) (by kernel_rfl) (by kernel_rfl) (fun _ _ _ h => h) (by rfl) (fun o ho w hSw => by cases ho; (try dsimp only at hSw); (try go_split_ands); go_simp; (try with_reducible rfl)) hHeld ?_
        try simp only [Act.put, List.setIfInBounds_toArray, List.set_cons_zero, List.set_cons_succ]
        refine take_in (i := 2) _ (some 33) (by kernel_rfl) (by kernel_rfl) (by kernel_rfl) (by kernel_rfl) (fun _ _ _ h => h) (by rfl) (fun o ho w hSw => by cases ho; (try dsimp only at hSw); (try go_split_ands); go_simp; (try with_reducible rfl)) hHeld ?_
        try simp only [Act.put, List.setIfInBounds_toArray, List.set_cons_zero, List.set_cons_succ]
        refine take_in (i := 3) _ (some 34) (by kernel_rfl) (by kernel_rfl) (by kernel_rfl) (by kernel_rfl) (fun _ _ _ h => h) (by rfl) (fun o ho w hSw => by cases ho; (try dsimp only at hSw); (try go_split_ands); go_simp; (try with_reducible rfl)) hHeld ?_
        try simp only [Act.put, List.setIfInBounds_toArray, List.set_cons_zero, List.set_cons_succ]
        refine take_in (i := 4) _ (some 35) (by kernel_rfl) (by kernel_rfl) (by kernel_rfl) (by kernel_rfl) (fun _ _ _ h => h) (by rfl) (fun o ho w hSw => by cases ho; (try dsimp only at hSw); (try go_split_ands); go_simp; (try with_reducible rfl)) hHeld ?_
        try simp only [Act.put, List.setIfInBounds_toArray, List.set_cons_zero, List.set_cons_succ]
        refine take_un (i := 5) (some 36) (by kernel_rfl) (by kernel_rfl) (by kernel_rfl) (by kernel_rfl) (fun _ _ _ h => h) (by rfl) hHeld ?_
        try simp only [Act.put, List.setIfInBounds_toArray, List.set_cons_zero, List.set_cons_succ]
        refine take_un (i := 6) (some 37) (by kernel_rfl) (by kernel_rfl) (by kernel_rfl) (by kernel_rfl) (fun _ _ _ h => h) (by rfl) hHeld ?_
        try simp only [Act.put, List.setIfInBounds_toArray, List.set_cons_zero, List.set_cons_succ]
        refine take_un (i := 7) (some 38) (by kernel_rfl) (by kernel_rfl) (by kernel_rfl) (by kernel_rfl) (fun _ _ _ h => h) (by rfl) hHeld ?_
        try simp only [Act.put, List.setIfInBounds_toArray, List.set_cons_zero, List.set_cons_succ]
        refine take_un (i := 8) (some 39) (by kernel_rfl) (by kernel_rfl) (by kernel_rfl) (by kernel_rfl) (fun _ _ _ h => h) (by rfl) hHeld ?_
        try simp only [Act.put, List.setIfInBounds_toArray, List.set_cons_zero, List.set_cons_succ]
        refine take_in (i := 9) _ (some 40) (by kernel_rfl) (by kernel_rfl) (by kernel_rfl) (by kernel_rfl) (fun _ _ _ h => h) (by rfl) (fun o ho w hSw => by cases ho; (try dsimp only at hSw); (try go_split_ands); go_simp; (try with_reducible rfl)) hHeld ?_
        try simp only [Act.put, List.setIfInBounds_toArray, List.set_cons_zero, List.set_cons_succ]
        refine take_in (i := 10) _ (some 41) (by kernel_rfl) (by kernel_rfl) (by kernel_rfl) (by kernel_rfl) (fun _ _ _ h => h) (by rfl) (fun o ho w hSw => by cases ho; (try dsimp only at hSw); (try go_split_ands); go_simp; (try with_reducible rfl)) hHeld ?_
        try simp only [Act.put, List.setIfInBounds_toArray, List.set_cons_zero, List.set_cons_succ]
        refine take_un (i := 11) (some 42) (by kernel_rfl) (by kernel_rfl) (by kernel_rfl) (by kernel_rfl) (fun _ _ _ h => h) (by rfl) hHeld ?_
        try simp only [Act.put, List.setIfInBounds_toArray, List.set_cons_zero, List.set_cons_succ]
        refine take_un (i := 12) (some 43) (by kernel_rfl) (by kernel_rfl) (by kernel_rfl) (by kernel_rfl) (fun _ _ _ h => h) (by rfl) hHeld ?_
        try simp only [Act.put, List.setIfInBounds_toArray, List.set_cons_zero, List.set_cons_succ]
        refine take_un (i := 13) (some 44) (by kernel_rfl) (by kernel_rfl) (by kernel_rfl) (by kernel_rfl) (fun _ _ _ h => h) (by rfl) hHeld ?_
        try simp only [Act.put, List.setIfInBounds_toArray, List.set_cons_zero, List.set_cons_succ]
        refine take_un (i := 14) (some 45) (by kernel_rfl) (by kernel_rfl) (by kernel_rfl) (by kernel_rfl) (fun _ _ _ h => h) (by rfl) hHeld ?_
        try simp only [Act.put, List.setIfInBounds_toArray, List.set_cons_zero, List.set_cons_succ]
        refine take_un (i := 15) (some 46) (by kernel_rfl) (by kernel_rfl) (by kernel_rfl) (by kernel_rfl) (fun _ _ _ h => h) (by rfl) hHeld ?_
        try simp only [Act.put, List.setIfInBounds_toArray, List.set_cons_zero, List.set_cons_succ]
        refine take_un (i := 16) (some 47) (by kernel_rfl) (by kernel_rfl) (by kernel_rfl) (by kernel_rfl) (fun _ _ _ h => h) (by rfl) hHeld ?_
        try simp only [Act.put, List.setIfInBounds_toArray, List.set_cons_zero, List.set_cons_succ]
        refine take_un (i := 17) (some 48) (by kernel_rfl) (by kernel_rfl) (by kernel_rfl) (by kernel_rfl) (fun _ _ _ h => h) (by rfl) hHeld ?_
        try simp only [Act.put, List.setIfInBounds_toArray, List.set_cons_zero, List.set_cons_succ]
        refine take_un (i := 18) (some 49) (by kernel_rfl) (by kernel_rfl) (by kernel_rfl) (by kernel_rfl) (fun _ _ _ h => h) (by rfl) hHeld ?_
        try simp only [Act.put, List.setIfInBounds_toArray, List.set_cons_zero, List.set_cons_succ]
        refine take_un (i := 19) (some 50) (by kernel_rfl) (by kernel_rfl) (by kernel_rfl) (by kernel_rfl) (fun _ _ _ h => h) (by rfl) hHeld ?_
        try simp only [Act.put, List.setIfInBounds_toArray, List.set_cons_zero, List.set_cons_succ]
        refine take_in (i := 20) _ (some 51) (by kernel_rfl) (by kernel_rfl) (by kernel_rfl) (by kernel_rfl) (fun _ _ _ h => h) (by rfl) (fun o ho w hSw => by cases ho; (try dsimp only at hSw); (try go_split_ands); go_simp; (try with_reducible rfl)) hHeld ?_
        try simp only [Act.put, List.setIfInBounds_toArray, List.set_cons_zero, List.set_cons_succ]
        refine wpAnyH_done (by kernel_rfl) ?_ _
        refine NoPanic.normal ?_
        go_wp2_with fail
        go_meet
        exact ⟨bool_eq hb1.out.symm, HDR⟩
      have hk1 : (k : Int) < (lx : Int) := by omega
      have dk1 : decide ((k : Int) < (lx : Int)) = true := by simp; omega
      by_cases h2 : k < ly
      case neg =>
        have hb1 : Hid (cb = false) := by show _ = _; rw [← HCB.out]; unfold eqAt; rw [HLY.out]; simp [h2]
        have hnk : ¬ (k : Int) < (ly : Int) := by omega
        have dk : decide ((k : Int) < (ly : Int)) = false := by simp; omega
        clear h1 h2
        refine wp_region_noPanic ?_
        refine wp_region_held_drew (S := fun _ => True) (by kernel_rfl) trivial (fun hHeld => ?_)
        refine take_in (i := 0) _ (some 31) (by kernel_rfl) (by kernel_rfl) (by kernel_rfl) (by kernel_rfl) (fun _ _ _ h => h) (by rfl) (fun o ho w hSw => by cases ho; (try dsimp only at hSw); (try go_split_ands); go_simp; (try with_reducible rfl)) hHeld ?_
        try simp only [Act.put, List.setIfInBounds_toArray, List.set_cons_zero, List.set_cons_succ]
        refine take_in (i := 1) _ (some 32) (by kernel_rfl) (by kernel_rfl) (by kernel_rfl) (by kernel_rfl) (fun _ _ _ h => h) (by rfl) (fun o ho w hSw => by cases ho; (try dsimp only at hSw); (try go_split_ands); go_simp; (try with_reducible rfl)) hHeld ?_
        try simp only [Act.put, List.setIfInBounds_toArray, List.set_cons_zero, List.set_cons_succ]
        refine take_in (i := 2) _ (some 33) (by kernel_rfl) (by kernel_rfl) (by kernel_rfl) (by kernel_rfl) (fun _ _ _ h => h) (by rfl) (fun o ho w hSw => by cases ho; (try dsimp only at hSw); (try go_split_ands); go_simp; (try with_reducible rfl)) hHeld ?_
        try simp only [Act.put, List.setIfInBounds_toArray, List.set_cons_zero, List.set_cons_succ]
        refine take_in (i := 3) _ (some 34) (by kernel_rfl) (by kernel_rfl) (by kernel_rfl) (by kernel_rfl) (fun _ _ _ h => h) (by rfl) (fun o ho w hSw => by cases ho; (try dsimp only at hSw); (try go_split_ands); go_simp; (try with_reducible rfl)) hHeld ?_
        try simp only [Act.put, List.setIfInBounds_toArray, List.set_cons_zero, List.set_cons_succ]
        refine take_in (i := 4) _ (some 35) (by kernel_rfl) (by kernel_rfl) (by kernel_rfl) (by kernel_rfl) (fun _ _ _ h => h) (by rfl) (fun o ho w hSw => by cases ho; (try dsimp only at hSw); (try go_split_ands); go_simp; (try with_reducible rfl)) hHeld ?_
        try simp only [Act.put, List.setIfInBounds_toArray, List.set_cons_zero, List.set_cons_succ]
        refine take_in (i := 5) _ (some 36) (by kernel_rfl) (by kernel_rfl) (by kernel_rfl) (by kernel_rfl) (fun _ _ _ h => h) (by rfl) (fun o ho w hSw => by cases ho; (try dsimp only at hSw); (try go_split_ands); go_simp; (try with_reducible rfl)) hHeld ?_
        try simp only [Act.put, List.setIfInBounds_toArray, List.set_cons_zero, List.set_cons_succ]
        refine take_in (i := 6) _ (some 37) (by kernel_rfl) (by kernel_rfl) (by kernel_rfl) (by kernel_rfl) (fun _ _ _ h => h) (by rfl) (fun o ho w hSw => by cases ho; (try dsimp only at hSw); (try go_split_ands); go_simp; (try with_reducible rfl)) hHeld ?_
        try simp only [Act.put, List.setIfInBounds_toArray, List.set_cons_zero, List.set_cons_succ]
        refine take_in (i := 7) _ (some 38) (by kernel_rfl) (by kernel_rfl) (by kernel_rfl) (by kernel_rfl) (fun _ _ _ h => h) (by rfl) (fun o ho w hSw => by cases ho; (try dsimp only at hSw); (try go_split_ands); go_simp; (try with_reducible rfl)) hHeld ?_
        try simp only [Act.put, List.setIfInBounds_toArray, List.set_cons_zero, List.set_cons_succ]
        refine take_in (i := 8) _ (some 39) (by kernel_rfl) (by kernel_rfl) (by kernel_rfl) (by kernel_rfl) (fun _ _ _ h => h) (by rfl) (fun o ho w hSw => by cases ho; (try dsimp only at hSw); (try go_split_ands); go_simp; (try with_reducible rfl)) hHeld ?_
        try simp only [Act.put, List.setIfInBounds_toArray, List.set_cons_zero, List.set_cons_succ]
        refine take_in (i := 9) _ (some 40) (by kernel_rfl) (by kernel_rfl) (by kernel_rfl) (by kernel_rfl) (fun _ _ _ h => h) (by rfl) (fun o ho w hSw => by cases ho; (try dsimp only at hSw); (try go_split_ands); go_simp; (try with_reducible rfl)) hHeld ?_
        try simp only [Act.put, List.setIfInBounds_toArray, List.set_cons_zero, List.set_cons_succ]
        refine take_in (i := 10) _ (some 41) (by kernel_rfl) (by kernel_rfl) (by kernel_rfl) (by kernel_rfl) (fun _ _ _ h => h) (by rfl) (fun o ho w hSw => by cases ho; (try dsimp only at hSw); (try go_split_ands); go_simp; (try with_reducible rfl)) hHeld ?_
        try simp only [Act.put, List.setIfInBounds_toArray, List.set_cons_zero, List.set_cons_succ]
        refine take_un (i := 11) (some 42) (by kernel_rfl) (by kernel_rfl) (by kernel_rfl) (by kernel_rfl) (fun _ _ _ h => h) (by rfl) hHeld ?_
        try simp only [Act.put, List.setIfInBounds_toArray, List.set_cons_zero, List.set_cons_succ]
        refine take_un (i := 12) (some 43) (by kernel_rfl) (by kernel_rfl) (by kernel_rfl) (by kernel_rfl) (fun _ _ _ h => h) (by rfl) hHeld ?_
        try simp only [Act.put, List.setIfInBounds_toArray, List.set_cons_zero, List.set_cons_succ]
        refine take_un (i := 13) (some 44) (by kernel_rfl) (by kernel_rfl) (by kernel_rfl) (by kernel_rfl) (fun _ _ _ h => h) (by rfl) hHeld ?_
        try simp only [Act.put, List.setIfInBounds_toArray, List.set_cons_zero, List.set_cons_succ]
        refine take_un (i := 14) (some 45) (by kernel_rfl) (by kernel_rfl) (by kernel_rfl) (by kernel_rfl) (fun _ _ _ h => h) (by rfl) hHeld ?_
        try simp only [Act.put, List.setIfInBounds_toArray, List.set_cons_zero, List.set_cons_succ]
        refine take_un (i := 15) (some 46) (by kernel_rfl) (by kernel_rfl) (by kernel_rfl) (by kernel_rfl) (fun _ _ _ h => h) (by rfl) hHeld ?_
        try simp only [Act.put, List.setIfInBounds_toArray, List.set_cons_zero, List.set_cons_succ]
        refine take_un (i := 16) (some 47) (by kernel_rfl) (by kernel_rfl) (by kernel_rfl) (by kernel_rfl) (fun _ _ _ h => h) (by rfl) hHeld ?_
        try simp only [Act.put, List.setIfInBounds_toArray, List.set_cons_zero, List.set_cons_succ]
        refine take_un (i := 17) (some 48) (by kernel_rfl) (by kernel_rfl) (by kernel_rfl) (by kernel_rfl) (fun _ _ _ h => h) (by rfl) hHeld ?_
        try simp only [Act.put, List.setIfInBounds_toArray, List.set_cons_zero, List.set_cons_succ]
        refine take_un (i := 18) (some 49) (by kernel_rfl) (by kernel_rfl) (by kernel_rfl) (by kernel_rfl) (fun _ _ _ h => h) (by rfl) hHeld ?_
        try simp only [Act.put, List.setIfInBounds_toArray, List.set_cons_zero, List.set_cons_succ]
        refine take_un (i := 19) (some 50) (by kernel_rfl) (by kernel_rfl) (by kernel_rfl) (by kernel_rfl) (fun _ _ _ h => h) (by rfl) hHeld ?_
        try simp only [Act.put, List.setIfInBounds_toArray, List.set_cons_zero, List.set_cons_succ]
        refine take_in (i := 20) _ (some 51) (by kernel_rfl) (by kernel_rfl) (by kernel_rfl) (by kernel_rfl) (fun _ _ _ h => h) (by rfl) (fun o ho w hSw => by cases ho; (try dsimp only at hSw); (try go_split_ands); go_simp; (try with_reducible rfl)) hHeld ?_
        try simp only [Act.put, List.setIfInBounds_toArray, List.set_cons_zero, List.set_cons_succ]
        refine wpAnyH_done (by kernel_rfl) ?_ _
        refine NoPanic.normal ?_
        go_wp2_with fail
        go_meet
        exact ⟨bool_eq hb1.out.symm, HDR⟩
      have hk2 : (k : Int) < (ly : Int) := by omega
      have dk2 : decide ((k : Int) < (ly : Int)) = true := by simp; omega
      obtain ⟨bx, ox, u, rfl, hbx, gu, hu⟩ := (HI5'.out.below hbw.out).cell h1
      obtain ⟨by', oy, v, rfl, hby, gv, hv⟩ := (HI6.out.below hbw.out).cell h2
      have hbxw : bx < wr.heap.size := by omega
      have hbyw : by' < wr.heap.size := by omega
      have HSS : Hid (∀ W, Below wr.heap.size wr W → W.cell? ⟨bx, ox + k, none⟩ = some (.int .i64 u) ∧ W.cell? ⟨by', oy + k, none⟩ = some (.int .i64 v)) := fun W h => ⟨(h.cell (p := ⟨bx, ox + k, none⟩) hbxw).trans gu, (h.cell (p := ⟨by', oy + k, none⟩) hbyw).trans gv⟩
      have HCV : Hid (cb = decide (u = v)) := by
        show _ = _
        rw [← HCB.out]
        unfold eqAt
        rw [HLX.out, HLY.out, hu.out, hv.out, decide_eq_true h1, decide_eq_true h2]
        rfl
      clear hu hv
      refine wp_region_noPanic ?_
      refine wp_region_held_drew (S := fun w' => w'.cell? ⟨bx, ox + k, none⟩ = some (.int .i64 u) ∧ w'.cell? ⟨by', oy + k, none⟩ = some (.int .i64 v)) (by kernel_rfl) (HSS.out _ HDR.out) (fun hHeld => ?_)
      refine take_in (i := 0) _ (some 31) (by kernel_rfl) (by kernel_rfl) (by kernel_rfl) (by kernel_rfl) (fun _ _ _ h => h) (by rfl) (fun o ho w hSw => by cases ho; (try dsimp only at hSw); (try go_split_ands); go_simp; (try with_reducible rfl)) hHeld ?_
      try simp only [Act.put, List.setIfInBounds_toArray, List.set_cons_zero, List.set_cons_succ]
      refine take_in (i := 1) _ (some 32) (by kernel_rfl) (by kernel_rfl) (by kernel_rfl) (by kernel_rfl) (fun _ _ _ h => h) (by rfl) (fun o ho w hSw => by cases ho; (try dsimp only at hSw); (try go_split_ands); go_simp; (try with_reducible rfl)) hHeld ?_
      try simp only [Act.put, List.setIfInBounds_toArray, List.set_cons_zero, List.set_cons_succ]
      refine take_in (i := 2) _ (some 33) (by kernel_rfl) (by kernel_rfl) (by kernel_rfl) (by kernel_rfl) (fun _ _ _ h => h) (by rfl) (fun o ho w hSw => by cases ho; (try dsimp only at hSw); (try go_split_ands); go_simp; (try with_reducible rfl)) hHeld ?_
      try simp only [Act.put, List.setIfInBounds_toArray, List.set_cons_zero, List.set_cons_succ]
      refine take_in (i := 3) _ (some 34) (by kernel_rfl) (by kernel_rfl) (by kernel_rfl) (by kernel_rfl) (fun _ _ _ h => h) (by rfl) (fun o ho w hSw => by cases ho; (try dsimp only at hSw); (try go_split_ands); go_simp; (try with_reducible rfl)) hHeld ?_
      try simp only [Act.put, List.setIfInBounds_toArray, List.set_cons_zero, List.set_cons_succ]
      refine take_in (i := 4) _ (some 35) (by kernel_rfl) (by kernel_rfl) (by kernel_rfl) (by kernel_rfl) (fun _ _ _ h => h) (by rfl) (fun o ho w hSw => by cases ho; (try dsimp only at hSw); (try go_split_ands); go_simp; (try with_reducible rfl)) hHeld ?_
      try simp only [Act.put, List.setIfInBounds_toArray, List.set_cons_zero, List.set_cons_succ]
      refine take_in (i := 5) _ (some 36) (by kernel_rfl) (by kernel_rfl) (by kernel_rfl) (by kernel_rfl) (fun _ _ _ h => h) (by rfl) (fun o ho w hSw => by cases ho; (try dsimp only at hSw); (try go_split_ands); go_simp; (try with_reducible rfl)) hHeld ?_
      try simp only [Act.put, List.setIfInBounds_toArray, List.set_cons_zero, List.set_cons_succ]
      refine take_in (i := 6) _ (some 37) (by kernel_rfl) (by kernel_rfl) (by kernel_rfl) (by kernel_rfl) (fun _ _ _ h => h) (by rfl) (fun o ho w hSw => by cases ho; (try dsimp only at hSw); (try go_split_ands); go_simp; (try with_reducible rfl)) hHeld ?_
      try simp only [Act.put, List.setIfInBounds_toArray, List.set_cons_zero, List.set_cons_succ]
      refine take_in (i := 7) _ (some 38) (by kernel_rfl) (by kernel_rfl) (by kernel_rfl) (by kernel_rfl) (fun _ _ _ h => h) (by rfl) (fun o ho w hSw => by cases ho; (try dsimp only at hSw); (try go_split_ands); go_simp; (try with_reducible rfl)) hHeld ?_
      try simp only [Act.put, List.setIfInBounds_toArray, List.set_cons_zero, List.set_cons_succ]
      refine take_in (i := 8) _ (some 39) (by kernel_rfl) (by kernel_rfl) (by kernel_rfl) (by kernel_rfl) (fun _ _ _ h => h) (by rfl) (fun o ho w hSw => by cases ho; (try dsimp only at hSw); (try go_split_ands); go_simp; (try with_reducible rfl)) hHeld ?_
      try simp only [Act.put, List.setIfInBounds_toArray, List.set_cons_zero, List.set_cons_succ]
      refine take_in (i := 9) _ (some 40) (by kernel_rfl) (by kernel_rfl) (by kernel_rfl) (by kernel_rfl) (fun _ _ _ h => h) (by rfl) (fun o ho w hSw => by cases ho; (try dsimp only at hSw); (try go_split_ands); go_simp; (try with_reducible rfl)) hHeld ?_
      try simp only [Act.put, List.setIfInBounds_toArray, List.set_cons_zero, List.set_cons_succ]
      refine take_in (i := 10) _ (some 41) (by kernel_rfl) (by kernel_rfl) (by kernel_rfl) (by kernel_rfl) (fun _ _ _ h => h) (by rfl) (fun o ho w hSw => by cases ho; (try dsimp only at hSw); (try go_split_ands); go_simp; (try with_reducible rfl)) hHeld ?_
      try simp only [Act.put, List.setIfInBounds_toArray, List.set_cons_zero, List.set_cons_succ]
      refine take_in (i := 11) _ (some 42) (by kernel_rfl) (by kernel_rfl) (by kernel_rfl) (by kernel_rfl) (fun _ _ _ h => h) (by rfl) (fun o ho w hSw => by cases ho; (try dsimp only at hSw); (try go_split_ands); go_simp; (try with_reducible rfl)) hHeld ?_
      try simp only [Act.put, List.setIfInBounds_toArray, List.set_cons_zero, List.set_cons_succ]
      refine take_in (i := 12) _ (some 43) (by kernel_rfl) (by kernel_rfl) (by kernel_rfl) (by kernel_rfl) (fun _ _ _ h => h) (by rfl) (fun o ho w hSw => by cases ho; (try dsimp only at hSw); (try go_split_ands); go_simp; (try with_reducible rfl)) hHeld ?_
      try simp only [Act.put, List.setIfInBounds_toArray, List.set_cons_zero, List.set_cons_succ]
      refine take_in (i := 13) _ (some 44) (by kernel_rfl) (by kernel_rfl) (by kernel_rfl) (by kernel_rfl) (fun _ _ _ h => h) (by rfl) (fun o ho w hSw => by cases ho; (try dsimp only at hSw); (try go_split_ands); go_simp; (try with_reducible rfl)) hHeld ?_
      try simp only [Act.put, List.setIfInBounds_toArray, List.set_cons_zero, List.set_cons_succ]
      refine take_in (i := 14) _ (some 45) (by kernel_rfl) (by kernel_rfl) (by kernel_rfl) (by kernel_rfl) (fun _ _ _ h => h) (by rfl) (fun o ho w hSw => by cases ho; (try dsimp only at hSw); (try go_split_ands); go_simp; (try with_reducible rfl)) hHeld ?_
      try simp only [Act.put, List.setIfInBounds_toArray, List.set_cons_zero, List.set_cons_succ]
      refine take_in (i := 15) _ (some 46) (by kernel_rfl) (by kernel_rfl) (by kernel_rfl) (by kernel_rfl) (fun _ _ _ h => h) (by rfl) (fun o ho w hSw => by cases ho; (try dsimp only at hSw); (try go_split_ands); go_simp; (try with_reducible rfl)) hHeld ?_
      try simp only [Act.put, List.setIfInBounds_toArray, List.set_cons_zero, List.set_cons_succ]
      refine take_in (i := 16) _ (some 47) (by kernel_rfl) (by kernel_rfl) (by kernel_rfl) (by kernel_rfl) (fun _ _ _ h => h) (by rfl) (fun o ho w hSw => by cases ho; (try dsimp only at hSw); (try go_split_ands); go_simp; (try with_reducible rfl)) hHeld ?_
      try simp only [Act.put, List.setIfInBounds_toArray, List.set_cons_zero, List.set_cons_succ]
      refine take_in (i := 17) _ (some 48) (by kernel_rfl) (by kernel_rfl) (by kernel_rfl) (by kernel_rfl) (fun _ _ _ h => h) (by rfl) (fun o ho w hSw => by cases ho; (try dsimp only at hSw); (try go_split_ands); go_simp; (try with_reducible rfl)) hHeld ?_
      try simp only [Act.put, List.setIfInBounds_toArray, List.set_cons_zero, List.set_cons_succ]
      refine take_in (i := 18) _ (some 49) (by kernel_rfl) (by kernel_rfl) (by kernel_rfl) (by kernel_rfl) (fun _ _ _ h => h) (by rfl) (fun o ho w hSw => by cases ho; (try dsimp only at hSw); (try go_split_ands); go_simp; (try with_reducible rfl)) hHeld ?_
      try simp only [Act.put, List.setIfInBounds_toArray, List.set_cons_zero, List.set_cons_succ]
      refine take_in (i := 19) _ (some 50) (by kernel_rfl) (by kernel_rfl) (by kernel_rfl) (by kernel_rfl) (fun _ _ _ h => h) (by rfl) (fun o ho w hSw => by cases ho; (try dsimp only at hSw); (try go_split_ands); go_simp; (try with_reducible rfl)) hHeld ?_
      try simp only [Act.put, List.setIfInBounds_toArray, List.set_cons_zero, List.set_cons_succ]
      refine take_in (i := 20) _ (some 51) (by kernel_rfl) (by kernel_rfl) (by kernel_rfl) (by kernel_rfl) (fun _ _ _ h => h) (by rfl) (fun o ho w hSw => by cases ho; (try dsimp only at hSw); (try go_split_ands); go_simp; (try with_reducible rfl)) hHeld ?_
      try simp only [Act.put, List.setIfInBounds_toArray, List.set_cons_zero, List.set_cons_succ]
      refine wpAnyH_done (by kernel_rfl) ?_ _
      refine NoPanic.normal ?_
      go_wp2_with fail
      go_meet
      exact ⟨bool_eq (by rw [HCV.out]; rfl), HDR⟩
    obtain ⟨rfl, hbx⟩ := hcut
    have hbw2 := below3 hbw.out hbx.out
    cases cb with
    | true =>
      obtain ⟨j1, j2, j3⟩ := lcp_go HCB.out
      have HN : Hid (lcp x y = (k + 1) + lcp (x.drop (k + 1)) (y.drop (k + 1))) := by show _ = _; rw [hlc.out, j3]; omega
      have HB := Lib.hid hbw2
      rw [HLX.out] at j1
      clear j3 hbw2
      go_wp2
      go_roundw
      case rel => exact ⟨k + 1, by rw [HLX.out]; omega, by omega, by go_num, HN, HB⟩
      case measure => simp [intOf]; omega
    | false =>
    have hlk : lcp x y = k := by rw [hlc.out, lcp_stop HCB.out]; omega
    rw [hlk] at HOUT HOT2
    have HOM : Hid (∀ z, z ∈ ot ↔ z ∈ (flat a).drop k ∨ z ∈ (flat b).drop k) := fun z => by
      rw [← HOT2.out, insAll_mem, insAll_mem]
      simp
      exact Or.comm
    have HOA : Hid (Asc ot) := by
      show Asc ot
      rw [← HOT2.out]
      exact insAll_asc _ _ (insAll_asc _ _ (by simp [Asc]))
    have HB7 : Hid (Below w.heap.size w wc) := HB6.out.trans (hbw2.mono HB6.out.size)
    have HX7 := Lib.hid (HX6.out.grow hbw2 (Nat.le_refl _))
    have HY7 := Lib.hid (HY6.out.grow hbw2 (Nat.le_refl _))
    obtain ⟨A14, c14, hsl14, hi14⟩ := ((HI5'.out.below hbw2).more hbw2.size).sliceTo (P := Tryd.prog) (T := 30) (E := 3) Tryd.underlying30 (by kernel_rfl) (hi := k) hkx
    have HI14 := Lib.hid hi14
    have hkxI : (k : Int) ≤ (lx : Int) := by omega
    have hkf : k ≤ (flat a).length := by omega
    have hkg : k ≤ (flat b).length := by omega
    obtain ⟨V7, hV7⟩ : ∃ V : World, V = wc := ⟨_, rfl⟩
    subst hV7
    clear hbw hbx hbw2 hlc HX6 HY6 HI5' HI6 HCB hlk HOT2 hi14
    go_wp2_with fail
    refine (refSequences_any 2 A14 k c14 _ (x.take k) V7 HI14.out (Nat.le_refl _) (by omega)).mono ?_
    rintro e w8 ⟨A15, m15, c15, rfl, ho15, hb15⟩
    have hml := ho15.len
    have hmq := seqs_len 2 _ (x.take k) (Nat.le_refl _)
    rw [List.length_take, HLX.out] at hmq
    have HS8 : Hid (SOut w8 w.heap.size w.heap.size (.slice A15 m15 c15) m15 (seqs 2 (x.take k))) := ho15.mono HB7.out.size HB7.out.size
    have HB8 := Lib.hid (below3 HB7.out hb15)
    have HX8 := Lib.hid ((HX7.out.grow hb15 (Nat.le_refl _)).grow (belowA w8 (.cells #[] 3)) (Nat.le_refl _))
    have HY8 := Lib.hid (HY7.out.grow hb15 (Nat.le_refl _))
    have HP8 := Lib.hid (own_lit0 w8)
    have HC8 := Lib.hid (belowA w8 (.cells #[] 3))
    have hm15 : m15 ≤ 1000000 := by omega
    have HML := Lib.hid hml
    clear ho15 hb15 HX7 HY7 HI14 hsl14 hml hmq hkxI
    go_wp2_with fail
    refine (refFlat_any A3 m3 c3 a _ HX8.out (by have := HX8.out.len; have := HSP.out; unfold Sm at this; omega) (by omega)).mono ?_
    rintro e w9 ⟨A9, c9, rfl, ho9, hb9⟩
    obtain ⟨A10, c10, hsl10, hi10⟩ := ho9.ints.sliceFrom (P := Tryd.prog) (T := 30) (E := 3) Tryd.underlying30 (by kernel_rfl) (lo := k) hkf
    have HP9 := row_below HP8.out hb9
    have HC9 := Lib.hid (HC8.out.trans (hb9.mono HC8.out.size))
    obtain ⟨fa, hfae⟩ : ∃ l, flat a = l := ⟨_, rfl⟩
    rw [hfae] at hsl10 hi10 hfa hkf HOM HRA ⊢
    obtain ⟨da, hda⟩ : ∃ l, fa.drop k = l := ⟨_, rfl⟩
    have hdal : da.length = fa.length - k := by rw [← hda, List.length_drop]
    have HDA : Hid (∀ z ∈ da, 1 ≤ z) := fun z hz => by rw [← hda] at hz; exact (HRA.out z (List.mem_of_mem_drop hz)).1
    rw [hda] at hi10 HOM
    rw [← hdal] at hsl10 hi10
    have hkI : (k : Int) ≤ (fa.length : Int) := by omega
    obtain ⟨lf, hlf⟩ : ∃ n, fa.length = n := ⟨_, rfl⟩
    rw [hlf] at hsl10 hfa hkf hkI hdal ⊢
    obtain ⟨dn, hdn⟩ : ∃ n, da.length = n := ⟨_, rfl⟩
    rw [hdn] at hsl10 hi10 hdal
    have hdnb : dn ≤ 1000000 := by omega
    obtain ⟨A11, c11, w10, hr10, ho10, hb10⟩ := push_ints HP9 hi10 HC9.out.size (by omega)
    rw [Nat.zero_add, List.nil_append] at ho10
    rw [Nat.zero_add] at hr10
    have HR10 := Lib.hid hr10
    have HO10 := Lib.hid ho10
    have HC10 := Lib.hid (HC9.out.trans hb10)
    have HY10 := Lib.hid (HY8.out.grow HC10.out (Nat.le_refl _))
    clear ho9 hi10 hb9 hda hdal hlf hfae hr10 ho10 hb10 HX8 HP8 HP9 HC8 HC9 HY8
    go_wp2_with (at_builtin; refine wpList_append_run rfl _ _ _ rfl rfl rfl HR10.out ?_)
    refine (refFlat_any A4 m4 c4 b w10 HY10.out (by have := HY10.out.len; have := HSQ.out; unfold Sm at this; omega) (by omega)).mono ?_
    rintro e w11 ⟨A12, c12, rfl, ho12, hb12⟩
    obtain ⟨A13, c13, hsl13, hi13⟩ := ho12.ints.sliceFrom (P := Tryd.prog) (T := 30) (E := 3) Tryd.underlying30 (by kernel_rfl) (lo := k) hkg
    have HO11 := row_below HO10.out hb12
    have HC11 := Lib.hid (HC10.out.trans (hb12.mono HC10.out.size))
    obtain ⟨fb, hfbe⟩ : ∃ l, flat b = l := ⟨_, rfl⟩
    rw [hfbe] at hsl13 hi13 hfb hkg HOM HRB ⊢
    obtain ⟨db, hdb⟩ : ∃ l, fb.drop k = l := ⟨_, rfl⟩
    have hdbl : db.length = fb.length - k := by rw [← hdb, List.length_drop]
    have HDB : Hid (∀ z ∈ db, 1 ≤ z) := fun z hz => by rw [← hdb] at hz; exact (HRB.out z (List.mem_of_mem_drop hz)).1
    rw [hdb] at hi13 HOM
    rw [← hdbl] at hsl13 hi13
    have hkI2 : (k : Int) ≤ (fb.length : Int) := by omega
    obtain ⟨lg, hlg⟩ : ∃ n, fb.length = n := ⟨_, rfl⟩
    rw [hlg] at hsl13 hfb hkg hkI2 hdbl ⊢
    obtain ⟨dm, hdm⟩ : ∃ n, db.length = n := ⟨_, rfl⟩
    rw [hdm] at hsl13 hi13 hdbl
    have hdmb : dm ≤ 1000000 := by omega
    obtain ⟨A16, c16, w12, hr12, ho16, hb16⟩ := push_ints HO11 hi13 HC11.out.size (by omega)
    have HR12 := Lib.hid hr12
    have HI12 := Lib.hid ho16.ints
    have HC12 := Lib.hid (HC11.out.trans hb16)
    have HDD : Hid (∀ z ∈ da ++ db, 1 ≤ z) := fun z hz => by
      rcases List.mem_append.1 hz with h | h
      · exact HDA.out z h
      · exact HDB.out z h
    clear ho12 hi13 hb12 hdb hdbl hlg hdm hfbe hr12 ho16 hb16 HO11 HO10 HC10 HC11 HY10
    go_wp2_with (at_builtin; refine wpList_append_run rfl _ _ _ rfl rfl rfl HR12.out ?_)
    refine (ascending_any A16 (dn + dm) c16 _ (da ++ db) w12 HI12.out (Nat.le_refl _) (by omega) HDD.out).mono ?_
    rintro e w13 ⟨A17, on2, c17, os, rfl, ho17, ⟨ha17, hm17⟩, hb17⟩
    obtain rfl : os = ot := asc_ext ha17 HOA.out fun z => by rw [hm17 z, HOM.out z, List.mem_append]
    have HB12 : Hid (Below w.heap.size w w12) := below3 HB8.out HC12.out
    have HB15 := Lib.hid (below3 HB12.out hb17)
    have HOO15 : Hid (Own w13 w.heap.size 3 .i64 (.slice A17 on2 c17) on2 os) := own_mono ho17 HB12.out.size
    have HS15 : Hid (SOut w13 w.heap.size w.heap.size (.slice A15 m15 c15) m15 (seqs 2 (x.take k))) := HS8.out.below (below3 HC12.out hb17)
    have hotl : os.length = on2 := ho17.len
    have HOTL := Lib.hid hotl
    have hml := HML.out
    clear ha17 hm17 hb17 ho17 hotl HR12 HI12 HC12 HDD HDA HDB HOM HOA HR10 HS8 HB8 HML HRA HRB
    by_cases h255 : 255 < on2
    · have d5 : decide ((on2 : Int) > 255) = true := by simp; omega
      have HF' : Hid (mergeR p q = ([], 4)) := by show _ = _; rw [HM.out, if_pos (.inl (by rw [HOTL.out]; exact h255))]
      clear h255 hml
      go_wp2
      go_ret2
      rw [HF'.out]
      exact ⟨_, _, _, rfl, SOut.nil _ _ _, HB15.out⟩
    have d5 : decide ((on2 : Int) > 255) = false := by simp; omega
    by_cases h0 : on2 = 0
    case pos =>
      subst h0
      have hoe : os = [] := List.eq_nil_of_length_eq_zero HOTL.out
      have HO : Hid (out = seqs 2 (x.take k)) := by show _ = _; rw [← HOUT.out, HOTE.out, hoe]; unfold mergeOut; rw [if_pos rfl]
      have hol : out.length = m15 := by rw [HO.out]; exact hml
      by_cases h64 : 64 < m15
      · have d64 : decide ((m15 : Int) > 64) = true := by simp; omega
        have HF' : Hid (mergeR p q = ([], 4)) := by show _ = _; rw [HM.out, if_pos (.inr (by rw [hol]; exact h64))]
        clear hoe hol h64 hml h255
        go_wp2
        go_ret2
        rw [HF'.out]
        exact ⟨_, _, _, rfl, SOut.nil _ _ _, HB15.out⟩
      · have d64 : decide ((m15 : Int) > 64) = false := by simp; omega
        have HF' : Hid (mergeR p q = (out, 0)) := by show _ = _; rw [HM.out, if_neg]; rw [hol, hoe]; simp; omega
        have HSO : Hid (SOut w13 w.heap.size w.heap.size (.slice A15 m15 c15) m15 out) := by show SOut _ _ _ _ _ _; rw [HO.out]; exact HS15.out
        clear hoe hol h64 hml h255
        go_wp2
        go_ret2
        rw [HF'.out]
        exact ⟨A15, m15, c15, rfl, HSO.out, HB15.out⟩
    have d0 : decide ((on2 : Int) > 0) = true := by simp; omega
    have h00 : 0 < on2 := by omega
    have hoe : os ≠ [] := fun h => h0 (by rw [← HOTL.out, h]; rfl)
    have HO : Hid (out = seqs 2 (x.take k) ++ [(1, os)]) := by show _ = _; rw [← HOUT.out, HOTE.out]; unfold mergeOut; rw [if_neg hoe]
    have hol : out.length = m15 + 1 := by rw [HO.out, List.length_append, hml]; rfl
    have hf15 := free_int HS15.out HOO15.out (Nat.le_refl _)
    obtain ⟨A18, c18, w16, hr16, ho16, hb16⟩ := HS15.out.push 1 HOO15.out.ints hf15 rfl HB15.out.size (by omega)
    have HR16 := Lib.hid hr16
    have HS16 : Hid (SOut w16 w.heap.size w.heap.size (.slice A18 (m15 + 1) c18) (m15 + 1) out) := by show SOut _ _ _ _ _ _; rw [HO.out]; exact ho16
    have HB16 := Lib.hid (HB15.out.trans hb16)
    clear hr16 ho16 hb16 hf15
    by_cases h64 : 64 < m15 + 1
    · have d64 : decide (((m15 + 1 : Nat) : Int) > 64) = true := by simp; omega
      have d64' : decide ((m15 : Int) + 1 > 64) = true := by simp; omega
      have HF' : Hid (mergeR p q = ([], 4)) := by show _ = _; rw [HM.out, if_pos (.inr (by rw [hol]; exact h64))]
      clear hoe hol h0 h255 h64 hml
      go_wp2_with (at_builtin; refine wpList_append_run rfl _ _ _ rfl rfl rfl HR16.out ?_)
      go_ret2
      rw [HF'.out]
      exact ⟨_, _, _, rfl, SOut.nil _ _ _, HB16.out⟩
    · have d64 : decide (((m15 + 1 : Nat) : Int) > 64) = false := by simp; omega
      have d64' : decide ((m15 : Int) + 1 > 64) = false := by simp; omega
      have HF' : Hid (mergeR p q = (out, 0)) := by show _ = _; rw [HM.out, if_neg]; rw [hol, HOTL.out]; omega
      clear hoe hol h0 h255 h64 hml
      go_wp2_with (at_builtin; refine wpList_append_run rfl _ _ _ rfl rfl rfl HR16.out ?_)
      go_ret2
      rw [HF'.out]
      exact ⟨A18, _, c18, rfl, HS16.out, HB16.out⟩
end Go.Proofs.YteohdanlcaoaiaaDoor
