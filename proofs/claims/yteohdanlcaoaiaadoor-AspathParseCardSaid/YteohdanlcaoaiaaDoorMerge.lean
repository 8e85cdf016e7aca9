/- Merge: the program's. -/
import Derived.Test.YteohdanlcaoaiaaDoorInsert
namespace Go.Proofs.YteohdanlcaoaiaaDoor
open Go.RowKit

/-- how many numbers two lists have in common at the beginning -/
def lcp : List Int → List Int → Nat
  | a :: x, b :: y => if a = b then lcp x y + 1 else 0
  | _, _ => 0
theorem lcp_le : ∀ (x y : List Int), lcp x y ≤ x.length ∧ lcp x y ≤ y.length
  | [], y => by simp [lcp]
  | a :: x, [] => by simp [lcp]
  | a :: x, b :: y => by
    have := lcp_le x y
    rw [lcp]
    split
    · simp only [List.length_cons]; omega
    · simp
theorem lcp_symm : ∀ (x y : List Int), lcp x y = lcp y x
  | [], [] => rfl
  | [], b :: y => rfl
  | a :: x, [] => rfl
  | a :: x, b :: y => by
    rw [lcp, lcp, lcp_symm x y]
    by_cases h : a = b
    · rw [if_pos h, if_pos h.symm]
    · rw [if_neg h, if_neg (fun e => h e.symm)]
theorem drop_at_int {l : List Int} {k : Nat} (h : k < l.length) : l.drop k = l.getD k 0 :: l.drop (k + 1) := by
  rw [List.drop_eq_getElem_cons h, List.getD_eq_getElem?_getD, List.getElem?_eq_getElem h]
  rfl
def eqAt (x y : List Int) (k : Nat) : Bool := decide (k < x.length) && (decide (k < y.length) && decide (x.getD k 0 = y.getD k 0))
theorem lcp_go {x y : List Int} {k : Nat} (h : eqAt x y k = true) : k < x.length ∧ k < y.length ∧ lcp (x.drop k) (y.drop k) = lcp (x.drop (k + 1)) (y.drop (k + 1)) + 1 := by
  unfold eqAt at h
  simp only [Bool.and_eq_true, decide_eq_true_eq] at h
  obtain ⟨h1, h2, h3⟩ := h
  exact ⟨h1, h2, by rw [drop_at_int h1, drop_at_int h2, lcp, if_pos h3]⟩
theorem lcp_stop {x y : List Int} {k : Nat} (h : eqAt x y k = false) : lcp (x.drop k) (y.drop k) = 0 := by
  by_cases h1 : k < x.length
  · by_cases h2 : k < y.length
    · have h3 : ¬ x.getD k 0 = y.getD k 0 := fun e => by
        unfold eqAt at h
        rw [decide_eq_true h1, decide_eq_true h2, decide_eq_true e] at h
        cases h
      rw [drop_at_int h1, drop_at_int h2, lcp, if_neg h3]
    · rw [List.drop_of_length_le (l := y) (by omega)]
      have := (lcp_le (x.drop k) []).2
      simpa using this
  · rw [List.drop_of_length_le (l := x) (by omega)]
    have := (lcp_le [] (y.drop k)).1
    simpa using this
theorem lead_flat : ∀ p : Path, ∃ r, flat p = leadR p ++ r
  | [] => ⟨[], rfl⟩
  | s :: r => by
    obtain ⟨t, ht⟩ := lead_flat r
    unfold leadR flat at ht ⊢
    rw [List.takeWhile_cons]
    split
    · exact ⟨t, by rw [List.flatMap_cons, List.flatMap_cons, ht, List.append_assoc]⟩
    · exact ⟨_, rfl⟩
def insAll (o l : List Int) : List Int := l.foldl insR o
theorem insAll_succ {o l : List Int} {k : Nat} {x : Int} (h : l[k]? = some x) : insAll o (l.take (k + 1)) = insR (insAll o (l.take k)) x := by
  unfold insAll
  rw [List.take_add_one, h, List.foldl_append]
  rfl
theorem insAll_len : ∀ (l o : List Int), (insAll o l).length ≤ o.length + l.length
  | [], o => by simp [insAll]
  | x :: l, o => by
    have h1 := insAll_len l (insR o x)
    have h2 := insR_len o x
    unfold insAll at h1 ⊢
    rw [List.foldl_cons, List.length_cons]
    omega
theorem insAll_mem : ∀ (l o : List Int) (z : Int), z ∈ insAll o l ↔ z ∈ l ∨ z ∈ o
  | [], o, z => by simp [insAll]
  | x :: l, o, z => by
    have h1 := insAll_mem l (insR o x) z
    unfold insAll at h1 ⊢
    rw [List.foldl_cons, h1, insR_mem, List.mem_cons]
    constructor
    · rintro (h | h | h)
      · exact .inl (.inr h)
      · exact .inl (.inl h)
      · exact .inr h
    · rintro ((h | h) | h)
      · exact .inr (.inl h)
      · exact .inl h
      · exact .inr (.inr h)
theorem insAll_asc : ∀ (l o : List Int), Asc o → Asc (insAll o l)
  | [], o, h => h
  | x :: l, o, h => by
    have h1 := insAll_asc l (insR o x) (insR_asc o x h)
    unfold insAll at h1 ⊢
    rw [List.foldl_cons]
    exact h1
/-- the numbers behind the common beginning -/
def othersR (a b : Path) : List Int := insAll (insAll [] ((flat a).drop (lcp (leadR a) (leadR b)))) ((flat b).drop (lcp (leadR a) (leadR b)))
def mergeOut (x o : List Int) : Path := if o = [] then seqs 2 x else seqs 2 x ++ [(1, o)]
/-- Merge -/
def mergeR (p q : Path) : Path × Int :=
  if pathErr p ≠ 0 then ([], pathErr p) else if pathErr q ≠ 0 then ([], pathErr q)
  else if 255 < (othersR (stripR p) (stripR q)).length ∨ 64 < (mergeOut ((leadR (stripR p)).take (lcp (leadR (stripR p)) (leadR (stripR q)))) (othersR (stripR p) (stripR q))).length then ([], 4)
  else (mergeOut ((leadR (stripR p)).take (lcp (leadR (stripR p)) (leadR (stripR q)))) (othersR (stripR p) (stripR q)), 0)
def LcInv (V : World) (x y : List Int) (nv : Value) (W : World) : Prop := ∃ k : Nat, k ≤ x.length ∧ k ≤ y.length ∧ nv = .int .i64 k ∧ Hid (lcp x y = k + lcp (x.drop k) (y.drop k)) ∧ Hid (Below V.heap.size V W)
def OtInv (w V : World) (o l : List Int) (ov iv : Value) (W : World) : Prop := ∃ (i on : Nat) (A : Option Addr) (c : Nat), i ≤ l.length ∧ iv = .int .i64 i ∧ ov = .slice A on c ∧ Hid (Own W w.heap.size 3 .i64 (.slice A on c) on (insAll o (l.take i))) ∧ Hid (Below V.heap.size V W)
set_option linter.unusedSimpArgs false in
set_option maxRecDepth 100000 in
set_option maxHeartbeats 8000000 in
theorem merge_any (A B : Option Addr) (n c m d : Nat) (p q : Path) (w : World) (hx : Segs w w.heap.size A n c p) (hy : Segs w w.heap.size B m d q) (hs : Sm p) (ht : Sm q) :
    Calls Tryd.prog 13 #[.slice A n c, .slice B m d] w (GivesPathErr (mergeR p q) w) := by
  have HX := Lib.hid hx
  have HY := Lib.hid hy
  have HS := Lib.hid hs
  have HT := Lib.hid ht
  have hn : n ≤ 1000000 := by have h1 := hx.len; unfold Sm at hs; omega
  have hm : m ≤ 1000000 := by have h1 := hy.len; unfold Sm at ht; omega
  clear hx hy hs ht
  go_enter Tryd.func13, Tryd.ntmps13
  go_wp2_with fail
  refine (check_any A n c p w HX.out (by omega)).mono ?_
  rintro e w1 ⟨rfl, hb1⟩
  have HB1 := Lib.hid hb1
  by_cases he : pathErr p = 0
  case neg =>
    have HF : Hid (mergeR p q = ([], pathErr p)) := if_pos he
    obtain ⟨g, hg⟩ : ∃ g, pathErr p = g := ⟨_, rfl⟩
    rw [hg] at HF he ⊢
    have d1 : (g != 0) = true := by simp [he]
    clear he hg hb1
    go_wp2
    go_ret2
    rw [HF.out]
    exact ⟨_, _, _, rfl, SOut.nil _ _ _, HB1.out⟩
  rw [he]
  go_wp2_with fail
  refine (check_any B m d q w1 (HY.out.grow hb1 (Nat.le_refl _)) (by omega)).mono ?_
  rintro e w2 ⟨rfl, hb2⟩
  have HB2 := Lib.hid (below3 HB1.out hb2)
  by_cases hf : pathErr q = 0
  case neg =>
    have HF : Hid (mergeR p q = ([], pathErr q)) := by
      show _ = _
      unfold mergeR
      rw [if_neg (fun g => g he), if_pos hf]
    obtain ⟨g, hg⟩ : ∃ g, pathErr q = g := ⟨_, rfl⟩
    rw [hg] at HF hf ⊢
    have d1 : (g != 0) = true := by simp [hf]
    clear he hf hg hb1 hb2
    go_wp2
    go_ret2
    rw [HF.out]
    exact ⟨_, _, _, rfl, SOut.nil _ _ _, HB2.out⟩
  rw [hf]
  obtain ⟨out, hout⟩ : ∃ o, mergeOut ((leadR (stripR p)).take (lcp (leadR (stripR p)) (leadR (stripR q)))) (othersR (stripR p) (stripR q)) = o := ⟨_, rfl⟩
  obtain ⟨ot, hot⟩ : ∃ o, othersR (stripR p) (stripR q) = o := ⟨_, rfl⟩
  have HM : Hid (mergeR p q = if 255 < ot.length ∨ 64 < out.length then ([], 4) else (out, 0)) := by
    show _ = _
    unfold mergeR
    rw [if_neg (fun g => g he), if_neg (fun g => g hf), hout, hot]
  have HOUT := Lib.hid hout
  have HOT := Lib.hid hot
  clear he hf hb1 hb2 hout hot
  go_wp2_with fail
  refine (strip_any A n c _ p w2 (HX.out.below HB2.out) HB2.out.size HS.out).mono ?_
  rintro e w3 ⟨A3, m3, c3, rfl, ho3, hb3⟩
  have HB3 := Lib.hid (below3 HB2.out hb3)
  have HSP := Lib.hid (sm_strip HS.out)
  have HSQ := Lib.hid (sm_strip HT.out)
  have HX3 := Lib.hid ho3.segs
  clear hb3 ho3
  go_wp2_with fail
  refine (strip_any B m d _ q w3 (HY.out.below HB3.out) HB3.out.size HT.out).mono ?_
  rintro e w4 ⟨A4, m4, c4, rfl, ho4, hb4⟩
  have HB4 := Lib.hid (below3 HB3.out hb4)
  have HX4 := Lib.hid (HX3.out.grow hb4 (Nat.le_refl _))
  have HY4 := Lib.hid ho4.segs
  obtain ⟨a, ha⟩ : ∃ a, stripR p = a := ⟨_, rfl⟩
  obtain ⟨b, hb⟩ : ∃ b, stripR q = b := ⟨_, rfl⟩
  rw [ha] at HX4 HSP HOUT HOT
  rw [hb] at HY4 HSQ HOUT HOT
  clear hb4 ho4 HX3 HX HY HS HT ha hb
  go_wp2_with fail
  refine (leading_any A3 m3 c3 _ a w4 HX4.out (Nat.le_refl _) HSP.out).mono ?_
  rintro e w5 ⟨A5, c5, rfl, ho5, hb5⟩
  have HX5 := Lib.hid (HX4.out.grow hb5 (Nat.le_refl _))
  have HY5 := Lib.hid (HY4.out.grow hb5 (Nat.le_refl _))
  have HB5 := Lib.hid (below3 HB4.out hb5)
  have HI5 := Lib.hid ho5.ints
  clear hb5 ho5 HX4 HY4
  go_wp2_with fail
  refine (leading_any A4 m4 c4 _ b w5 HY5.out (Nat.le_refl _) HSQ.out).mono ?_
  rintro e w6 ⟨A6, c6, rfl, ho6, hb6⟩
  have HX6 := Lib.hid (HX5.out.grow hb6 (Nat.le_refl _))
  have HY6 := Lib.hid (HY5.out.grow hb6 (Nat.le_refl _))
  have HB6 := Lib.hid (below3 HB5.out hb6)
  have HI5' := Lib.hid ((HI5.out.below hb6).more hb6.size)
  have HI6 := Lib.hid ho6.ints
  have hla := lead_le a
  have hlb := lead_le b
  have hfa : (flat a).length ≤ 1000000 := by have := HSP.out; unfold Sm at this; omega
  have hfb : (flat b).length ≤ 1000000 := by have := HSQ.out; unfold Sm at this; omega
  obtain ⟨x, hxx⟩ : ∃ x, leadR a = x := ⟨_, rfl⟩
  obtain ⟨y, hyy⟩ : ∃ y, leadR b = y := ⟨_, rfl⟩
  have HXX := Lib.hid hxx
  have HYY := Lib.hid hyy
  rw [hxx] at HI5' hla HOUT ⊢
  rw [hyy] at HI6 hlb HOUT ⊢
  have HOTE : Hid (othersR a b = ot) := HOT
  have HOT2 : Hid (insAll (insAll [] ((flat a).drop (lcp x y))) ((flat b).drop (lcp x y)) = ot) := by
    show _ = _
    rw [← HOT.out, ← hxx, ← hyy]
    rfl
  obtain ⟨lx, hlx⟩ : ∃ n, x.length = n := ⟨_, rfl⟩
  obtain ⟨ly, hly⟩ : ∃ n, y.length = n := ⟨_, rfl⟩
  have HLX := Lib.hid hlx
  have HLY := Lib.hid hly
  rw [hlx] at HI5' hla ⊢
  rw [hly] at HI6 hlb ⊢
  clear hb6 ho6 HX5 HY5 HI5 hxx hyy hlx hly HOT
  go_wp2
  go_loopw [10] (fun nv wr => LcInv w6 x y nv wr) (fun nv _ => lx - (intOf nv).toNat)
  case atStart => exact ⟨0, Nat.zero_le _, Nat.zero_le _, rfl, by show _ = _; simp, Below.refl _ _⟩
  case round =>
    obtain ⟨k, hkx, hky, rfl, hlc, hbw⟩ := hrel
    rw [HLX.out] at hkx
    rw [HLY.out] at hky
    have hwr := hbw.out.size
    obtain ⟨cb, hcb⟩ : ∃ c, eqAt x y k = c := ⟨_, rfl⟩
    have HCB := Lib.hid hcb
    clear hcb
    go_upto_region 10 with fail
    go_cut [55] (fun bv wx => bv = .bool cb ∧ Hid (Below wr.heap.size wr wx))
    case first =>
      have HDR : Hid (Below wr.heap.size wr wr.drew) := (Below.refl _ _).drew
      by_cases h1 : k < lx
      case neg =>
        have hb1 : Hid (cb = false) := by show _ = _; rw [← HCB.out]; unfold eqAt; rw [HLX.out]; simp [h1]
        have hnk : ¬ (k : Int) < (lx : Int) := by omega
        have dk : decide ((k : Int) < (lx : Int)) = false := by simp; omega
        clear h1
        refine wp_region_noPanic ?_
        refine wp_region_held_drew (S := fun _ => True) (by kernel_rfl) trivial (fun hHeld => ?_)
        refine take_in (i := 0) _ (some 35) (by kernel_rfl) (by kernel_rfl) (by kernel_rfl) (by kernel_rfl) (fun _ _ _ h => h) (by rfl) (fun o ho w hSw => by cases ho; (try dsimp only at hSw); (try go_split_ands); go_simp; (try with_reducible rfl)) hHeld ?_
        try simp only [Act.put, List.setIfInBounds_toArray, List.set_cons_zero, List.set_cons_succ]
        refine take_in (i := 1) _ (some 36) (by kernel_rfl) (by kernel_rfl) (by kernel_rfl) (by kernel_rfl) (fun _ _ _ h => h) (by rfl) (fun o ho w hSw => by cases ho; (try dsimp only at hSw); (try go_split_ands); go_simp; (try with_reducible rfl)) hHeld ?_
        try simp only [Act.put, List.setIfInBounds_toArray, List.set_cons_zero, List.set_cons_succ]
        refine take_in (i := 2) _ (some 37) (by kernel_rfl) (by kernel_rfl) (by kernel_rfl) (by kernel_rfl) (fun _ _ _ h => h) (by rfl) (fun o ho w hSw => by cases ho; (try dsimp only at hSw); (try go_split_ands); go_simp; (try with_reducible rfl)) hHeld ?_
        try simp only [Act.put, List.setIfInBounds_toArray, List.set_cons_zero, List.set_cons_succ]
        refine take_in (i := 3) _ (some 38) (by kernel_rfl) (by kernel_rfl) (by kernel_rfl) (by kernel_rfl) (fun _ _ _ h => h) (by rfl) (fun o ho w hSw => by cases ho; (try dsimp only at hSw); (try go_split_ands); go_simp; (try with_reducible rfl)) hHeld ?_
        try simp only [Act.put, List.setIfInBounds_toArray, List.set_cons_zero, List.set_cons_succ]
        refine take_in (i := 4) _ (some 39) (by kernel_rfl) (by kernel_rfl) (by kernel_rfl) (by kernel_rfl) (fun _ _ _ h => h) (by rfl) (fun o ho w hSw => by cases ho; (try dsimp only at hSw); (try go_split_ands); go_simp; (try with_reducible rfl)) hHeld ?_
        try simp only [Act.put, List.setIfInBounds_toArray, List.set_cons_zero, List.set_cons_succ]
        refine take_un (i := 5) (some 40) (by kernel_rfl) (by kernel_rfl) (by kernel_rfl) (by kernel_rfl) (fun _ _ _ h => h) (by rfl) hHeld ?_
        try simp only [Act.put, List.setIfInBounds_toArray, List.set_cons_zero, List.set_cons_succ]
        refine take_un (i := 6) (some 41) (by kernel_rfl) (by kernel_rfl) (by kernel_rfl) (by kernel_rfl) (fun _ _ _ h => h) (by rfl) hHeld ?_
        try simp only [Act.put, List.setIfInBounds_toArray, List.set_cons_zero, List.set_cons_succ]
        refine take_un (i := 7) (some 42) (by kernel_rfl) (by kernel_rfl) (by kernel_rfl) (by kernel_rfl) (fun _ _ _ h => h) (by rfl) hHeld ?_
        try simp only [Act.put, List.setIfInBounds_toArray, List.set_cons_zero, List.set_cons_succ]
        refine take_un (i := 8) (some 43) (by kernel_rfl) (by kernel_rfl) (by kernel_rfl) (by kernel_rfl) (fun _ _ _ h => h) (by rfl) hHeld ?_
        try simp only [Act.put, List.setIfInBounds_toArray, List.set_cons_zero, List.set_cons_succ]
        refine take_in (i := 9) _ (some 44) (by kernel_rfl) (by kernel_rfl) (by kernel_rfl) (by kernel_rfl) (fun _ _ _ h => h) (by rfl) (fun o ho w hSw => by cases ho; (try dsimp only at hSw); (try go_split_ands); go_simp; (try with_reducible rfl)) hHeld ?_
        try simp only [Act.put, List.setIfInBounds_toArray, List.set_cons_zero, List.set_cons_succ]
        refine take_in (i := 10) _ (some 45) (by kernel_rfl) (by kernel_rfl) (by kernel_rfl) (by kernel_rfl) (fun _ _ _ h => h) (by rfl) (fun o ho w hSw => by cases ho; (try dsimp only at hSw); (try go_split_ands); go_simp; (try with_reducible rfl)) hHeld ?_
        try simp only [Act.put, List.setIfInBounds_toArray, List.set_cons_zero, List.set_cons_succ]
        refine take_un (i := 11) (some 46) (by kernel_rfl) (by kernel_rfl) (by kernel_rfl) (by kernel_rfl) (fun _ _ _ h => h) (by rfl) hHeld ?_
        try simp only [Act.put, List.setIfInBounds_toArray, List.set_cons_zero, List.set_cons_succ]
        refine take_un (i := 12) (some 47) (by kernel_rfl) (by kernel_rfl) (by kernel_rfl) (by kernel_rfl) (fun _ _ _ h => h) (by rfl) hHeld ?_
        try simp only [Act.put, List.setIfInBounds_toArray, List.set_cons_zero, List.set_cons_succ]
        refine take_un (i := 13) (some 48) (by kernel_rfl) (by kernel_rfl) (by kernel_rfl) (by kernel_rfl) (fun _ _ _ h => h) (by rfl) hHeld ?_
        try simp only [Act.put, List.setIfInBounds_toArray, List.set_cons_zero, List.set_cons_succ]
        refine take_un (i := 14) (some 49) (by kernel_rfl) (by kernel_rfl) (by kernel_rfl) (by kernel_rfl) (fun _ _ _ h => h) (by rfl) hHeld ?_
        try simp only [Act.put, List.setIfInBounds_toArray, List.set_cons_zero, List.set_cons_succ]
        refine take_un (i := 15) (some 50) (by kernel_rfl) (by kernel_rfl) (by kernel_rfl) (by kernel_rfl) (fun _ _ _ h => h) (by rfl) hHeld ?_
        try simp only [Act.put, List.setIfInBounds_toArray, List.set_cons_zero, List.set_cons_succ]
        refine take_un (i := 16) (some 51) (by kernel_rfl) (by kernel_rfl) (by kernel_rfl) (by kernel_rfl) (fun _ _ _ h => h) (by rfl) hHeld ?_
        try simp only [Act.put, List.setIfInBounds_toArray, List.set_cons_zero, List.set_cons_succ]
        refine take_un (i := 17) (some 52) (by kernel_rfl) (by kernel_rfl) (by kernel_rfl) (by kernel_rfl) (fun _ _ _ h => h) (by rfl) hHeld ?_
        try simp only [Act.put, List.setIfInBounds_toArray, List.set_cons_zero, List.set_cons_succ]
        refine take_un (i := 18) (some 53) (by kernel_rfl) (by kernel_rfl) (by kernel_rfl) (by kernel_rfl) (fun _ _ _ h => h) (by rfl) hHeld ?_
        try simp only [Act.put, List.setIfInBounds_toArray, List.set_cons_zero, List.set_cons_succ]
        refine take_un (i := 19) (some 54) (by kernel_rfl) (by kernel_rfl) (by kernel_rfl) (by kernel_rfl) (fun _ _ _ h => h) (by rfl) hHeld ?_
        try simp only [Act.put, List.setIfInBounds_toArray, List.set_cons_zero, List.set_cons_succ]
        refine take_in (i := 20) _ (some 55) (by kernel_rfl) (by kernel_rfl) (by kernel_rfl) (by kernel_rfl) (fun _ _ _ h => h) (by rfl) (fun o ho w hSw => by cases ho; (try dsimp only at hSw); (try go_split_ands); go_simp; (try with_reducible rfl)) hHeld ?_
        try simp only [Act.put, List.setIfInBounds_toArray, List.set_cons_zero, List.set_cons_succ]
        refine wpAnyH_done (by kernel_rfl) ?_ _
        refine NoPanic.normal ?_
        go_wp2_with fail
        go_meet
        exact ⟨bool_eq hb1.out.symm, HDR⟩
      have hk1 : (k : Int) < (lx : Int) := by omega
      have dk1 : decide ((k : Int) < (lx : Int)) = true := by simp; omega
      by_cases h2 : k < ly
      case neg =>
        have hb1 : Hid (cb = false) := by show _ = _; rw [← HCB.out]; unfold eqAt; rw [HLY.out]; simp [h2]
        have hnk : ¬ (k : Int) < (ly : Int) := by omega
        have dk : decide ((k : Int) < (ly : Int)) = false := by simp; omega
        clear h1 h2
        refine wp_region_noPanic ?_
        refine wp_region_held_drew (S := fun _ => True) (by kernel_rfl) trivial (fun hHeld => ?_)
        refine take_in (i := 0) _ (some 35) (by kernel_rfl) (by kernel_rfl) (by kernel_rfl) (by kernel_rfl) (fun _ _ _ h => h) (by rfl) (fun o ho w hSw => by cases ho; (try dsimp only at hSw); (try go_split_ands); go_simp; (try with_reducible rfl)) hHeld ?_
        try simp only [Act.put, List.setIfInBounds_toArray, List.set_cons_zero, List.set_cons_succ]
        refine take_in (i := 1) _ (some 36) (by kernel_rfl) (by kernel_rfl) (by kernel_rfl) (by kernel_rfl) (fun _ _ _ h => h) (by rfl) (fun o ho w hSw => by cases ho; (try dsimp only at hSw); (try go_split_ands); go_simp; (try with_reducible rfl)) hHeld ?_
        try simp only [Act.put, List.setIfInBounds_toArray, List.set_cons_zero, List.set_cons_succ]
        refine take_in (i := 2) _ (some 37) (by kernel_rfl) (by kernel_rfl) (by kernel_rfl) (by kernel_rfl) (fun _ _ _ h => h) (by rfl) (fun o ho w hSw => by cases ho; (try dsimp only at hSw); (try go_split_ands); go_simp; (try with_reducible rfl)) hHeld ?_
        try simp only [Act.put, List.setIfInBounds_toArray, List.set_cons_zero, List.set_cons_succ]
        refine take_in (i := 3) _ (some 38) (by kernel_rfl) (by kernel_rfl) (by kernel_rfl) (by kernel_rfl) (fun _ _ _ h => h) (by rfl) (fun o ho w hSw => by cases ho; (try dsimp only at hSw); (try go_split_ands); go_simp; (try with_reducible rfl)) hHeld ?_
        try simp only [Act.put, List.setIfInBounds_toArray, List.set_cons_zero, List.set_cons_succ]
        refine take_in (i := 4) _ (some 39) (by kernel_rfl) (by kernel_rfl) (by kernel_rfl) (by kernel_rfl) (fun _ _ _ h => h) (by rfl) (fun o ho w hSw => by cases ho; (try dsimp only at hSw); (try go_split_ands); go_simp; (try with_reducible rfl)) hHeld ?_
        try simp only [Act.put, List.setIfInBounds_toArray, List.set_cons_zero, List.set_cons_succ]
        refine take_in (i := 5) _ (some 40) (by kernel_rfl) (by kernel_rfl) (by kernel_rfl) (by kernel_rfl) (fun _ _ _ h => h) (by rfl) (fun o ho w hSw => by cases ho; (try dsimp only at hSw); (try go_split_ands); go_simp; (try with_reducible rfl)) hHeld ?_
        try simp only [Act.put, List.setIfInBounds_toArray, List.set_cons_zero, List.set_cons_succ]
        refine take_in (i := 6) _ (some 41) (by kernel_rfl) (by kernel_rfl) (by kernel_rfl) (by kernel_rfl) (fun _ _ _ h => h) (by rfl) (fun o ho w hSw => by cases ho; (try dsimp only at hSw); (try go_split_ands); go_simp; (try with_reducible rfl)) hHeld ?_
        try simp only [Act.put, List.setIfInBounds_toArray, List.set_cons_zero, List.set_cons_succ]
        refine take_in (i := 7) _ (some 42) (by kernel_rfl) (by kernel_rfl) (by kernel_rfl) (by kernel_rfl) (fun _ _ _ h => h) (by rfl) (fun o ho w hSw => by cases ho; (try dsimp only at hSw); (try go_split_ands); go_simp; (try with_reducible rfl)) hHeld ?_
        try simp only [Act.put, List.setIfInBounds_toArray, List.set_cons_zero, List.set_cons_succ]
        refine take_in (i := 8) _ (some 43) (by kernel_rfl) (by kernel_rfl) (by kernel_rfl) (by kernel_rfl) (fun _ _ _ h => h) (by rfl) (fun o ho w hSw => by cases ho; (try dsimp only at hSw); (try go_split_ands); go_simp; (try with_reducible rfl)) hHeld ?_
        try simp only [Act.put, List.setIfInBounds_toArray, List.set_cons_zero, List.set_cons_succ]
        refine take_in (i := 9) _ (some 44) (by kernel_rfl) (by kernel_rfl) (by kernel_rfl) (by kernel_rfl) (fun _ _ _ h => h) (by rfl) (fun o ho w hSw => by cases ho; (try dsimp only at hSw); (try go_split_ands); go_simp; (try with_reducible rfl)) hHeld ?_
        try simp only [Act.put, List.setIfInBounds_toArray, List.set_cons_zero, List.set_cons_succ]
        refine take_in (i := 10) _ (some 45) (by kernel_rfl) (by kernel_rfl) (by kernel_rfl) (by kernel_rfl) (fun _ _ _ h => h) (by rfl) (fun o ho w hSw => by cases ho; (try dsimp only at hSw); (try go_split_ands); go_simp; (try with_reducible rfl)) hHeld ?_
        try simp only [Act.put, List.setIfInBounds_toArray, List.set_cons_zero, List.set_cons_succ]
        refine take_un (i := 11) (some 46) (by kernel_rfl) (by kernel_rfl) (by kernel_rfl) (by kernel_rfl) (fun _ _ _ h => h) (by rfl) hHeld ?_
        try simp only [Act.put, List.setIfInBounds_toArray, List.set_cons_zero, List.set_cons_succ]
        refine take_un (i := 12) (some 47) (by kernel_rfl) (by kernel_rfl) (by kernel_rfl) (by kernel_rfl) (fun _ _ _ h => h) (by rfl) hHeld ?_
        try simp only [Act.put, List.setIfInBounds_toArray, List.set_cons_zero, List.set_cons_succ]
        refine take_un (i := 13) (some 48) (by kernel_rfl) (by kernel_rfl) (by kernel_rfl) (by kernel_rfl) (fun _ _ _ h => h) (by rfl) hHeld ?_
        try simp only [Act.put, List.setIfInBounds_toArray, List.set_cons_zero, List.set_cons_succ]
        refine take_un (i := 14) (some 49) (by kernel_rfl) (by kernel_rfl) (by kernel_rfl) (by kernel_rfl) (fun _ _ _ h => h) (by rfl) hHeld ?_
        try simp only [Act.put, List.setIfInBounds_toArray, List.set_cons_zero, List.set_cons_succ]
        refine take_un (i := 15) (some 50) (by kernel_rfl) (by kernel_rfl) (by kernel_rfl) (by kernel_rfl) (fun _ _ _ h => h) (by rfl) hHeld ?_
        try simp only [Act.put, List.setIfInBounds_toArray, List.set_cons_zero, List.set_cons_succ]
        refine take_un (i := 16) (some 51) (by kernel_rfl) (by kernel_rfl) (by kernel_rfl) (by kernel_rfl) (fun _ _ _ h => h) (by rfl) hHeld ?_
        try simp only [Act.put, List.setIfInBounds_toArray, List.set_cons_zero, List.set_cons_succ]
        refine take_un (i := 17) (some 52) (by kernel_rfl) (by kernel_rfl) (by kernel_rfl) (by kernel_rfl) (fun _ _ _ h => h) (by rfl) hHeld ?_
        try simp only [Act.put, List.setIfInBounds_toArray, List.set_cons_zero, List.set_cons_succ]
        refine take_un (i := 18) (some 53) (by kernel_rfl) (by kernel_rfl) (by kernel_rfl) (by kernel_rfl) (fun _ _ _ h => h) (by rfl) hHeld ?_
        try simp only [Act.put, List.setIfInBounds_toArray, List.set_cons_zero, List.set_cons_succ]
        refine take_un (i := 19) (some 54) (by kernel_rfl) (by kernel_rfl) (by kernel_rfl) (by kernel_rfl) (fun _ _ _ h => h) (by rfl) hHeld ?_
        try simp only [Act.put, List.setIfInBounds_toArray, List.set_cons_zero, List.set_cons_succ]
        refine take_in (i := 20) _ (some 55) (by kernel_rfl) (by kernel_rfl) (by kernel_rfl) (by kernel_rfl) (fun _ _ _ h => h) (by rfl) (fun o ho w hSw => by cases ho; (try dsimp only at hSw); (try go_split_ands); go_simp; (try with_reducible rfl)) hHeld ?_
        try simp only [Act.put, List.setIfInBounds_toArray, List.set_cons_zero, List.set_cons_succ]
        refine wpAnyH_done (by kernel_rfl) ?_ _
        refine NoPanic.normal ?_
        go_wp2_with fail
        go_meet
        exact ⟨bool_eq hb1.out.symm, HDR⟩
      have hk2 : (k : Int) < (ly : Int) := by omega
      have dk2 : decide ((k : Int) < (ly : Int)) = true := by simp; omega
      obtain ⟨bx, ox, u, rfl, hbx, gu, hu⟩ := (HI5'.out.below hbw.out).cell h1
      obtain ⟨by', oy, v, rfl, hby, gv, hv⟩ := (HI6.out.below hbw.out).cell h2
      have hbxw : bx < wr.heap.size := by omega
      have hbyw : by' < wr.heap.size := by omega
      have HSS : Hid (∀ W, Below wr.heap.size wr W → W.cell? ⟨bx, ox + k, none⟩ = some (.int .i64 u) ∧ W.cell? ⟨by', oy + k, none⟩ = some (.int .i64 v)) := fun W h => ⟨(h.cell (p := ⟨bx, ox + k, none⟩) hbxw).trans gu, (h.cell (p := ⟨by', oy + k, none⟩) hbyw).trans gv⟩
      have HCV : Hid (cb = decide (u = v)) := by
        show _ = _
        rw [← HCB.out]
        unfold eqAt
        rw [HLX.out, HLY.out, hu.out, hv.out, decide_eq_true h1, decide_eq_true h2]
        rfl
      clear hu hv
      refine wp_region_noPanic ?_
      refine wp_region_held_drew (S := fun w' => w'.cell? ⟨bx, ox + k, none⟩ = some (.int .i64 u) ∧ w'.cell? ⟨by', oy + k, none⟩ = some (.int .i64 v)) (by kernel_rfl) (HSS.out _ HDR.out) (fun hHeld => ?_)
      refine take_in (i := 0) _ (some 35) (by kernel_rfl) (by kernel_rfl) (by kernel_rfl) (by kernel_rfl) (fun _ _ _ h => h) (by rfl) (fun o ho w hSw => by cases ho; (try dsimp only at hSw); (try go_split_ands); go_simp; (try with_reducible rfl)) hHeld ?_
      try simp only [Act.put, List.setIfInBounds_toArray, List.set_cons_zero, List.set_cons_succ]
      refine take_in (i := 1) _ (some 36) (by kernel_rfl) (by kernel_rfl) (by kernel_rfl) (by kernel_rfl) (fun _ _ _ h => h) (by rfl) (fun o ho w hSw => by cases ho; (try dsimp only at hSw); (try go_split_ands); go_simp; (try with_reducible rfl)) hHeld ?_
      try simp only [Act.put, List.setIfInBounds_toArray, List.set_cons_zero, List.set_cons_succ]
      refine take_in (i := 2) _ (some 37) (by kernel_rfl) (by kernel_rfl) (by kernel_rfl) (by kernel_rfl) (fun _ _ _ h => h) (by rfl) (fun o ho w hSw => by cases ho; (try dsimp only at hSw); (try go_split_ands); go_simp; (try with_reducible rfl)) hHeld ?_
      try simp only [Act.put, List.setIfInBounds_toArray, List.set_cons_zero, List.set_cons_succ]
      refine take_in (i := 3) _ (some 38) (by kernel_rfl) (by kernel_rfl) (by kernel_rfl) (by kernel_rfl) (fun _ _ _ h => h) (by rfl) (fun o ho w hSw => by cases ho; (try dsimp only at hSw); (try go_split_ands); go_simp; (try with_reducible rfl)) hHeld ?_
      try simp only [Act.put, List.setIfInBounds_toArray, List.set_cons_zero, List.set_cons_succ]
      refine take_in (i := 4) _ (some 39) (by kernel_rfl) (by kernel_rfl) (by kernel_rfl) (by kernel_rfl) (fun _ _ _ h => h) (by rfl) (fun o ho w hSw => by cases ho; (try dsimp only at hSw); (try go_split_ands); go_simp; (try with_reducible rfl)) hHeld ?_
      try simp only [Act.put, List.setIfInBounds_toArray, List.set_cons_zero, List.set_cons_succ]
      refine take_in (i := 5) _ (some 40) (by kernel_rfl) (by kernel_rfl) (by kernel_rfl) (by kernel_rfl) (fun _ _ _ h => h) (by rfl) (fun o ho w hSw => by cases ho; (try dsimp only at hSw); (try go_split_ands); go_simp; (try with_reducible rfl)) hHeld ?_
      try simp only [Act.put, List.setIfInBounds_toArray, List.set_cons_zero, List.set_cons_succ]
      refine take_in (i := 6) _ (some 41) (by kernel_rfl) (by kernel_rfl) (by kernel_rfl) (by kernel_rfl) (fun _ _ _ h => h) (by rfl) (fun o ho w hSw => by cases ho; (try dsimp only at hSw); (try go_split_ands); go_simp; (try with_reducible rfl)) hHeld ?_
      try simp only [Act.put, List.setIfInBounds_toArray, List.set_cons_zero, List.set_cons_succ]
      refine take_in (i := 7) _ (some 42) (by kernel_rfl) (by kernel_rfl) (by kernel_rfl) (by kernel_rfl) (fun _ _ _ h => h) (by rfl) (fun o ho w hSw => by cases ho; (try dsimp only at hSw); (try go_split_ands); go_simp; (try with_reducible rfl)) hHeld ?_
      try simp only [Act.put, List.setIfInBounds_toArray, List.set_cons_zero, List.set_cons_succ]
      refine take_in (i := 8) _ (some 43) (by kernel_rfl) (by kernel_rfl) (by kernel_rfl) (by kernel_rfl) (fun _ _ _ h => h) (by rfl) (fun o ho w hSw => by cases ho; (try dsimp only at hSw); (try go_split_ands); go_simp; (try with_reducible rfl)) hHeld ?_
      try simp only [Act.put, List.setIfInBounds_toArray, List.set_cons_zero, List.set_cons_succ]
      refine take_in (i := 9) _ (some 44) (by kernel_rfl) (by kernel_rfl) (by kernel_rfl) (by kernel_rfl) (fun _ _ _ h => h) (by rfl) (fun o ho w hSw => by cases ho; (try dsimp only at hSw); (try go_split_ands); go_simp; (try with_reducible rfl)) hHeld ?_
      try simp only [Act.put, List.setIfInBounds_toArray, List.set_cons_zero, List.set_cons_succ]
      refine take_in (i := 10) _ (some 45) (by kernel_rfl) (by kernel_rfl) (by kernel_rfl) (by kernel_rfl) (fun _ _ _ h => h) (by rfl) (fun o ho w hSw => by cases ho; (try dsimp only at hSw); (try go_split_ands); go_simp; (try with_reducible rfl)) hHeld ?_
      try simp only [Act.put, List.setIfInBounds_toArray, List.set_cons_zero, List.set_cons_succ]
      refine take_in (i := 11) _ (some 46) (by kernel_rfl) (by kernel_rfl) (by kernel_rfl) (by kernel_rfl) (fun _ _ _ h => h) (by rfl) (fun o ho w hSw => by cases ho; (try dsimp only at hSw); (try go_split_ands); go_simp; (try with_reducible rfl)) hHeld ?_
      try simp only [Act.put, List.setIfInBounds_toArray, List.set_cons_zero, List.set_cons_succ]
      refine take_in (i := 12) _ (some 47) (by kernel_rfl) (by kernel_rfl) (by kernel_rfl) (by kernel_rfl) (fun _ _ _ h => h) (by rfl) (fun o ho w hSw => by cases ho; (try dsimp only at hSw); (try go_split_ands); go_simp; (try with_reducible rfl)) hHeld ?_
      try simp only [Act.put, List.setIfInBounds_toArray, List.set_cons_zero, List.set_cons_succ]
      refine take_in (i := 13) _ (some 48) (by kernel_rfl) (by kernel_rfl) (by kernel_rfl) (by kernel_rfl) (fun _ _ _ h => h) (by rfl) (fun o ho w hSw => by cases ho; (try dsimp only at hSw); (try go_split_ands); go_simp; (try with_reducible rfl)) hHeld ?_
      try simp only [Act.put, List.setIfInBounds_toArray, List.set_cons_zero, List.set_cons_succ]
      refine take_in (i := 14) _ (some 49) (by kernel_rfl) (by kernel_rfl) (by kernel_rfl) (by kernel_rfl) (fun _ _ _ h => h) (by rfl) (fun o ho w hSw => by cases ho; (try dsimp only at hSw); (try go_split_ands); go_simp; (try with_reducible rfl)) hHeld ?_
      try simp only [Act.put, List.setIfInBounds_toArray, List.set_cons_zero, List.set_cons_succ]
      refine take_in (i := 15) _ (some 50) (by kernel_rfl) (by kernel_rfl) (by kernel_rfl) (by kernel_rfl) (fun _ _ _ h => h) (by rfl) (fun o ho w hSw => by cases ho; (try dsimp only at hSw); (try go_split_ands); go_simp; (try with_reducible rfl)) hHeld ?_
      try simp only [Act.put, List.setIfInBounds_toArray, List.set_cons_zero, List.set_cons_succ]
      refine take_in (i := 16) _ (some 51) (by kernel_rfl) (by kernel_rfl) (by kernel_rfl) (by kernel_rfl) (fun _ _ _ h => h) (by rfl) (fun o ho w hSw => by cases ho; (try dsimp only at hSw); (try go_split_ands); go_simp; (try with_reducible rfl)) hHeld ?_
      try simp only [Act.put, List.setIfInBounds_toArray, List.set_cons_zero, List.set_cons_succ]
      refine take_in (i := 17) _ (some 52) (by kernel_rfl) (by kernel_rfl) (by kernel_rfl) (by kernel_rfl) (fun _ _ _ h => h) (by rfl) (fun o ho w hSw => by cases ho; (try dsimp only at hSw); (try go_split_ands); go_simp; (try with_reducible rfl)) hHeld ?_
      try simp only [Act.put, List.setIfInBounds_toArray, List.set_cons_zero, List.set_cons_succ]
      refine take_in (i := 18) _ (some 53) (by kernel_rfl) (by kernel_rfl) (by kernel_rfl) (by kernel_rfl) (fun _ _ _ h => h) (by rfl) (fun o ho w hSw => by cases ho; (try dsimp only at hSw); (try go_split_ands); go_simp; (try with_reducible rfl)) hHeld ?_
      try simp only [Act.put, List.setIfInBounds_toArray, List.set_cons_zero, List.set_cons_succ]
      refine take_in (i := 19) _ (some 54) (by kernel_rfl) (by kernel_rfl) (by kernel_rfl) (by kernel_rfl) (fun _ _ _ h => h) (by rfl) (fun o ho w hSw => by cases ho; (try dsimp only at hSw); (try go_split_ands); go_simp; (try with_reducible rfl)) hHeld ?_
      try simp only [Act.put, List.setIfInBounds_toArray, List.set_cons_zero, List.set_cons_succ]
      refine take_in (i := 20) _ (some 55) (by kernel_rfl) (by kernel_rfl) (by kernel_rfl) (by kernel_rfl) (fun _ _ _ h => h) (by rfl) (fun o ho w hSw => by cases ho; (try dsimp only at hSw); (try go_split_ands); go_simp; (try with_reducible rfl)) hHeld ?_
      try simp only [Act.put, List.setIfInBounds_toArray, List.set_cons_zero, List.set_cons_succ]
      refine wpAnyH_done (by kernel_rfl) ?_ _
      refine NoPanic.normal ?_
      go_wp2_with fail
      go_meet
      exact ⟨bool_eq (by rw [HCV.out]; rfl), HDR⟩
    obtain ⟨rfl, hbx⟩ := hcut
    have hbw2 := below3 hbw.out hbx.out
    cases cb with
    | true =>
      obtain ⟨j1, j2, j3⟩ := lcp_go HCB.out
      have HN : Hid (lcp x y = (k + 1) + lcp (x.drop (k + 1)) (y.drop (k + 1))) := by show _ = _; rw [hlc.out, j3]; omega
      have HB := Lib.hid hbw2
      rw [HLX.out] at j1
      clear j3 hbw2
      go_wp2
      go_roundw
      case rel => exact ⟨k + 1, by rw [HLX.out]; omega, by omega, by go_num, HN, HB⟩
      case measure => simp [intOf]; omega
    | false =>
    have hlk : lcp x y = k := by rw [hlc.out, lcp_stop HCB.out]; omega
    rw [hlk] at HOUT HOT2
    have HB7 : Hid (Below w.heap.size w wc) := HB6.out.trans (hbw2.mono HB6.out.size)
    have HX7 := Lib.hid (HX6.out.grow hbw2 (Nat.le_refl _))
    have HY7 := Lib.hid (HY6.out.grow hbw2 (Nat.le_refl _))
    have HI7 := Lib.hid ((HI5'.out.below hbw2).more hbw2.size)
    have hkf : k ≤ (flat a).length := by omega
    have hkg : k ≤ (flat b).length := by omega
    obtain ⟨V7, hV7⟩ : ∃ V : World, V = wc := ⟨_, rfl⟩
    subst hV7
    clear hbw hbx hbw2 hlc HX6 HY6 HI5' HI6 HCB hlk
    obtain ⟨wo, hwo⟩ : ∃ wo : World, wo = wr := ⟨_, rfl⟩
    subst hwo
    go_wp2_with fail
    refine (flat_any A3 m3 c3 a V7 HX7.out (by have := HX7.out.len; have := HSP.out; unfold Sm at this; omega) (by omega)).mono ?_
    rintro e w8 ⟨A8, c8, rfl, ho8, hb8⟩
    obtain ⟨A9, c9, hsl9, hi9⟩ := ho8.ints.sliceFrom (P := Tryd.prog) (T := 30) (E := 3) Tryd.underlying30 (by kernel_rfl) (lo := k) hkf
    have HI9 := Lib.hid hi9
    have HB8 := Lib.hid (below3 HB7.out hb8)
    have HX8 := Lib.hid (HX7.out.grow hb8 (Nat.le_refl _))
    have HY8 := Lib.hid (HY7.out.grow hb8 (Nat.le_refl _))
    have HI8 := Lib.hid ((HI7.out.below hb8).more hb8.size)
    obtain ⟨fa, hfae⟩ : ∃ l, flat a = l := ⟨_, rfl⟩
    rw [hfae] at hsl9 HI9 hfa hkf HOT2 ⊢
    obtain ⟨da, hda⟩ : ∃ l, fa.drop k = l := ⟨_, rfl⟩
    have hdal : da.length = fa.length - k := by rw [← hda, List.length_drop]
    rw [hda] at HI9 HOT2
    rw [← hdal] at hsl9 HI9
    have HDA := Lib.hid hdal
    have hkI : (k : Int) ≤ (fa.length : Int) := by omega
    obtain ⟨lf, hlf⟩ : ∃ n, fa.length = n := ⟨_, rfl⟩
    rw [hlf] at hsl9 hfa hkf hkI hdal ⊢
    obtain ⟨dn, hdn⟩ : ∃ n, da.length = n := ⟨_, rfl⟩
    rw [hdn] at hsl9 HI9 hdal
    have HDN := Lib.hid hdn
    have hdnb : dn ≤ 1000000 := by omega
    clear ho8 hi9 hb8 hda hdal hlf hdn HX7 HY7 HI7 HDA hfae
    go_wp2
    go_loopw [11, 63] (fun ov iv wr => OtInv w w8 [] da ov iv wr) (fun _ iv _ => dn - (intOf iv).toNat)
    case atStart => exact ⟨0, 0, none, 0, Nat.zero_le _, rfl, rfl, Own.nil _ _ _ _, Below.refl _ _⟩
    case round =>
      obtain ⟨i, on, Ao, co, hi, rfl, rfl, hoo, hbw⟩ := hrel
      rw [HDN.out] at hi
      have honl := hoo.out.len
      have hon : on ≤ 1000000 := by
        have h1 := insAll_len (da.take i) []
        rw [List.length_take, List.length_nil] at h1
        have h2 := HDN.out
        omega
      by_cases hlt : i < dn
      case pos =>
        obtain ⟨b2, o2, z, rfl, hb2, gz, hz⟩ := (HI9.out.below hbw.out).cell hlt
        have hget : da[i]? = some z := by
          have h1 := hz.out
          have h2 : i < da.length := by rw [HDN.out]; exact hlt
          rw [List.getD_eq_getElem?_getD, List.getElem?_eq_getElem h2] at h1
          rw [List.getElem?_eq_getElem h2]
          exact congrArg some h1
        have HST := Lib.hid (insAll_succ (o := []) hget)
        have HIN := Lib.hid (insert_any Ao on co w.heap.size _ z wr hoo.out (Nat.le_trans HB8.out.size hbw.out.size) (by omega))
        have hb2w : b2 < wr.heap.size := by have := hbw.out.size; omega
        clear hz hget honl hoo
        go_wp2_with fail
        refine HIN.out.mono ?_
        rintro e w9 ⟨A10, n10, c10, rfl, ho10, hb10⟩
        rw [← HST.out] at ho10
        have HO10 := Lib.hid ho10
        have HB10 := Lib.hid (below3 hbw.out hb10)
        clear ho10 hb10
        go_wp2
        go_roundw
        case rel => exact ⟨i + 1, n10, A10, c10, by rw [HDN.out]; omega, by go_num, rfl, HO10, HB10⟩
        case measure => simp [intOf]; omega
      obtain rfl : i = dn := by omega
      have htk : da.take i = da := List.take_of_length_le (Nat.le_of_eq HDN.out)
      rw [htk] at hoo
      have HB10 : Hid (Below w.heap.size w wr) := HB8.out.trans (hbw.out.mono HB8.out.size)
      have HX10 := Lib.hid (HX8.out.grow hbw.out (Nat.le_refl _))
      have HY10 := Lib.hid (HY8.out.grow hbw.out (Nat.le_refl _))
      have HI10 := Lib.hid ((HI8.out.below hbw.out).more hbw.out.size)
      obtain ⟨V10, hV10⟩ : ∃ V : World, V = wr := ⟨_, rfl⟩
      subst hV10
      obtain ⟨o1, ho1⟩ : ∃ o, insAll [] da = o := ⟨_, rfl⟩
      rw [ho1] at hoo HOT2
      have hol : o1.length = on := hoo.out.len
      have HOL := Lib.hid hol
      clear htk honl hbw HX8 HY8 HI8 ho1 hol
      go_wp2_with fail
      refine (flat_any A4 m4 c4 b V10 HY10.out (by have := HY10.out.len; have := HSQ.out; unfold Sm at this; omega) (by omega)).mono ?_
      rintro e w11 ⟨A11, c11, rfl, ho11, hb11⟩
      obtain ⟨A12, c12, hsl12, hi12⟩ := ho11.ints.sliceFrom (P := Tryd.prog) (T := 30) (E := 3) Tryd.underlying30 (by kernel_rfl) (lo := k) hkg
      have HI12 := Lib.hid hi12
      have HB11 := Lib.hid (below3 HB10.out hb11)
      have HOO11 : Hid (Own w11 w.heap.size 3 .i64 (.slice Ao on co) on o1) := row_below hoo.out hb11
      have HI11 := Lib.hid ((HI10.out.below hb11).more hb11.size)
      obtain ⟨fb, hfbe⟩ : ∃ l, flat b = l := ⟨_, rfl⟩
      rw [hfbe] at hsl12 HI12 hfb hkg HOT2 ⊢
      obtain ⟨db, hdb⟩ : ∃ l, fb.drop k = l := ⟨_, rfl⟩
      have hdbl : db.length = fb.length - k := by rw [← hdb, List.length_drop]
      rw [hdb] at HI12 HOT2
      rw [← hdbl] at hsl12 HI12
      have hkI2 : (k : Int) ≤ (fb.length : Int) := by omega
      obtain ⟨lg, hlg⟩ : ∃ n, fb.length = n := ⟨_, rfl⟩
      rw [hlg] at hsl12 hfb hkg hkI2 hdbl ⊢
      obtain ⟨dm, hdm⟩ : ∃ n, db.length = n := ⟨_, rfl⟩
      rw [hdm] at hsl12 HI12 hdbl
      have HDM := Lib.hid hdm
      have hdmb : dm ≤ 1000000 := by omega
      clear ho11 hi12 hb11 hdb hdbl hlg hdm HX10 HY10 HI10 hoo hfbe
      go_wp2
      go_loopw [11, 76] (fun ov iv wr => OtInv w w11 o1 db ov iv wr) (fun _ iv _ => dm - (intOf iv).toNat)
      case atStart => exact ⟨0, on, Ao, co, Nat.zero_le _, rfl, rfl, HOO11, Below.refl _ _⟩
      case round =>
        obtain ⟨i2, on2, Ao2, co2, hi2, rfl, rfl, hoo, hbw⟩ := hrel
        rw [HDM.out] at hi2
        have honl := hoo.out.len
        have hon2 : on2 ≤ 2000000 := by
          have h1 := insAll_len (db.take i2) o1
          rw [List.length_take] at h1
          have h2 := HDM.out
          have h3 := HOL.out
          omega
        by_cases hlt : i2 < dm
        case pos =>
          obtain ⟨b2, o2, z, rfl, hb2, gz, hz⟩ := (HI12.out.below hbw.out).cell hlt
          have hget : db[i2]? = some z := by
            have h1 := hz.out
            have h2 : i2 < db.length := by rw [HDM.out]; exact hlt
            rw [List.getD_eq_getElem?_getD, List.getElem?_eq_getElem h2] at h1
            rw [List.getElem?_eq_getElem h2]
            exact congrArg some h1
          have HST := Lib.hid (insAll_succ (o := o1) hget)
          have HIN := Lib.hid (insert_any Ao2 on2 co2 w.heap.size _ z wr hoo.out (Nat.le_trans HB11.out.size hbw.out.size) (by omega))
          have hb2w : b2 < wr.heap.size := by have := hbw.out.size; omega
          clear hz hget honl hoo
          go_wp2_with fail
          refine HIN.out.mono ?_
          rintro e w9 ⟨A13, n13, c13, rfl, ho13, hb13⟩
          rw [← HST.out] at ho13
          have HO13 := Lib.hid ho13
          have HB13 := Lib.hid (below3 hbw.out hb13)
          clear ho13 hb13
          go_wp2
          go_roundw
          case rel => exact ⟨i2 + 1, n13, A13, c13, by rw [HDM.out]; omega, by go_num, rfl, HO13, HB13⟩
          case measure => simp [intOf]; omega
        obtain rfl : i2 = dm := by omega
        have htk : db.take i2 = db := List.take_of_length_le (Nat.le_of_eq HDM.out)
        rw [htk, HOT2.out] at hoo
        have HB14 : Hid (Below w.heap.size w wr) := HB11.out.trans (hbw.out.mono HB11.out.size)
        obtain ⟨A14, hsl14, hi14⟩ := ((HI11.out.below hbw.out).more hbw.out.size).slice3 (P := Tryd.prog) (T := 30) (E := 3) Tryd.underlying30 (by kernel_rfl) (hi := k) hkx
        have HI14 := Lib.hid hi14
        have hkxI : (k : Int) ≤ (lx : Int) := by omega
        have hotl : ot.length = on2 := hoo.out.len
        have HOTL := Lib.hid hotl
        obtain ⟨V14, hV14⟩ : ∃ V : World, V = wr := ⟨_, rfl⟩
        subst hV14
        have HOO := hoo
        clear htk honl hi14 hbw hoo HI11 hotl
        go_wp2_with fail
        refine (sequences_any 2 A14 k k _ (x.take k) V14 HI14.out (Nat.le_refl _) (by omega)).mono ?_
        rintro e w15 ⟨A15, m15, c15, rfl, ho15, hb15⟩
        have hml := ho15.len
        have hmq := seqs_len 2 _ (x.take k) (Nat.le_refl _)
        rw [List.length_take, HLX.out] at hmq
        have HOO15 : Hid (Own w15 w.heap.size 3 .i64 (.slice Ao2 on2 co2) on2 ot) := row_below HOO.out hb15
        have HS15 : Hid (SOut w15 w.heap.size w.heap.size (.slice A15 m15 c15) m15 (seqs 2 (x.take k))) := ho15.mono HB14.out.size HB14.out.size
        have HB15 := Lib.hid (below3 HB14.out hb15)
        clear ho15 hb15
        by_cases h0 : on2 = 0
        case pos =>
          subst h0
          have hoe : ot = [] := List.eq_nil_of_length_eq_zero HOTL.out
          have HO : Hid (out = seqs 2 (x.take k)) := by show _ = _; rw [← HOUT.out, HOTE.out, hoe]; unfold mergeOut; rw [if_pos rfl]
          have hol : out.length = m15 := by rw [HO.out]; exact hml
          by_cases h64 : 64 < m15
          · have d64 : decide ((m15 : Int) > 64) = true := by simp; omega
            have HF : Hid (mergeR p q = ([], 4)) := by show _ = _; rw [HM.out, if_pos (.inr (by rw [hol]; exact h64))]
            clear hoe hol h64 hml hmq
            go_wp2
            go_ret2
            rw [HF.out]
            exact ⟨_, _, _, rfl, SOut.nil _ _ _, HB15.out⟩
          · have d64 : decide ((m15 : Int) > 64) = false := by simp; omega
            have HF : Hid (mergeR p q = (out, 0)) := by show _ = _; rw [HM.out, if_neg]; rw [hol, hoe]; simp; omega
            have HSO : Hid (SOut w15 w.heap.size w.heap.size (.slice A15 m15 c15) m15 out) := by show SOut _ _ _ _ _ _; rw [HO.out]; exact HS15.out
            clear hoe hol h64 hml hmq
            go_wp2
            go_ret2
            rw [HF.out]
            exact ⟨A15, m15, c15, rfl, HSO.out, HB15.out⟩
        have d0 : decide ((on2 : Int) > 0) = true := by simp; omega
        have h00 : 0 < on2 := by omega
        have hoe : ot ≠ [] := fun h => h0 (by rw [← HOTL.out, h]; rfl)
        have HO : Hid (out = seqs 2 (x.take k) ++ [(1, ot)]) := by show _ = _; rw [← HOUT.out, HOTE.out]; unfold mergeOut; rw [if_neg hoe]
        have hol : out.length = m15 + 1 := by rw [HO.out, List.length_append, hml]; rfl
        have hf15 := free_int HS15.out HOO15.out (Nat.le_refl _)
        obtain ⟨A16, c16, w16, hr16, ho16, hb16⟩ := HS15.out.push 1 HOO15.out.ints hf15 rfl HB15.out.size (by omega)
        have HR16 := Lib.hid hr16
        have HS16 : Hid (SOut w16 w.heap.size w.heap.size (.slice A16 (m15 + 1) c16) (m15 + 1) out) := by show SOut _ _ _ _ _ _; rw [HO.out]; exact ho16
        have HB16 := Lib.hid (HB15.out.trans hb16)
        clear hr16 ho16 hb16 hf15
        by_cases h255 : 255 < on2
        · have d5 : decide ((on2 : Int) > 255) = true := by simp; omega
          have HF : Hid (mergeR p q = ([], 4)) := by show _ = _; rw [HM.out, if_pos (.inl (by rw [HOTL.out]; exact h255))]
          clear hoe hol h0 h255 hml hmq
          go_wp2_with (at_builtin; refine wpList_append_run rfl _ _ _ rfl rfl rfl HR16.out ?_)
          go_ret2
          rw [HF.out]
          exact ⟨_, _, _, rfl, SOut.nil _ _ _, HB16.out⟩
        have d5 : decide ((on2 : Int) > 255) = false := by simp; omega
        by_cases h64 : 64 < m15 + 1
        · have d64 : decide (((m15 + 1 : Nat) : Int) > 64) = true := by simp; omega
          have d64' : decide ((m15 : Int) + 1 > 64) = true := by simp; omega
          have HF : Hid (mergeR p q = ([], 4)) := by show _ = _; rw [HM.out, if_pos (.inr (by rw [hol]; exact h64))]
          clear hoe hol h0 h255 h64 hml hmq
          go_wp2_with (at_builtin; refine wpList_append_run rfl _ _ _ rfl rfl rfl HR16.out ?_)
          go_ret2
          rw [HF.out]
          exact ⟨_, _, _, rfl, SOut.nil _ _ _, HB16.out⟩
        · have d64 : decide (((m15 + 1 : Nat) : Int) > 64) = false := by simp; omega
          have d64' : decide ((m15 : Int) + 1 > 64) = false := by simp; omega
          have HF : Hid (mergeR p q = (out, 0)) := by show _ = _; rw [HM.out, if_neg]; rw [hol, HOTL.out]; omega
          clear hoe hol h0 h255 h64 hml hmq
          go_wp2_with (at_builtin; refine wpList_append_run rfl _ _ _ rfl rfl rfl HR16.out ?_)
          go_ret2
          rw [HF.out]
          exact ⟨A16, _, c16, rfl, HS16.out, HB16.out⟩
end Go.Proofs.YteohdanlcaoaiaaDoor
