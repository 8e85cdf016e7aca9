/- The law AspathPrepend of chapter 17. -/
import Derived.Test.YteohdanlcaoaiaaDoorLaw17a
import Derived.Test.YteohdanlcaoaiaaDoorValidLaw
namespace Go.Proofs.YteohdanlcaoaiaaDoor
open Go.RowKit

theorem prepend_fail {p : Path} {kind a n : Int} (h : (prependR p kind a n).2 ≠ 0) : (prependR p kind a n).1 = [] := by
  unfold prependR at h ⊢
  split
  · rfl
  rename_i h1
  rw [if_neg h1] at h
  split
  · rfl
  rename_i h1
  rw [if_neg h1] at h
  split
  · rfl
  rename_i h1
  rw [if_neg h1] at h
  split
  · rfl
  rename_i h1
  rw [if_neg h1] at h
  split
  · rfl
  rename_i h1
  rw [if_neg h1] at h
  exact absurd rfl h
theorem prepend_kind {p : Path} {kind a n : Int} (h : (prependR p kind a n).2 = 0) : (kind = 2 ∨ kind = 3) ∧ 0 ≤ n ∧ n ≤ 255 := by
  unfold prependR at h
  split at h
  · rename_i h1
    exact absurd h h1
  split at h
  · exact absurd h (by simp)
  rename_i h2
  split at h
  · exact absurd h (by simp)
  rename_i h3
  refine ⟨?_, by omega, by omega⟩
  by_cases h4 : kind = 2
  · exact .inl h4
  · exact .inr (by simpa [h4] using h2)
theorem rep_get {n : Nat} {a : Int} {r : List Int} {k : Nat} (h : k < n) : (List.replicate n a ++ r).getD k 0 = a := by
  rw [List.getD_eq_getElem?_getD, List.getElem?_append_left (by simpa using h), List.getElem?_replicate, if_pos h]
  rfl
set_option maxRecDepth 100000 in
set_option maxHeartbeats 4000000 in
theorem aspathPrepend_walk3 (v : Value) (kind ax q : Int) (w : World) (hb : PathIn w v 1048576) (henv : Env w) :
    Calls Tryd.prog 7 #[v, .agg #[.int .i64 kind, .int .i64 ax, .int .i64 q]] w fun e w' => e = .returned (.bool true) ∧ Below w.heap.size w w' := by
  obtain ⟨A, n, c, p, rfl, hx, hbd⟩ := hb
  have HX0 := Lib.hid hx
  have HL := Lib.hid hx.len
  have HENV := Lib.hid henv
  have HB0 : Hid (Below w.heap.size w w) := Below.refl _ _
  have hnl : p.length = n := hx.len
  have hn : n ≤ 1048576 := by omega
  have hf : (flat p).length ≤ 1048576 := by omega
  clear hx henv hbd
  go_enter Tryd.func7, Tryd.ntmps7
  go_wp2
  go_quiet (fail)
  obtain ⟨w1, hw1⟩ : ∃ w1, (w.alloc (.cells #[.int .i64 kind, .int .i64 ax, .int .i64 q] 38)).drewN nq = w1 := ⟨_, rfl⟩
  have hb1 : Below w.heap.size w w1 := by rw [← hw1]; exact below_drewN ((Below.refl _ _).alloc (Nat.le_refl _) _) _
  rw [hw1]
  clear hw1 nq
  have HB1 := Lib.hid hb1
  have HX1 := Lib.hid (HX0.out.grow hb1 (Nat.le_refl _))
  clear hb1 HB0 HX0
  by_cases hL : 3000 < n + (flat p).length
  · have dL : decide (3000 < n + (flat p).length) = true := decide_eq_true hL
    go_wp2_with fail
    refine (large_any A n c p w1 HX1.out (by omega) (by omega)).mono ?_
    rintro e w2 ⟨rfl, hb2⟩
    rw [dL]
    have HB2 := Lib.hid (below3 HB1.out hb2)
    have HX2 := Lib.hid (HX1.out.grow hb2 (Nat.le_refl _))
    clear hb2 HB1 HX1
    go_wp2_with fail
    refine (awake_any w2 (HENV.out.below HB2.out)).mono ?_
    rintro e w3 ⟨rfl, hb3⟩
    have HB3 := Lib.hid (below3 HB2.out hb3)
    clear hb3
    go_wp2
    go_ret
    exact ⟨rfl, HB3.out⟩
  have dL : decide (3000 < n + (flat p).length) = false := decide_eq_false hL
  have HSM : Hid (Sm p) := by show Sm p; unfold Sm; omega
  go_wp2_with fail
  refine (large_any A n c p w1 HX1.out (by omega) (by omega)).mono ?_
  rintro e w2 ⟨rfl, hb2⟩
  rw [dL]
  have HB2 := Lib.hid (below3 HB1.out hb2)
  have HX2 := Lib.hid (HX1.out.grow hb2 (Nat.le_refl _))
  clear hb2 HB1 HX1
  clear dL hL hnl
  have hpn : n ≤ 1000000 := by have h1 := HSM.out; have h2 := HL.out; unfold Sm at h1; omega
  obtain ⟨⟨x, g⟩, hpr⟩ : ∃ r, prependR p kind ax q = r := ⟨_, rfl⟩
  have HPR := Lib.hid hpr
  have hxl : x.length ≤ 64 ∧ Sm x := by
    by_cases hg : (prependR p kind ax q).2 = 0
    · obtain ⟨_, h0, _⟩ := prepend_kind hg
      have h1 : prependR p kind ax ((q.toNat : Nat) : Int) = (x, 0) := by
        rw [Int.toNat_of_nonneg h0, ← hg, hpr]
      have h2 := valid_sm (prepend_law h1).2.1
      unfold Sm
      omega
    · have h1 := prepend_fail hg
      rw [hpr] at h1
      dsimp only at h1
      subst h1
      simp [Sm, flat]
  clear hpr
  go_wp2_with fail
  refine (prepend_any A n c p kind ax q w2 HX2.out HSM.out).mono ?_
  rintro e w3 ⟨A1, n1, c1, rfl, ho1, hb3⟩
  rw [HPR.out] at ho1 ⊢
  dsimp only at ho1 ⊢
  have HU3 := Lib.hid ho1.segs
  have HUL := Lib.hid ho1.len
  clear ho1
  have HB3 := Lib.hid (below3 HB2.out hb3)
  have HX3 := Lib.hid (HX2.out.grow hb3 (Nat.le_refl _))
  clear hb3 HB2 HX2
  go_wp2_with fail
  refine (refPrepend_any A n c p kind ax q w3 HX3.out HSM.out).mono ?_
  rintro e w4 ⟨A2, n2, c2, rfl, ho2, hb4⟩
  rw [HPR.out] at ho2 ⊢
  dsimp only at ho2 ⊢
  have HV4 := Lib.hid ho2.segs
  have HVL := Lib.hid ho2.len
  clear ho2
  have HB4 := Lib.hid (below3 HB3.out hb4)
  have HX4 := Lib.hid (HX3.out.grow hb4 (Nat.le_refl _))
  have HU4 := Lib.hid (HU3.out.grow hb4 (Nat.le_refl _))
  clear hb4 HB3 HX3 HU3
  have hn1 : n1 ≤ 64 := by have := HUL.out; omega
  have hn2 : n2 ≤ 64 := by have := HVL.out; omega
  have d1 : (g != g) = false := by simp
  go_wp2_with fail
  refine (refSamePath_any A1 A2 n1 c1 n2 c2 x x _ _ w4 HU4.out HV4.out (Nat.le_refl _) (Nat.le_refl _) (by omega) (by omega)).mono ?_
  rintro e w5 ⟨rfl, hb5⟩
  rw [decide_eq_true (rfl : x = x)]
  have HB5 := Lib.hid (below3 HB4.out hb5)
  have HX5 := Lib.hid (HX4.out.grow hb5 (Nat.le_refl _))
  have HU5 := Lib.hid (HU4.out.grow hb5 (Nat.le_refl _))
  clear hb5 HB4 HX4 HU4
  clear HV4 hn2 HVL d1
  by_cases hg : g = 0
  case neg =>
    have d2 : (g != 0) = true := by simp [hg]
    clear hg
    go_wp2_with fail
    refine (awake_any w5 (HENV.out.below HB5.out)).mono ?_
    rintro e w6 ⟨rfl, hb6⟩
    have HB6 := Lib.hid (below3 HB5.out hb6)
    clear hb6
    go_wp2
    go_ret
    exact ⟨rfl, HB6.out⟩
  subst hg
  obtain ⟨hk, hq0, hq1⟩ := prepend_kind (p := p) (kind := kind) (a := ax) (n := q) (by rw [HPR.out])
  obtain ⟨m, rfl⟩ : ∃ m : Nat, q = (m : Int) := ⟨q.toNat, (Int.toNat_of_nonneg hq0).symm⟩
  obtain ⟨hf1, hv, hl2, hl3, hm⟩ := prepend_law HPR.out
  have HF1 := Lib.hid hf1
  have HV := Lib.hid hv
  have HL2 := Lib.hid hl2
  have HL3 := Lib.hid hl3
  have HSX := Lib.hid hxl.2
  have hfl : (flat x).length = m + (flat p).length := by rw [hf1, List.length_append, List.length_replicate]
  have HFL := Lib.hid hfl
  have hpf : (flat p).length ≤ 1000000 := by have h1 := HSM.out; unfold Sm at h1; omega
  have hlp : lengthR p ≤ 1000000 := by have h1 := length_le p; have h2 := HSM.out; unfold Sm at h2; omega
  clear hf1 hv hl2 hl3 hxl hfl hq0 hq1 HPR
  rcases hk with rfl | rfl
  · have LXE : Hid (lengthR x = lengthR p + m) := HL2.out rfl
    go_wp2_with fail
    refine (length_any A1 n1 c1 x w5 HU5.out HSX.out).mono ?_
    rintro e w6 ⟨rfl, hb6⟩
    rw [LXE.out]
    have HB6 := Lib.hid (below3 HB5.out hb6)
    have HX6 := Lib.hid (HX5.out.grow hb6 (Nat.le_refl _))
    have HU6 := Lib.hid (HU5.out.grow hb6 (Nat.le_refl _))
    clear hb6 HB5 HX5 HU5
    go_wp2_with fail
    refine (length_any A n c p w6 HX6.out HSM.out).mono ?_
    rintro e w7 ⟨rfl, hb7⟩
    clear LXE
    have HB7 := Lib.hid (below3 HB6.out hb7)
    have HX7 := Lib.hid (HX6.out.grow hb7 (Nat.le_refl _))
    have HU7 := Lib.hid (HU6.out.grow hb7 (Nat.le_refl _))
    clear hb7 HB6 HX6 HU6
    have d6 : (0 != 0) = false := rfl
    go_wp2_with fail
    refine (flat_any A1 n1 c1 x w7 HU7.out (by omega) (by rw [HFL.out]; omega)).mono ?_
    rintro e w8 ⟨A3, c3, rfl, ho3, hb8⟩
    rw [HFL.out, HF1.out] at ho3
    rw [HFL.out]
    have HI8 := Lib.hid ho3.ints
    clear ho3
    have HB8 := Lib.hid (below3 HB7.out hb8)
    have HX8 := Lib.hid (HX7.out.grow hb8 (Nat.le_refl _))
    have HU8 := Lib.hid (HU7.out.grow hb8 (Nat.le_refl _))
    clear hb8 HB7 HX7 HU7
    go_wp2_with fail
    refine (check_any A1 n1 c1 x w8 HU8.out (by omega)).mono ?_
    rintro e w9 ⟨rfl, hb9⟩
    rw [HV.out]
    have HI9 := Lib.hid ((HI8.out.below hb9).more hb9.size)
    have HB9 := Lib.hid (below3 HB8.out hb9)
    have HX9 := Lib.hid (HX8.out.grow hb9 (Nat.le_refl _))
    have HU9 := Lib.hid (HU8.out.grow hb9 (Nat.le_refl _))
    clear hb9 HB8 HX8 HU8
    go_wp2_with fail
    refine (refFlat_any A n c p w9 HX9.out (by omega) (by omega)).mono ?_
    rintro e w10 ⟨A4, c4, rfl, ho4, hb10⟩
    have HI10 := Lib.hid ((HI9.out.below hb10).more hb10.size)
    clear ho4
    have HB10 := Lib.hid (below3 HB9.out hb10)
    have HX10 := Lib.hid (HX9.out.grow hb10 (Nat.le_refl _))
    have HU10 := Lib.hid (HU9.out.grow hb10 (Nat.le_refl _))
    clear hb10 HB9 HX9 HU9
    obtain ⟨N, hN⟩ : ∃ N, (flat p).length = N := ⟨_, rfl⟩
    have HN := Lib.hid hN
    rw [hN] at HI10 hpf ⊢
    have d5 : ((m + N : Nat) : Int) = (m : Int) + (N : Int) := by omega
    clear hN HSX HFL HF1 HL2 HL3 HV HUL hf
    go_wp2_with fail
    go_loopw [13] (fun i wr => ∃ k : Nat, k ≤ m ∧ i = .int .i64 k ∧ wr = w10) (fun i _ => m - (intOf i).toNat)
    case atStart => exact ⟨0, Nat.zero_le _, rfl, rfl⟩
    case round =>
      obtain ⟨k, hk, rfl, rfl⟩ := hrel
      by_cases hlt : k < m
      case pos =>
        obtain ⟨b, o, y, hA3, hbb, gy, hy⟩ := HI10.out.cell (j := k) (by omega)
        have hyx : y = ax := by rw [← hy.out]; exact rep_get hlt
        subst hyx
        subst hA3
        clear hy
        go_wp2_with fail
        go_roundw
        case rel => exact ⟨k + 1, by omega, by go_num, trivial⟩
        case measure => simp [intOf]; omega
      obtain rfl : k = m := by omega
      have hcut := HI10.out.sliceFrom (P := Tryd.prog) (T := 30) (E := 3) Tryd.underlying30 (by kernel_rfl) (lo := k) (by omega)
      obtain ⟨A5, c5, hcut, hin⟩ := hcut
      rw [show k + N - k = N by omega] at hcut hin
      rw [List.drop_left' (by simp)] at hin
      have HIN := Lib.hid hin
      clear hin
      go_wp2_with fail
      have HBd : Hid (Below w.heap.size w wr.drew) := HB10.out.drew
      have HXd : Hid (Segs wr.drew wr.drew.heap.size A n c p) := HX10.out.grow (Below.refl _ _).drew (Nat.le_refl _)
      have HId : Hid (Ints wr.drew wr.heap.size .i64 A5 N c5 (flat p)) := HIN.out.below (Below.refl _ _).drew
      refine wp_region_noPanic ?_
      refine wp_region_held_drew (S := fun _ => True) (by kernel_rfl) trivial (fun hHeld => ?_)
      refine take_in (i := 0) _ (some 99) (by kernel_rfl) (by kernel_rfl) (by kernel_rfl) (by kernel_rfl) (fun _ _ _ h => h) (by rfl) (fun o ho w hSw => by cases ho; (try dsimp only at hSw); (try go_split_ands); go_simp; (try with_reducible rfl)) hHeld ?_
      try simp only [Act.put, List.setIfInBounds_toArray, List.set_cons_zero, List.set_cons_succ]
      refine take_in (i := 1) _ (some 100) (by kernel_rfl) (by kernel_rfl) (by kernel_rfl) (by kernel_rfl) (fun _ _ _ h => h) (by rfl) (fun o ho w hSw => by cases ho; (try dsimp only at hSw); (try go_split_ands); go_simp; (try with_reducible rfl)) hHeld ?_
      try simp only [Act.put, List.setIfInBounds_toArray, List.set_cons_zero, List.set_cons_succ]
      refine take_in (i := 2) _ (some 101) (by kernel_rfl) (by kernel_rfl) (by kernel_rfl) (by kernel_rfl) (fun _ _ _ h => h) (by rfl) (fun o ho w hSw => by cases ho; (try dsimp only at hSw); (try go_split_ands); go_simp; (try with_reducible rfl)) hHeld ?_
      try simp only [Act.put, List.setIfInBounds_toArray, List.set_cons_zero, List.set_cons_succ]
      refine take_in (i := 3) _ (some 102) (by kernel_rfl) (by kernel_rfl) (by kernel_rfl) (by kernel_rfl) (fun _ _ _ h => h) (by rfl) (fun o ho w hSw => by cases ho; (try dsimp only at hSw); (try go_split_ands); go_simp; (try with_reducible rfl)) hHeld ?_
      try simp only [Act.put, List.setIfInBounds_toArray, List.set_cons_zero, List.set_cons_succ]
      refine wpAnyH_ready (rs := [4]) (by kernel_rfl) (by simp) ?_
      refine AllReadyH.cons (o := _) rfl (fun K hK => ?_) AllReadyH.nil
      go_simp
      go_at_call 30
      with_reducible refine (flat_any A n c p _ (HXd.out) (by omega) (by rw [HN.out]; omega)).mono ?_
      rintro e wf ⟨A6, c6, rfl, ho6, hb6⟩
      rw [HN.out] at ho6 ⊢
      have HJ := Lib.hid ho6.ints
      have HI := Lib.hid (HId.out.below hb6)
      have HBf := Lib.hid (below3 HBd.out hb6)
      clear ho6 hb6 HBd HXd HId
      refine hK.out _ _ trivial (fun hHeld => ?_)
      clear hK K
      try simp only [Act.put, List.setIfInBounds_toArray, List.set_cons_zero, List.set_cons_succ]
      refine wpAnyH_ready (rs := [5]) (by kernel_rfl) (by simp) ?_
      refine AllReadyH.cons (o := _) rfl (fun K hK => ?_) AllReadyH.nil
      go_simp
      go_at_call 29
      with_reducible refine (nums_any A5 A6 N c5 N c6 _ _ (flat p) (flat p) _ HI.out HJ.out).mono ?_
      rintro e wg ⟨rfl, hb7⟩
      rw [decide_eq_true (rfl : flat p = flat p)]
      have HBg := Lib.hid (below3 HBf.out hb7)
      clear hb7 HBf HI HJ
      refine hK.out _ _ trivial (fun hHeld => ?_)
      clear hK K
      try simp only [Act.put, List.setIfInBounds_toArray, List.set_cons_zero, List.set_cons_succ]
      refine take_in (i := 6) _ (some 105) (by kernel_rfl) (by kernel_rfl) (by kernel_rfl) (by kernel_rfl) (fun _ _ _ h => h) (by rfl) (fun o ho w hSw => by cases ho; (try dsimp only at hSw); (try go_split_ands); go_simp; (try with_reducible rfl)) hHeld ?_
      try simp only [Act.put, List.setIfInBounds_toArray, List.set_cons_zero, List.set_cons_succ]
      refine wpAnyH_ready (rs := [7]) (by kernel_rfl) (by simp) ?_
      refine AllReadyH.cons (o := _) rfl (fun K hK => ?_) AllReadyH.nil
      go_simp
      go_at_call 12
      with_reducible refine (awake_any _ (HENV.out.below HBg.out)).mono ?_
      rintro e wh ⟨rfl, hb8⟩
      have HBh := Lib.hid (below3 HBg.out hb8)
      clear hb8 HBg
      refine hK.out _ _ trivial (fun hHeld => ?_)
      clear hK K
      try simp only [Act.put, List.setIfInBounds_toArray, List.set_cons_zero, List.set_cons_succ]
      refine take_in (i := 8) _ (some 107) (by kernel_rfl) (by kernel_rfl) (by kernel_rfl) (by kernel_rfl) (fun _ _ _ h => h) (by rfl) (fun o ho w hSw => by cases ho; (try dsimp only at hSw); (try go_split_ands); go_simp; (try with_reducible rfl)) hHeld ?_
      try simp only [Act.put, List.setIfInBounds_toArray, List.set_cons_zero, List.set_cons_succ]
      refine take_in (i := 9) _ (some 4) (by kernel_rfl) (by kernel_rfl) (by kernel_rfl) (by kernel_rfl) (fun _ _ _ h => h) (by rfl) (fun o ho w hSw => by cases ho; (try dsimp only at hSw); (try go_split_ands); go_simp; (try with_reducible rfl)) hHeld ?_
      try simp only [Act.put, List.setIfInBounds_toArray, List.set_cons_zero, List.set_cons_succ]
      refine wpAnyH_done (by kernel_rfl) ?_ _
      refine NoPanic.normal ?_
      go_wp2
      go_ret
      exact ⟨rfl, HBh.out⟩
  · have LXE : Hid (lengthR x = lengthR p) := HL3.out rfl
    go_wp2_with fail
    refine (length_any A1 n1 c1 x w5 HU5.out HSX.out).mono ?_
    rintro e w6 ⟨rfl, hb6⟩
    rw [LXE.out]
    have HB6 := Lib.hid (below3 HB5.out hb6)
    have HX6 := Lib.hid (HX5.out.grow hb6 (Nat.le_refl _))
    have HU6 := Lib.hid (HU5.out.grow hb6 (Nat.le_refl _))
    clear hb6 HB5 HX5 HU5
    go_wp2_with fail
    refine (length_any A n c p w6 HX6.out HSM.out).mono ?_
    rintro e w7 ⟨rfl, hb7⟩
    clear LXE
    have HB7 := Lib.hid (below3 HB6.out hb7)
    have HX7 := Lib.hid (HX6.out.grow hb7 (Nat.le_refl _))
    have HU7 := Lib.hid (HU6.out.grow hb7 (Nat.le_refl _))
    clear hb7 HB6 HX6 HU6
    have d6 : (0 != 0) = false := rfl
    go_wp2_with fail
    refine (flat_any A1 n1 c1 x w7 HU7.out (by omega) (by rw [HFL.out]; omega)).mono ?_
    rintro e w8 ⟨A3, c3, rfl, ho3, hb8⟩
    rw [HFL.out, HF1.out] at ho3
    rw [HFL.out]
    have HI8 := Lib.hid ho3.ints
    clear ho3
    have HB8 := Lib.hid (below3 HB7.out hb8)
    have HX8 := Lib.hid (HX7.out.grow hb8 (Nat.le_refl _))
    have HU8 := Lib.hid (HU7.out.grow hb8 (Nat.le_refl _))
    clear hb8 HB7 HX7 HU7
    go_wp2_with fail
    refine (check_any A1 n1 c1 x w8 HU8.out (by omega)).mono ?_
    rintro e w9 ⟨rfl, hb9⟩
    rw [HV.out]
    have HI9 := Lib.hid ((HI8.out.below hb9).more hb9.size)
    have HB9 := Lib.hid (below3 HB8.out hb9)
    have HX9 := Lib.hid (HX8.out.grow hb9 (Nat.le_refl _))
    have HU9 := Lib.hid (HU8.out.grow hb9 (Nat.le_refl _))
    clear hb9 HB8 HX8 HU8
    go_wp2_with fail
    refine (refFlat_any A n c p w9 HX9.out (by omega) (by omega)).mono ?_
    rintro e w10 ⟨A4, c4, rfl, ho4, hb10⟩
    have HI10 := Lib.hid ((HI9.out.below hb10).more hb10.size)
    clear ho4
    have HB10 := Lib.hid (below3 HB9.out hb10)
    have HX10 := Lib.hid (HX9.out.grow hb10 (Nat.le_refl _))
    have HU10 := Lib.hid (HU9.out.grow hb10 (Nat.le_refl _))
    clear hb10 HB9 HX9 HU9
    obtain ⟨N, hN⟩ : ∃ N, (flat p).length = N := ⟨_, rfl⟩
    have HN := Lib.hid hN
    rw [hN] at HI10 hpf ⊢
    have d5 : ((m + N : Nat) : Int) = (m : Int) + (N : Int) := by omega
    clear hN HSX HFL HF1 HL2 HL3 HV HUL hf
    go_wp2_with fail
    go_loopw [13] (fun i wr => ∃ k : Nat, k ≤ m ∧ i = .int .i64 k ∧ wr = w10) (fun i _ => m - (intOf i).toNat)
    case atStart => exact ⟨0, Nat.zero_le _, rfl, rfl⟩
    case round =>
      obtain ⟨k, hk, rfl, rfl⟩ := hrel
      by_cases hlt : k < m
      case pos =>
        obtain ⟨b, o, y, hA3, hbb, gy, hy⟩ := HI10.out.cell (j := k) (by omega)
        have hyx : y = ax := by rw [← hy.out]; exact rep_get hlt
        subst hyx
        subst hA3
        clear hy
        go_wp2_with fail
        go_roundw
        case rel => exact ⟨k + 1, by omega, by go_num, trivial⟩
        case measure => simp [intOf]; omega
      obtain rfl : k = m := by omega
      have hcut := HI10.out.sliceFrom (P := Tryd.prog) (T := 30) (E := 3) Tryd.underlying30 (by kernel_rfl) (lo := k) (by omega)
      obtain ⟨A5, c5, hcut, hin⟩ := hcut
      rw [show k + N - k = N by omega] at hcut hin
      rw [List.drop_left' (by simp)] at hin
      have HIN := Lib.hid hin
      clear hin
      go_wp2_with fail
      have HBd : Hid (Below w.heap.size w wr.drew) := HB10.out.drew
      have HXd : Hid (Segs wr.drew wr.drew.heap.size A n c p) := HX10.out.grow (Below.refl _ _).drew (Nat.le_refl _)
      have HId : Hid (Ints wr.drew wr.heap.size .i64 A5 N c5 (flat p)) := HIN.out.below (Below.refl _ _).drew
      refine wp_region_noPanic ?_
      refine wp_region_held_drew (S := fun _ => True) (by kernel_rfl) trivial (fun hHeld => ?_)
      refine take_in (i := 0) _ (some 99) (by kernel_rfl) (by kernel_rfl) (by kernel_rfl) (by kernel_rfl) (fun _ _ _ h => h) (by rfl) (fun o ho w hSw => by cases ho; (try dsimp only at hSw); (try go_split_ands); go_simp; (try with_reducible rfl)) hHeld ?_
      try simp only [Act.put, List.setIfInBounds_toArray, List.set_cons_zero, List.set_cons_succ]
      refine take_in (i := 1) _ (some 100) (by kernel_rfl) (by kernel_rfl) (by kernel_rfl) (by kernel_rfl) (fun _ _ _ h => h) (by rfl) (fun o ho w hSw => by cases ho; (try dsimp only at hSw); (try go_split_ands); go_simp; (try with_reducible rfl)) hHeld ?_
      try simp only [Act.put, List.setIfInBounds_toArray, List.set_cons_zero, List.set_cons_succ]
      refine take_in (i := 2) _ (some 101) (by kernel_rfl) (by kernel_rfl) (by kernel_rfl) (by kernel_rfl) (fun _ _ _ h => h) (by rfl) (fun o ho w hSw => by cases ho; (try dsimp only at hSw); (try go_split_ands); go_simp; (try with_reducible rfl)) hHeld ?_
      try simp only [Act.put, List.setIfInBounds_toArray, List.set_cons_zero, List.set_cons_succ]
      refine take_in (i := 3) _ (some 102) (by kernel_rfl) (by kernel_rfl) (by kernel_rfl) (by kernel_rfl) (fun _ _ _ h => h) (by rfl) (fun o ho w hSw => by cases ho; (try dsimp only at hSw); (try go_split_ands); go_simp; (try with_reducible rfl)) hHeld ?_
      try simp only [Act.put, List.setIfInBounds_toArray, List.set_cons_zero, List.set_cons_succ]
      refine wpAnyH_ready (rs := [4]) (by kernel_rfl) (by simp) ?_
      refine AllReadyH.cons (o := _) rfl (fun K hK => ?_) AllReadyH.nil
      go_simp
      go_at_call 30
      with_reducible refine (flat_any A n c p _ (HXd.out) (by omega) (by rw [HN.out]; omega)).mono ?_
      rintro e wf ⟨A6, c6, rfl, ho6, hb6⟩
      rw [HN.out] at ho6 ⊢
      have HJ := Lib.hid ho6.ints
      have HI := Lib.hid (HId.out.below hb6)
      have HBf := Lib.hid (below3 HBd.out hb6)
      clear ho6 hb6 HBd HXd HId
      refine hK.out _ _ trivial (fun hHeld => ?_)
      clear hK K
      try simp only [Act.put, List.setIfInBounds_toArray, List.set_cons_zero, List.set_cons_succ]
      refine wpAnyH_ready (rs := [5]) (by kernel_rfl) (by simp) ?_
      refine AllReadyH.cons (o := _) rfl (fun K hK => ?_) AllReadyH.nil
      go_simp
      go_at_call 29
      with_reducible refine (nums_any A5 A6 N c5 N c6 _ _ (flat p) (flat p) _ HI.out HJ.out).mono ?_
      rintro e wg ⟨rfl, hb7⟩
      rw [decide_eq_true (rfl : flat p = flat p)]
      have HBg := Lib.hid (below3 HBf.out hb7)
      clear hb7 HBf HI HJ
      refine hK.out _ _ trivial (fun hHeld => ?_)
      clear hK K
      try simp only [Act.put, List.setIfInBounds_toArray, List.set_cons_zero, List.set_cons_succ]
      refine take_in (i := 6) _ (some 105) (by kernel_rfl) (by kernel_rfl) (by kernel_rfl) (by kernel_rfl) (fun _ _ _ h => h) (by rfl) (fun o ho w hSw => by cases ho; (try dsimp only at hSw); (try go_split_ands); go_simp; (try with_reducible rfl)) hHeld ?_
      try simp only [Act.put, List.setIfInBounds_toArray, List.set_cons_zero, List.set_cons_succ]
      refine wpAnyH_ready (rs := [7]) (by kernel_rfl) (by simp) ?_
      refine AllReadyH.cons (o := _) rfl (fun K hK => ?_) AllReadyH.nil
      go_simp
      go_at_call 12
      with_reducible refine (awake_any _ (HENV.out.below HBg.out)).mono ?_
      rintro e wh ⟨rfl, hb8⟩
      have HBh := Lib.hid (below3 HBg.out hb8)
      clear hb8 HBg
      refine hK.out _ _ trivial (fun hHeld => ?_)
      clear hK K
      try simp only [Act.put, List.setIfInBounds_toArray, List.set_cons_zero, List.set_cons_succ]
      refine take_in (i := 8) _ (some 107) (by kernel_rfl) (by kernel_rfl) (by kernel_rfl) (by kernel_rfl) (fun _ _ _ h => h) (by rfl) (fun o ho w hSw => by cases ho; (try dsimp only at hSw); (try go_split_ands); go_simp; (try with_reducible rfl)) hHeld ?_
      try simp only [Act.put, List.setIfInBounds_toArray, List.set_cons_zero, List.set_cons_succ]
      refine take_in (i := 9) _ (some 4) (by kernel_rfl) (by kernel_rfl) (by kernel_rfl) (by kernel_rfl) (fun _ _ _ h => h) (by rfl) (fun o ho w hSw => by cases ho; (try dsimp only at hSw); (try go_split_ands); go_simp; (try with_reducible rfl)) hHeld ?_
      try simp only [Act.put, List.setIfInBounds_toArray, List.set_cons_zero, List.set_cons_succ]
      refine wpAnyH_done (by kernel_rfl) ?_ _
      refine NoPanic.normal ?_
      go_wp2
      go_ret
      exact ⟨rfl, HBh.out⟩
theorem aspathPrepend_walk (v v' : Value) (w : World) (hb : PathIn w v 1048576 ∧ ∃ x y z, v' = .agg #[.int .i64 x, .int .i64 y, .int .i64 z]) (henv : Env w) :
    Calls Tryd.prog 7 #[v, v'] w fun e w' => e = .returned (.bool true) ∧ Below w.heap.size w w' := by
  obtain ⟨h, x, y, z, rfl⟩ := hb
  exact aspathPrepend_walk3 v x y z w h henv
end Go.Proofs.YteohdanlcaoaiaaDoor
