/- LfibStack: the walk. -/
import Derived.Test.YtkgfcekcjehkdaaLaw46e
import Derived.Test.YtkgfcekcjehkdaaTake
import Derived.Deep.RegionHeld3
import Derived.Deep.RegionWith
namespace Go.Proofs.Ytkgfcekcjehkdaa
open Go.ChangeShapes Go.WideShapes Go.ChangeAt Go.RowKit

theorem firstE_mem {P : Int → Prop} {f : Nat → Int} (h0 : P 0) (h : ∀ i, P (f i)) : ∀ n, P (firstE f n)
  | 0 => h0
  | n + 1 => by
    rw [firstE]
    split
    · exact firstE_mem h0 h n
    · exact h n
def ErrIn (x : Int) : Prop := x = 0 ∨ x = 4 ∨ x = 5 ∨ x = 6 ∨ x = 9 ∨ x = 16 ∨ x = 23
theorem hops_in (hs : List HV) : ErrIn (hopsErr hs) := by
  unfold hopsErr
  split
  · simp [ErrIn]
  · refine firstE_mem (by simp [ErrIn]) (fun i => ?_) _
    unfold hopErr
    repeat' split
    all_goals simp [ErrIn]
theorem tab_in (es : List EV) : ErrIn (tabErr es) := by
  unfold tabErr
  split
  · simp [ErrIn]
  · refine firstE_mem (by simp [ErrIn]) (fun i => ?_) _
    unfold entErr
    split
    · simp [ErrIn]
    · split
      · simp [ErrIn]
      · exact hops_in _
theorem fwd_in (es : List EV) (p : PD) : ErrIn (fwd es p).2.2 := by
  unfold fwd
  split
  · exact tab_in es
  · split
    · simp [ErrIn]
    · unfold stepR
      split
      · simp [ErrIn]
      · repeat' split
        all_goals simp [ErrIn]
/-- the two slices that the last statement reads, in a later world -/
theorem two_held {N1 N2 : Nat} {u v : Value} {W V V' : World} (h1 : V.cell? ⟨N2, 4, none⟩ = some u ∧ V.cell? ⟨N1, 4, none⟩ = some v ∧ Hid (Below W.heap.size W V)) (z1 : N1 < W.heap.size) (z2 : N2 < W.heap.size) (hb : Below V.heap.size V V') :
    V'.cell? ⟨N2, 4, none⟩ = some u ∧ V'.cell? ⟨N1, 4, none⟩ = some v ∧ Hid (Below W.heap.size W V') :=
  ⟨(hb.cell (p := ⟨N2, 4, none⟩) (Nat.lt_of_lt_of_le z2 h1.2.2.out.size)).trans h1.1, (hb.cell (p := ⟨N1, 4, none⟩) (Nat.lt_of_lt_of_le z1 h1.2.2.out.size)).trans h1.2.1, below3 h1.2.2.out hb⟩
set_option maxRecDepth 100000 in
set_option maxHeartbeats 4000000 in
theorem lfibStack_walk (v0 v1 : Value) (C : Option Addr) (m d : Nat) (bs : List Int) (w : World) (h0 : TabIn w v0) (h1 : PkIn w v1) (hx : Ints w w.heap.size .i64 C m d bs) (hwb : ∀ x ∈ bs, (Lit.int .i64 x).wf = true) (hr : d * 8 ≤ 140737488351232) :
    Calls Try.prog 5 #[v0, v1, .slice C m d] w fun e w' => e = .returned (.bool true) ∧ Below w.heap.size w w' := by
  obtain ⟨T, tn, tc, es, rfl, ht, htn, hlen⟩ := h0
  obtain ⟨p, A, n, c, rfl, hp, hn, hw, hf, httl⟩ := h1
  have hm : m ≤ 17592186043904 := by have := hx.1; omega
  obtain ⟨src, dst, fl, ttl, ps⟩ := p
  dsimp only at *
  have HB0 := Lib.hid (belowA w (.cells #[.int .u32 src, .int .u32 dst, .int .u32 fl, .int .i64 ttl, .slice A n c] 27))
  by_cases hn1 : n = 1
  case neg =>
    have d0 : ((n : Int) != 1) = true := by simp; omega
    clear ht hlen hp hw hf httl hx hwb hn1
    go_enter Try.func5, Try.ntmps5
    go_wp2_with fail
    refine (awake_any _).mono ?_
    rintro e w1 ⟨rfl, hb1⟩
    have HB1 := Lib.hid (below3 HB0.out hb1)
    clear hb1
    go_wp2
    go_ret
    exact ⟨rfl, HB1.out⟩
  subst hn1
  obtain ⟨x, rfl⟩ : ∃ x, ps = [x] := List.length_eq_one_iff.1 hp.len
  have F1 : Hid (∀ W, Below w.heap.size w W → Calls Try.prog 15 #[.slice T tn tc, .agg #[.int .u32 src, .int .u32 dst, .int .u32 fl, .int .i64 ttl, .slice A 1 c]] W (GivesP3 (fwd es ⟨src, dst, fl, ttl, [x]⟩) W)) :=
    fun W h => forward_any T A tn tc 1 c es ⟨src, dst, fl, ttl, [x]⟩ W ((ht.below h).more h.size) hlen htn ((hp.below h).more h.size) hn hw hf httl
  have F2 : Hid (∀ W B k, Below w.heap.size w W → Ints W W.heap.size .i64 B (m + 1) k (bs ++ [x]) → Calls Try.prog 15 #[.slice T tn tc, .agg #[.int .u32 src, .int .u32 dst, .int .u32 fl, .int .i64 ttl, .slice B (m + 1) k]] W (GivesP3 (fwd es ⟨src, dst, fl, ttl, bs ++ [x]⟩) W)) :=
    fun W B k h hi => forward_any T B tn tc (m + 1) k es ⟨src, dst, fl, ttl, bs ++ [x]⟩ W ((ht.below h).more h.size) hlen htn hi (by omega) (fun y hy => by
      rcases List.mem_append.1 hy with hy | hy
      · exact bounds_i64 (hwb y hy)
      · exact hw y hy) hf httl
  obtain ⟨hP1, hP2, hP3⟩ := stack_plain es src dst fl ttl x bs
  have hl1 := fwd_len es ⟨src, dst, fl, ttl, [x]⟩
  have hin := fwd_in es ⟨src, dst, fl, ttl, bs ++ [x]⟩
  have hl2 := fwd_len es ⟨src, dst, fl, ttl, bs ++ [x]⟩
  obtain ⟨⟨q, r, e⟩, hq⟩ : ∃ q, fwd es ⟨src, dst, fl, ttl, [x]⟩ = q := ⟨_, rfl⟩
  obtain ⟨⟨q', r', e'⟩, hq'⟩ : ∃ q, fwd es ⟨src, dst, fl, ttl, bs ++ [x]⟩ = q := ⟨_, rfl⟩
  rw [hq] at F1 hP1 hP2 hP3 hl1
  rw [hq'] at F2 hP1 hP2 hP3 hl2 hin
  obtain ⟨s2, d2, f2, t2, l2⟩ := q
  obtain ⟨s3, d3, f3, t3, l3⟩ := q'
  simp only [Prod.mk.injEq] at hP1 hP2 hP3 hl1 hl2
  obtain ⟨rfl, rfl⟩ := hP1
  subst hP2
  have HP3 := Lib.hid hP3
  have HIN : Hid (ErrIn e') := hin
  clear hin
  have HX := Lib.hid hx
  have HP := Lib.hid hp
  have HL1 : Hid (l2.length ≤ 1) := hl1
  have HL2 : Hid (l3.length ≤ m + 1) := by
    have : l3.length ≤ (bs ++ [x]).length := hl2
    rw [List.length_append, hx.len] at this
    exact this
  clear ht hlen htn hp hw hf httl hq hq' hx hwb hr hP3 hl1 hl2
  go_enter Try.func5, Try.ntmps5
  go_upto_region 3 with fail
  go_cut [7, 8, 9] (fun s t u wx => AW3 ⟨s2, d2, f2, t3, l2⟩ r' e' (w.alloc (.cells #[.int .u32 src, .int .u32 dst, .int .u32 fl, .int .i64 ttl, .slice A 1 c] 27)) s t u wx)
  case first =>
    go_wp2_with fail
    refine (F1.out _ HB0.out).mono ?_
    rintro e w1 ⟨v, rfl, ⟨A1, n1, c1, rfl, ho⟩, hb⟩
    have HI := Lib.hid ho.ints
    have HB := Lib.hid hb
    clear ho hb
    go_wp2_with fail
    go_meet
    exact ⟨AW.mk' rfl ⟨rfl, rfl, rfl, rfl⟩ HI.out HB.out, rfl, rfl⟩
  case rest =>
    obtain ⟨⟨N1, A1, n1, c1, rfl, P1, I1, B1⟩, rfl, rfl⟩ := hcut
    have HP0 : Hid (PB w.heap.size src dst fl ttl A 1 c wc) := (PB.new w).step B1
    have HP1 := Lib.hid P1
    have HI1 := Lib.hid I1
    have HB1 := Lib.hid (below3 HB0.out B1)
    clear P1 I1 B1
    obtain ⟨W1, hW1⟩ : ∃ W1, W1 = wc := ⟨_, rfl⟩
    subst hW1
    obtain ⟨p0, p1, p2, p3, p4, hz⟩ := HP0.out
    have HIP := Lib.hid ((HP.out.below HB1.out).more HB1.out.size)
    have HIB := Lib.hid ((HX.out.below HB1.out).more HB1.out.size)
    have HA1 := Lib.hid (belowA W1 (.cells #[.int .u32 src, .int .u32 dst, .int .u32 fl, .int .i64 ttl, .slice A 1 c] 27))
    go_wp2_with fail
    refine (copyInts_any C A m d 1 c bs [x] _ ((HIB.out.below HA1.out).more HA1.out.size) ((HIP.out.below HA1.out).more HA1.out.size) (by omega)).mono ?_
    rintro e w3 ⟨A3, c3, rfl, ho3, hb3⟩
    have HO3 : Hid (Own w3 (W1.heap.size + 1) 3 .i64 (.slice A3 (m + 1) c3) (m + 1) (bs ++ [x])) := own_low ho3 (by simp)
    have HB3 := Lib.hid (HA1.out.trans (hb3.mono HA1.out.size))
    obtain ⟨k0, k1, k2, k3, k4, kz⟩ := (PB.new (T := 27) (s := src) (d := dst) (f := fl) (t := ttl) (A := A) (n := 1) (c := c) W1).step hb3
    have kf : w3.frozen? ⟨W1.heap.size, 4, none⟩ = false := ((bcell hb3).2.1 _ _ (by simp)).trans (by go_simp)
    clear ho3 hb3 p0 p1 p2 p3 p4 hz
    go_upto_region 6 with fail
    go_cut [11, 12, 13] (fun s t u wx => AW3 ⟨s3, d3, f3, t3, l3⟩ r' e' W1 s t u wx)
    case first =>
      have HB4 : Hid (Below W1.heap.size W1 (w3.setCell ⟨W1.heap.size, 4, none⟩ (.slice A3 (m + 1) c3))) := HB3.out.setCell (p := ⟨W1.heap.size, 4, none⟩) (Nat.le_refl _) _
      have HO4 : Hid (Own (w3.setCell ⟨W1.heap.size, 4, none⟩ (.slice A3 (m + 1) c3)) (W1.heap.size + 1) 3 .i64 (.slice A3 (m + 1) c3) (m + 1) (bs ++ [x])) := HO3.out.setBelow (p := ⟨W1.heap.size, 4, none⟩) (Nat.lt_succ_self _) _
      go_wp2_with fail
      refine (F2.out _ A3 c3 (below3 HB1.out HB4.out) HO4.out.ints).mono ?_
      rintro e w5 ⟨v, rfl, ⟨A5, n5, c5, rfl, ho5⟩, hb5⟩
      have HI := Lib.hid ho5.ints
      have HB := Lib.hid (below3 HB4.out hb5)
      clear ho5 hb5 k0 k1 k2 k3 k4 kf kz
      go_wp2_with fail
      go_meet
      exact ⟨AW.mk' rfl ⟨rfl, rfl, rfl, rfl⟩ HI.out HB.out, rfl, rfl⟩
    case rest =>
      obtain ⟨⟨N2, A2, n2, c2, rfl, P2, I2, B2⟩, rfl, rfl⟩ := hcut
      have HP2 := Lib.hid P2
      have HI2 := Lib.hid I2
      have HQ1 := Lib.hid (HP1.out.step B2)
      have HJ1 := Lib.hid ((HI1.out.below B2).more B2.size)
      have HY := Lib.hid ((HIB.out.below B2).more B2.size)
      have HB2 := Lib.hid (below3 HB1.out B2)
      clear P2 I2 B2 k0 k1 k2 k3 k4 kf kz HO3 HB3 HP0
      obtain ⟨a0, a1, a2, a3, a4, az⟩ := HQ1.out
      obtain ⟨b0, b1, b2, b3, b4, bz⟩ := HP2.out
      have HN1 : Hid (n1 ≤ 1) := by have h1 : l2.length = n1 := HJ1.out.len; have := HL1.out; show _ ≤ _; omega
      have HN2 : Hid (n2 ≤ m + 1) := by have h1 : l3.length = n2 := HI2.out.len; have := HL2.out; show _ ≤ _; omega
      go_upto_region 9 with fail
      obtain ⟨V, hV⟩ : ∃ V, V = wc := ⟨_, rfl⟩
      subst hV
      by_cases he : e' = 0
      · subst he
        have hls := HP3.out rfl
        subst hls
        have HCI : Hid (∀ W, Below V.heap.size V W → Calls Try.prog 17 #[.slice C m d, .slice A1 n1 c1] W (GivesInts 3 .i64 (m + n1) (bs ++ l2) W)) :=
          fun W h => copyInts_any C A1 m d n1 c1 bs l2 W ((HY.out.below h).more h.size) ((HJ1.out.below h).more h.size) (by have := HN1.out; omega)
        have HSI : Hid (∀ W A' c', Below V.heap.size V W → Ints W W.heap.size .i64 A' (m + n1) c' (bs ++ l2) → Calls Try.prog 18 #[.slice A2 n2 c2, .slice A' (m + n1) c'] W fun e w' => e = .returned (.bool true) ∧ W = w') := by
          intro W A' c' h hi
          have := sameInts_any A2 A' n2 c2 (m + n1) c' V.heap.size W.heap.size (bs ++ l2) (bs ++ l2) W (HI2.out.below h) hi (by have := HN2.out; omega) (by have := HN1.out; omega)
          rwa [show decide (bs ++ l2 = bs ++ l2) = true by simp] at this
        go_region_held3 (fun w' => w'.cell? ⟨N2, 4, none⟩ = some (.slice A2 n2 c2) ∧ w'.cell? ⟨N1, 4, none⟩ = some (.slice A1 n1 c1) ∧ Hid (Below V.heap.size V w'))
          (first | exact ⟨by go_simp, by go_simp, (Below.refl _ _).drew⟩ | exact hs)
          (first
            | (go_at_call 11; refine (awake_any _).mono ?_; rintro e w' ⟨rfl, hb2⟩; have hs := two_held (by assumption) az bz hb2; clear hb2)
            | (go_at_call 17; refine (HCI.out _ hs.2.2.out).mono ?_; rintro e w' ⟨A7, c7, rfl, ho7, hb2⟩; have HO7 := Lib.hid ho7; have hs := two_held (by assumption) az bz hb2; clear hb2 ho7)
            | (go_at_call 18; refine (HSI.out _ _ _ hs.2.2.out HO7.out.ints).mono ?_; rintro e w' ⟨rfl, rfl⟩))
        have HB9 := Lib.hid (below3 HB2.out hs.2.2.out)
        go_wp2
        go_ret
        exact ⟨rfl, HB9.out⟩
      · have d1 : (e' != 0) = true := by simp [he]
        have d2 : (e' == 0) = false := by simp [he]
        clear he
        refine wp_region_noPanic ?_
        refine wp_region_held_drew (S := fun w' => Hid (Below V.heap.size V w')) (by kernel_rfl) ((Below.refl _ _).drew) (fun hHeld => ?_)
        refine wpAnyH_ready (rs := [0]) (by kernel_rfl) (by simp) ?_
        refine AllReadyH.cons (o := _) rfl (fun K hK => ?_) AllReadyH.nil
        go_simp
        refine (awake_any _).mono ?_
        rintro e w' ⟨rfl, hb2⟩
        have hs : Hid (Below V.heap.size V w') := below3 hHeld.out hb2
        refine hK.out _ _ hs (fun _ => ?_)
        clear hK K hb2
        try simp only [Act.put, List.setIfInBounds_toArray, List.set_cons_zero, List.set_cons_succ]
        refine take_in (i := 1) (.bool true) (some 55) (by kernel_rfl) (by kernel_rfl) (by kernel_rfl) (by kernel_rfl) (fun _ _ _ h => h) (by rfl) (fun o ho w hSw => by cases ho; go_simp) hs ?_
        try simp only [Act.put, List.setIfInBounds_toArray, List.set_cons_zero, List.set_cons_succ]
        refine take_in (i := 2) (.int .i64 e') (some 56) (by kernel_rfl) (by kernel_rfl) (by kernel_rfl) (by kernel_rfl) (fun _ _ _ h => h) (by rfl) (fun o ho w hSw => by cases ho; go_simp) hs ?_
        try simp only [Act.put, List.setIfInBounds_toArray, List.set_cons_zero, List.set_cons_succ]
        refine take_in (i := 3) (.bool true) (some 57) (by kernel_rfl) (by kernel_rfl) (by kernel_rfl) (by kernel_rfl) (fun _ _ _ h => h) (by rfl) (fun o ho w hSw => by cases ho; go_simp) hs ?_
        try simp only [Act.put, List.setIfInBounds_toArray, List.set_cons_zero, List.set_cons_succ]
        refine take_in (i := 4) (.bool true) (some 58) (by kernel_rfl) (by kernel_rfl) (by kernel_rfl) (by kernel_rfl) (fun _ _ _ h => h) (by rfl) (fun o ho w hSw => by cases ho; go_simp) hs ?_
        try simp only [Act.put, List.setIfInBounds_toArray, List.set_cons_zero, List.set_cons_succ]
        refine take_un (i := 5) (some 59) (by kernel_rfl) (by kernel_rfl) (by kernel_rfl) (by kernel_rfl) (fun _ _ _ h => h) (by rfl) hs ?_
        try simp only [Act.put, List.setIfInBounds_toArray, List.set_cons_zero, List.set_cons_succ]
        refine take_un (i := 6) (some 60) (by kernel_rfl) (by kernel_rfl) (by kernel_rfl) (by kernel_rfl) (fun _ _ _ h => h) (by rfl) hs ?_
        try simp only [Act.put, List.setIfInBounds_toArray, List.set_cons_zero, List.set_cons_succ]
        refine take_un (i := 7) (some 61) (by kernel_rfl) (by kernel_rfl) (by kernel_rfl) (by kernel_rfl) (fun _ _ _ h => h) (by rfl) hs ?_
        try simp only [Act.put, List.setIfInBounds_toArray, List.set_cons_zero, List.set_cons_succ]
        refine take_un (i := 8) (some 62) (by kernel_rfl) (by kernel_rfl) (by kernel_rfl) (by kernel_rfl) (fun _ _ _ h => h) (by rfl) hs ?_
        try simp only [Act.put, List.setIfInBounds_toArray, List.set_cons_zero, List.set_cons_succ]
        refine take_un (i := 9) (some 63) (by kernel_rfl) (by kernel_rfl) (by kernel_rfl) (by kernel_rfl) (fun _ _ _ h => h) (by rfl) hs ?_
        try simp only [Act.put, List.setIfInBounds_toArray, List.set_cons_zero, List.set_cons_succ]
        refine take_un (i := 10) (some 64) (by kernel_rfl) (by kernel_rfl) (by kernel_rfl) (by kernel_rfl) (fun _ _ _ h => h) (by rfl) hs ?_
        try simp only [Act.put, List.setIfInBounds_toArray, List.set_cons_zero, List.set_cons_succ]
        refine take_un (i := 11) (some 65) (by kernel_rfl) (by kernel_rfl) (by kernel_rfl) (by kernel_rfl) (fun _ _ _ h => h) (by rfl) hs ?_
        try simp only [Act.put, List.setIfInBounds_toArray, List.set_cons_zero, List.set_cons_succ]
        refine take_in (i := 12) (.bool true) (some 66) (by kernel_rfl) (by kernel_rfl) (by kernel_rfl) (by kernel_rfl) (fun _ _ _ h => h) (by rfl) (fun o ho w hSw => by cases ho; go_simp) hs ?_
        try simp only [Act.put, List.setIfInBounds_toArray, List.set_cons_zero, List.set_cons_succ]
        refine take_in (i := 13) (.bool true) (some 67) (by kernel_rfl) (by kernel_rfl) (by kernel_rfl) (by kernel_rfl) (fun _ _ _ h => h) (by rfl) (fun o ho w hSw => by cases ho; go_simp) hs ?_
        try simp only [Act.put, List.setIfInBounds_toArray, List.set_cons_zero, List.set_cons_succ]
        refine take_in (i := 14) (.bool true) (some 6) (by kernel_rfl) (by kernel_rfl) (by kernel_rfl) (by kernel_rfl) (fun _ _ _ h => h) (by rfl) (fun o ho w hSw => by cases ho; go_simp) hs ?_
        try simp only [Act.put, List.setIfInBounds_toArray, List.set_cons_zero, List.set_cons_succ]
        refine wpAnyH_done (by kernel_rfl) ?_ _
        refine NoPanic.normal ?_
        have HB9 := Lib.hid (below3 HB2.out hs.out)
        go_wp2
        go_ret
        exact ⟨rfl, HB9.out⟩
end Go.Proofs.Ytkgfcekcjehkdaa
