/- The law AspathCovers of chapter 17. -/
import Derived.Test.YteohdanlcaoaiaaDoorLaw17a
import Derived.Test.YteohdanlcaoaiaaDoorValidLaw
namespace Go.Proofs.YteohdanlcaoaiaaDoor
open Go.RowKit

theorem mem_take_succ {l : List Int} {j : Nat} {y z : Int} (hj : j < l.length) (hy : l.getD j 0 = y) : z ∈ l.take (j + 1) ↔ z ∈ l.take j ∨ y = z := by
  rw [List.getD_eq_getElem?_getD, List.getElem?_eq_getElem hj] at hy
  simp only [Option.getD_some] at hy
  rw [List.take_add_one, List.getElem?_eq_getElem hj, hy]
  simp only [Option.toList_some, List.mem_append, List.mem_singleton]
  constructor
  · rintro (h | h)
    · exact .inl h
    · exact .inr h.symm
  · rintro (h | h)
    · exact .inl h
    · exact .inr h.symm
theorem getD_mem {l : List Int} {j : Nat} (hj : j < l.length) : l.getD j 0 ∈ l := by
  rw [List.getD_eq_getElem?_getD, List.getElem?_eq_getElem hj]
  exact List.getElem_mem hj
set_option maxRecDepth 100000 in
set_option maxHeartbeats 4000000 in
theorem aspathCovers_walk (v v' : Value) (w : World) (hb : PathIn w v 1048576 ∧ PathIn w v' 1048576) (henv : Env w) :
    Calls Tryd.prog 3 #[v, v'] w fun e w' => e = .returned (.bool true) ∧ Below w.heap.size w w' := by
  obtain ⟨⟨A, n, c, p, rfl, hx, hbd⟩, B, m, d, q, rfl, hy, hbd'⟩ := hb
  have HX0 := Lib.hid hx
  have HY0 := Lib.hid hy
  have HL := Lib.hid hx.len
  have HM := Lib.hid hy.len
  have HENV := Lib.hid henv
  have HB0 : Hid (Below w.heap.size w w) := Below.refl _ _
  have hnl : p.length = n := hx.len
  have hml : q.length = m := hy.len
  have hn : n ≤ 1048576 := by omega
  have hm : m ≤ 1048576 := by omega
  have hf : (flat p).length ≤ 1048576 := by omega
  have hg : (flat q).length ≤ 1048576 := by omega
  clear hx hy henv hbd hbd'
  go_enter Tryd.func3, Tryd.ntmps3
  by_cases hL : 3000 < n + (flat p).length
  · have dL : decide (3000 < n + (flat p).length) = true := decide_eq_true hL
    go_wp2_with fail
    refine (large_any A n c p w HX0.out (by omega) (by omega)).mono ?_
    rintro e w1 ⟨rfl, hb1⟩
    rw [dL]
    have HB1 := Lib.hid (below3 HB0.out hb1)
    have HX1 := Lib.hid (HX0.out.grow hb1 (Nat.le_refl _))
    have HY1 := Lib.hid (HY0.out.grow hb1 (Nat.le_refl _))
    clear hb1 HB0 HX0 HY0
    go_wp2_with fail
    refine (awake_any w1 (HENV.out.below HB1.out)).mono ?_
    rintro e w2 ⟨rfl, hb2⟩
    have HB2 := Lib.hid (below3 HB1.out hb2)
    clear hb2
    go_wp2
    go_ret
    exact ⟨rfl, HB2.out⟩
  have dL : decide (3000 < n + (flat p).length) = false := decide_eq_false hL
  have HSM : Hid (Sm p) := by show Sm p; unfold Sm; omega
  go_wp2_with fail
  refine (large_any A n c p w HX0.out (by omega) (by omega)).mono ?_
  rintro e w1 ⟨rfl, hb1⟩
  rw [dL]
  have HB1 := Lib.hid (below3 HB0.out hb1)
  have HX1 := Lib.hid (HX0.out.grow hb1 (Nat.le_refl _))
  have HY1 := Lib.hid (HY0.out.grow hb1 (Nat.le_refl _))
  clear hb1 HB0 HX0 HY0
  clear dL hL hnl
  by_cases hL : 3000 < m + (flat q).length
  · have dL : decide (3000 < m + (flat q).length) = true := decide_eq_true hL
    go_wp2_with fail
    refine (large_any B m d q w1 HY1.out (by omega) (by omega)).mono ?_
    rintro e w2 ⟨rfl, hb2⟩
    rw [dL]
    have HB2 := Lib.hid (below3 HB1.out hb2)
    have HX2 := Lib.hid (HX1.out.grow hb2 (Nat.le_refl _))
    have HY2 := Lib.hid (HY1.out.grow hb2 (Nat.le_refl _))
    clear hb2 HB1 HX1 HY1
    go_wp2_with fail
    refine (awake_any w2 (HENV.out.below HB2.out)).mono ?_
    rintro e w3 ⟨rfl, hb3⟩
    have HB3 := Lib.hid (below3 HB2.out hb3)
    clear hb3
    go_wp2
    go_ret
    exact ⟨rfl, HB3.out⟩
  have dL : decide (3000 < m + (flat q).length) = false := decide_eq_false hL
  have HSQ : Hid (Sm q) := by show Sm q; unfold Sm; omega
  go_wp2_with fail
  refine (large_any B m d q w1 HY1.out (by omega) (by omega)).mono ?_
  rintro e w2 ⟨rfl, hb2⟩
  rw [dL]
  have HB2 := Lib.hid (below3 HB1.out hb2)
  have HX2 := Lib.hid (HX1.out.grow hb2 (Nat.le_refl _))
  have HY2 := Lib.hid (HY1.out.grow hb2 (Nat.le_refl _))
  clear hb2 HB1 HX1 HY1
  clear dL hL hml
  have hpn : n ≤ 1000000 := by have h1 := HSM.out; have h2 := HL.out; unfold Sm at h1; omega
  have hqm : m ≤ 1000000 := by have h1 := HSQ.out; have h2 := HM.out; unfold Sm at h1; omega
  obtain ⟨⟨x, g⟩, hmr⟩ : ∃ r, mergeR p q = r := ⟨_, rfl⟩
  have HMR := Lib.hid hmr
  clear hmr hf hg
  go_wp2_with fail
  refine (merge_any A B n c m d p q w2 HX2.out HY2.out HSM.out HSQ.out).mono ?_
  rintro e w3 ⟨A1, n1, c1, rfl, ho1, hb3⟩
  rw [HMR.out] at ho1 ⊢
  dsimp only at ho1 ⊢
  have HU3 := Lib.hid ho1.segs
  have HUL := Lib.hid ho1.len
  clear ho1
  have HB3 := Lib.hid (below3 HB2.out hb3)
  have HX3 := Lib.hid (HX2.out.grow hb3 (Nat.le_refl _))
  have HY3 := Lib.hid (HY2.out.grow hb3 (Nat.le_refl _))
  clear hb3 HB2 HX2 HY2
  by_cases hg : g = 0
  case neg =>
    have d2 : (g != 0) = true := by simp [hg]
    clear hg
    go_wp2_with fail
    refine (awake_any w3 (HENV.out.below HB3.out)).mono ?_
    rintro e w4 ⟨rfl, hb4⟩
    have HB4 := Lib.hid (below3 HB3.out hb4)
    clear hb4
    go_wp2
    go_ret
    exact ⟨rfl, HB4.out⟩
  subst hg
  obtain ⟨_, _, hsy, hv, hme⟩ := merge_law HMR.out
  have HSY := Lib.hid hsy
  have HV := Lib.hid hv
  have HME := Lib.hid hme
  have hxs := valid_sm hv
  have HSX : Hid (Sm x) := by show Sm x; unfold Sm; omega
  have hn1 : n1 ≤ 64 := by have := HUL.out; omega
  have hfx : (flat x).length ≤ 16320 := hxs.2
  have d3 : (0 != 0) = false := rfl
  clear hsy hv hme hxs HMR
  go_wp2_with fail
  refine (merge_any B A m d n c q p w3 HY3.out HX3.out HSQ.out HSM.out).mono ?_
  rintro e w4 ⟨A2, n2, c2, rfl, ho2, hb4⟩
  rw [HSY.out] at ho2 ⊢
  dsimp only at ho2 ⊢
  have HV4 := Lib.hid ho2.segs
  have hn2 : n2 ≤ 64 := by have := ho2.len; have := HUL.out; omega
  clear ho2
  have HB4 := Lib.hid (below3 HB3.out hb4)
  have HX4 := Lib.hid (HX3.out.grow hb4 (Nat.le_refl _))
  have HY4 := Lib.hid (HY3.out.grow hb4 (Nat.le_refl _))
  have HU4 := Lib.hid (HU3.out.grow hb4 (Nat.le_refl _))
  clear hb4 HB3 HX3 HY3 HU3
  go_wp2_with fail
  refine (samePath_any A1 A2 n1 c1 n2 c2 x x _ _ w4 HU4.out HV4.out (Nat.le_refl _) (Nat.le_refl _) (by omega) (by omega)).mono ?_
  rintro e w5 ⟨rfl, hb5⟩
  rw [decide_eq_true (rfl : x = x)]
  have HB5 := Lib.hid (below3 HB4.out hb5)
  have HX5 := Lib.hid (HX4.out.grow hb5 (Nat.le_refl _))
  have HY5 := Lib.hid (HY4.out.grow hb5 (Nat.le_refl _))
  have HU5 := Lib.hid (HU4.out.grow hb5 (Nat.le_refl _))
  clear hb5 HB4 HX4 HY4 HU4
  clear HV4 hn2 HSY
  go_wp2_with fail
  refine (check_any A1 n1 c1 x w5 HU5.out (by omega)).mono ?_
  rintro e w6 ⟨rfl, hb6⟩
  rw [HV.out]
  have HB6 := Lib.hid (below3 HB5.out hb6)
  have HX6 := Lib.hid (HX5.out.grow hb6 (Nat.le_refl _))
  have HY6 := Lib.hid (HY5.out.grow hb6 (Nat.le_refl _))
  have HU6 := Lib.hid (HU5.out.grow hb6 (Nat.le_refl _))
  clear hb6 HB5 HX5 HY5 HU5
  clear HV
  have hsp := sm_strip HSM.out
  have hsq := sm_strip HSQ.out
  have HSP := Lib.hid hsp
  have HSK := Lib.hid hsq
  have hl1 : (flat (stripR p)).length ≤ 1000000 := by unfold Sm at hsp; omega
  have hl2 : (flat (stripR q)).length ≤ 1000000 := by unfold Sm at hsq; omega
  have hq1 : (stripR p).length ≤ 1000000 := by unfold Sm at hsp; omega
  have hq2 : (stripR q).length ≤ 1000000 := by unfold Sm at hsq; omega
  clear hsp hsq
  go_wp2_with fail
  refine (refStrip_any A n c _ p w6 HX6.out (Nat.le_refl _) HSM.out).mono ?_
  rintro e w7 ⟨A3, n3, c3, rfl, ho3, hb7⟩
  have HS7 := Lib.hid ho3.segs
  have hn3 : n3 ≤ 1000000 := by have := ho3.len; omega
  clear ho3
  have HB7 := Lib.hid (below3 HB6.out hb7)
  have HX7 := Lib.hid (HX6.out.grow hb7 (Nat.le_refl _))
  have HY7 := Lib.hid (HY6.out.grow hb7 (Nat.le_refl _))
  have HU7 := Lib.hid (HU6.out.grow hb7 (Nat.le_refl _))
  clear hb7 HB6 HX6 HY6 HU6
  go_wp2_with fail
  refine (refFlat_any A3 n3 c3 (stripR p) w7 HS7.out (by omega) (by omega)).mono ?_
  rintro e w8 ⟨A4, c4, rfl, ho4, hb8⟩
  have HO8 := Lib.hid ho4
  have HF8 := Lib.hid hb8
  clear ho4 HS7 hn3
  have HBZ := HB7
  have HUZ := HU7
  have HB8 := Lib.hid (below3 HB7.out hb8)
  have HX8 := Lib.hid (HX7.out.grow hb8 (Nat.le_refl _))
  have HY8 := Lib.hid (HY7.out.grow hb8 (Nat.le_refl _))
  have HU8 := Lib.hid (HU7.out.grow hb8 (Nat.le_refl _))
  clear hb8 HB7 HX7 HY7 HU7
  go_wp2_with fail
  refine (refStrip_any B m d _ q w8 HY8.out (Nat.le_refl _) HSQ.out).mono ?_
  rintro e w9 ⟨A5, n5, c5, rfl, ho5, hb9⟩
  have HS9 := Lib.hid ho5.segs
  have hn5 : n5 ≤ 1000000 := by have := ho5.len; omega
  clear ho5
  have HO9 := Lib.hid (row_below HO8.out hb9)
  have HF9 := Lib.hid (HF8.out.trans (hb9.mono HF8.out.size))
  clear HO8 HF8
  have HB9 := Lib.hid (below3 HB8.out hb9)
  have HX9 := Lib.hid (HX8.out.grow hb9 (Nat.le_refl _))
  have HY9 := Lib.hid (HY8.out.grow hb9 (Nat.le_refl _))
  have HU9 := Lib.hid (HU8.out.grow hb9 (Nat.le_refl _))
  clear hb9 HB8 HX8 HY8 HU8
  go_wp2_with fail
  refine (refFlat_any A5 n5 c5 (stripR q) w9 HS9.out (by omega) (by omega)).mono ?_
  rintro e w10 ⟨A6, c6, rfl, ho6, hb10⟩
  have HI := Lib.hid ho6.ints
  clear ho6 HS9 hn5
  have HO10 := Lib.hid (row_below HO9.out hb10)
  have HF10 := Lib.hid (HF9.out.trans (hb10.mono HF9.out.size))
  clear HO9 HF9
  have HB10 := Lib.hid (below3 HB9.out hb10)
  have HX10 := Lib.hid (HX9.out.grow hb10 (Nat.le_refl _))
  have HY10 := Lib.hid (HY9.out.grow hb10 (Nat.le_refl _))
  have HU10 := Lib.hid (HU9.out.grow hb10 (Nat.le_refl _))
  clear hb10 HB9 HX9 HY9 HU9
  obtain ⟨A', c', w', hrun, ho', hb'⟩ := push_ints HO10.out HI.out HF10.out.size (by omega)
  have HR := Lib.hid hrun
  have HBF := Lib.hid (HF10.out.trans hb')
  have HBP : Hid (Below w.heap.size w w') := below3 HBZ.out HBF.out
  have HUP : Hid (Segs w' w'.heap.size A1 n1 c1 x) := HUZ.out.grow HBF.out (Nat.le_refl _)
  obtain ⟨L1, hL1⟩ : ∃ l, flat (stripR p) = l := ⟨_, rfl⟩
  obtain ⟨L2, hL2⟩ : ∃ l, flat (stripR q) = l := ⟨_, rfl⟩
  rw [hL1, hL2] at ho' HME HR
  rw [hL1] at hl1 ⊢
  rw [hL2] at hl2 ⊢
  have hLL : (L1 ++ L2).length = L1.length + L2.length := List.length_append
  obtain ⟨N, hN⟩ : ∃ N, L1.length + L2.length = N := ⟨_, rfl⟩
  have hN2 : N ≤ 2000000 := by omega
  have HME2 : Hid (∀ z, z ∈ flat x ↔ z ∈ L1 ++ L2) := fun z => by rw [HME.out z, List.mem_append]
  obtain ⟨LL, hLd⟩ : ∃ l, L1 ++ L2 = l := ⟨_, rfl⟩
  rw [hLd, hN] at ho' hLL
  rw [hLd] at HME2
  rw [hN] at HR
  have HBO := Lib.hid ho'.ints
  have HLL := Lib.hid hLL
  clear HO10 HI HF10 HU10 HB10 HX10 HY10 HUZ HBZ HBF HSP HSK hq1 hq2 hb' ho' hrun HME hLd hLL hl1 hl2
  go_wp2_with (at_builtin; refine wpList_append_run rfl _ _ _ rfl rfl rfl HR.out ?_)
  clear HR hL1 hL2 hN
  go_loopw [62] (fun i wr => ∃ k : Nat, k ≤ N ∧ i = .int .i64 k ∧ Hid (Below w'.heap.size w' wr)) (fun i _ => N - (intOf i).toNat)
  case atStart => exact ⟨0, Nat.zero_le _, rfl, Below.refl _ _⟩
  case round =>
    obtain ⟨k, hk, rfl, hbr⟩ := hrel
    by_cases hlt : k < N
    case pos =>
      obtain ⟨b, o, y, rfl, hbb, gy, hy⟩ := (HBO.out.below hbr.out).cell hlt
      have hmem : y ∈ flat x := by rw [HME2.out y, ← hy.out]; exact getD_mem (by rw [HLL.out]; exact hlt)
      have HY := Lib.hid hmem
      clear hy hmem
      go_wp2_with fail
      refine (refHas_any A1 n1 c1 x y wr (HUP.out.grow hbr.out (Nat.le_refl _)) HSX.out).mono ?_
      rintro e wh ⟨rfl, hbh⟩
      rw [decide_eq_true HY.out]
      have HBH := Lib.hid (below3 hbr.out hbh)
      clear hbh hbr HY
      go_wp2_with fail
      go_roundw
      case rel => exact ⟨k + 1, by omega, by go_num, HBH⟩
      case measure => simp [intOf]; omega
    obtain rfl : k = N := by omega
    have HBR := hbr
    clear hbr
    go_wp2_with fail
    refine (refFlat_any A1 n1 c1 x wr (HUP.out.grow HBR.out (Nat.le_refl _)) (by omega) (by omega)).mono ?_
    rintro e wf ⟨A7, c7, rfl, ho7, hb7⟩
    have HJ := Lib.hid ho7.ints
    have HBF := Lib.hid (below3 HBR.out hb7)
    clear ho7 hb7
    obtain ⟨fx, hfx2⟩ : ∃ l, flat x = l := ⟨_, rfl⟩
    rw [hfx2] at HJ HME2 hfx ⊢
    obtain ⟨M, hM⟩ : ∃ M, fx.length = M := ⟨_, rfl⟩
    have HMM := Lib.hid hM
    rw [hM] at HJ hfx ⊢
    have HOF : Hid (Ints wf wf.heap.size .i64 A' k c' LL) := (HBO.out.below HBF.out).more HBF.out.size
    have HBWF : Hid (Below w.heap.size w wf) := below3 HBP.out HBF.out
    clear hM hfx2 HBR HBF HBO HUP HBP hlt
    go_wp2_with fail
    go_loop [74] (fun i => ∃ s : Nat, s ≤ M ∧ i = .int .i64 s) (fun i => M - (intOf i).toNat)
    case atStart => exact ⟨0, Nat.zero_le _, rfl⟩
    case round =>
      obtain ⟨s, hs, rfl⟩ := hrel
      by_cases hst : s < M
      case neg =>
        go_wp2_with fail
        refine (awake_any wf (HENV.out.below HBWF.out)).mono ?_
        rintro e w2 ⟨rfl, hb2⟩
        have HB2 := Lib.hid (below3 HBWF.out hb2)
        clear hb2
        go_wp2
        go_ret
        exact ⟨rfl, HB2.out⟩
      obtain ⟨b, o, z, hA7, hbb, gz, hz⟩ := HJ.out.cell hst
      have hmem : z ∈ LL := by rw [← HME2.out z, ← hz.out]; exact getD_mem (by rw [HMM.out]; exact hst)
      have HZ := Lib.hid hmem
      subst hA7
      clear hz hmem
      go_wp2_with fail
      go_loop [14, 80] (fun f i => ∃ (j : Nat) (t : Bool), j ≤ k ∧ i = .int .i64 j ∧ f = .bool t ∧ Hid (t = true ↔ z ∈ LL.take j)) (fun _ i => k - (intOf i).toNat)
      case atStart => exact ⟨0, false, Nat.zero_le _, rfl, rfl, by show _ ↔ _; simp⟩
      case round =>
        obtain ⟨j, t, hj, rfl, rfl, ht⟩ := hrel
        by_cases hjk : j < k
        case neg =>
          obtain rfl : j = k := by omega
          obtain rfl : t = true := ht.out.2 (by rw [List.take_of_length_le (by rw [HLL.out]; exact Nat.le_refl _)]; exact HZ.out)
          clear ht
          go_wp2_with fail
          go_round
          case rel => exact ⟨s + 1, by omega, by go_num⟩
          case measure => simp [intOf]; omega
        obtain ⟨b2, o2, y, hA', hbb2, gy, hy⟩ := HOF.out.cell hjk
        subst hA'
        have hstep := fun z => mem_take_succ (l := LL) (j := j) (z := z) (by rw [HLL.out]; exact hjk) hy.out
        have HST := Lib.hid hstep
        clear hstep hy
        cases t with
        | true =>
          have HT : Hid (true = true ↔ z ∈ LL.take (j + 1)) := by
            show _ ↔ _
            rw [HST.out z]
            exact ⟨fun h => .inl (ht.out.1 h), fun _ => rfl⟩
          clear ht HST
          go_wp2_with fail
          go_round
          case rel => exact ⟨j + 1, true, by omega, by go_num, rfl, HT⟩
          case measure => simp [intOf]; omega
        | false =>
          by_cases hyz : y = z
          · subst hyz
            have HT : Hid (true = true ↔ y ∈ LL.take (j + 1)) := by
              show _ ↔ _
              rw [HST.out y]
              exact ⟨fun _ => .inr rfl, fun _ => rfl⟩
            have d8 : (y == y) = true := by simp
            clear ht HST
            go_wp2_with fail
            go_round
            case rel => exact ⟨j + 1, true, by omega, by go_num, rfl, HT⟩
            case measure => simp [intOf]; omega
          · have HT : Hid (false = true ↔ z ∈ LL.take (j + 1)) := by
              show _ ↔ _
              rw [HST.out z]
              constructor
              · intro h
                cases h
              · rintro (h | h)
                · exact ht.out.2 h
                · exact absurd h hyz
            have d8 : (y == z) = false := by simp [hyz]
            clear ht HST hyz
            go_wp2_with fail
            go_round
            case rel => exact ⟨j + 1, false, by omega, by go_num, rfl, HT⟩
            case measure => simp [intOf]; omega
end Go.Proofs.YteohdanlcaoaiaaDoor
