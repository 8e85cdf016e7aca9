/- The laws of chapter 17: Check, Same, Numbers, Back. -/
import Derived.Test.YteohdanlcaoaiaaDoorBSegs
import Derived.Test.YteohdanlcaoaiaaDoorAwake17
import Derived.Test.YteohdanlcaoaiaaDoorRefText
namespace Go.Proofs.YteohdanlcaoaiaaDoor
open Go.RowKit

set_option maxRecDepth 100000 in
set_option maxHeartbeats 4000000 in
theorem aspathCheck_walk (v : Value) (w : World) (hb : PathIn w v 1048576) (henv : Env w) :
    Calls Tryd.prog 5 #[v] w fun e w' => e = .returned (.bool true) ∧ Below w.heap.size w w' := by
  obtain ⟨A, n, c, p, rfl, hx, hbd⟩ := hb
  have HX0 := Lib.hid hx
  have HL := Lib.hid hx.len
  have HENV := Lib.hid henv
  have HB0 : Hid (Below w.heap.size w w) := Below.refl _ _
  have hnl : p.length = n := hx.len
  have hn : n ≤ 1048576 := by omega
  have hf : (flat p).length ≤ 1048576 := by omega
  clear hx henv hbd
  go_enter Tryd.func5, Tryd.ntmps5
  by_cases hL : 3000 < n + (flat p).length
  · have dL : decide (3000 < n + (flat p).length) = true := decide_eq_true hL
    go_wp2_with fail
    refine (large_any A n c p w HX0.out (by omega) (by omega)).mono ?_
    rintro e w1 ⟨rfl, hb1⟩
    rw [dL]
    have HB1 := Lib.hid (below3 HB0.out hb1)
    have HX1 := Lib.hid (HX0.out.grow hb1 (Nat.le_refl _))
    clear hb1 HB0 HX0
    go_wp2_with fail
    refine (awake_any w1 (HENV.out.below HB1.out)).mono ?_
    rintro e w2 ⟨rfl, hb2⟩
    have HB2 := Lib.hid (below3 HB1.out hb2)
    clear hb2
    go_wp2
    go_ret
    exact ⟨rfl, HB2.out⟩
  have dL : decide (3000 < n + (flat p).length) = false := decide_eq_false hL
  have HSM : Hid (Sm p) := by show Sm p; unfold Sm; omega
  go_wp2_with fail
  refine (large_any A n c p w HX0.out (by omega) (by omega)).mono ?_
  rintro e w1 ⟨rfl, hb1⟩
  rw [dL]
  have HB1 := Lib.hid (below3 HB0.out hb1)
  have HX1 := Lib.hid (HX0.out.grow hb1 (Nat.le_refl _))
  clear hb1 HB0 HX0
  clear dL hL hnl
  go_wp2_with fail
  refine (check_any A n c p w1 HX1.out (by omega)).mono ?_
  rintro e w2 ⟨rfl, hb2⟩
  have HB2 := Lib.hid (below3 HB1.out hb2)
  have HX2 := Lib.hid (HX1.out.grow hb2 (Nat.le_refl _))
  clear hb2 HB1 HX1
  go_wp2_with fail
  refine (refCheck_any A n c _ p w2 HX2.out (Nat.le_refl _) (by omega)).mono ?_
  rintro e w3 ⟨rfl, hb3⟩
  have HB3 := Lib.hid (below3 HB2.out hb3)
  have HX3 := Lib.hid (HX2.out.grow hb3 (Nat.le_refl _))
  clear hb3 HB2 HX2
  go_wp2_with fail
  refine (awake_any w3 (HENV.out.below HB3.out)).mono ?_
  rintro e w4 ⟨rfl, hb4⟩
  have HB4 := Lib.hid (below3 HB3.out hb4)
  clear hb4
  go_wp2
  go_ret
  exact ⟨rfl, HB4.out⟩
set_option maxRecDepth 100000 in
set_option maxHeartbeats 4000000 in
theorem aspathNumbers_walk (v : Value) (x : Int) (w : World) (_hx : (Lit.int .i64 x).wf = true) (hb : PathIn w v 1048576) (henv : Env w) :
    Calls Tryd.prog 6 #[v, .int .i64 x] w fun e w' => e = .returned (.bool true) ∧ Below w.heap.size w w' := by
  obtain ⟨A, n, c, p, rfl, hx, hbd⟩ := hb
  have HX0 := Lib.hid hx
  have HL := Lib.hid hx.len
  have HENV := Lib.hid henv
  have HB0 : Hid (Below w.heap.size w w) := Below.refl _ _
  have hnl : p.length = n := hx.len
  have hn : n ≤ 1048576 := by omega
  have hf : (flat p).length ≤ 1048576 := by omega
  clear hx henv hbd
  go_enter Tryd.func6, Tryd.ntmps6
  by_cases hL : 3000 < n + (flat p).length
  · have dL : decide (3000 < n + (flat p).length) = true := decide_eq_true hL
    go_wp2_with fail
    refine (large_any A n c p w HX0.out (by omega) (by omega)).mono ?_
    rintro e w1 ⟨rfl, hb1⟩
    rw [dL]
    have HB1 := Lib.hid (below3 HB0.out hb1)
    have HX1 := Lib.hid (HX0.out.grow hb1 (Nat.le_refl _))
    clear hb1 HB0 HX0
    go_wp2_with fail
    refine (awake_any w1 (HENV.out.below HB1.out)).mono ?_
    rintro e w2 ⟨rfl, hb2⟩
    have HB2 := Lib.hid (below3 HB1.out hb2)
    clear hb2
    go_wp2
    go_ret
    exact ⟨rfl, HB2.out⟩
  have dL : decide (3000 < n + (flat p).length) = false := decide_eq_false hL
  have HSM : Hid (Sm p) := by show Sm p; unfold Sm; omega
  go_wp2_with fail
  refine (large_any A n c p w HX0.out (by omega) (by omega)).mono ?_
  rintro e w1 ⟨rfl, hb1⟩
  rw [dL]
  have HB1 := Lib.hid (below3 HB0.out hb1)
  have HX1 := Lib.hid (HX0.out.grow hb1 (Nat.le_refl _))
  clear hb1 HB0 HX0
  clear dL hL hnl
  go_wp2_with fail
  refine (first_any A n c p w1 HX1.out (by omega)).mono ?_
  rintro e w2 ⟨rfl, hb2⟩
  have HB2 := Lib.hid (below3 HB1.out hb2)
  have HX2 := Lib.hid (HX1.out.grow hb2 (Nat.le_refl _))
  clear hb2 HB1 HX1
  go_wp2_with fail
  refine (refFirst_any A n c p w2 HX2.out (by omega)).mono ?_
  rintro e w3 ⟨rfl, hb3⟩
  have HB3 := Lib.hid (below3 HB2.out hb3)
  have HX3 := Lib.hid (HX2.out.grow hb3 (Nat.le_refl _))
  clear hb3 HB2 HX2
  go_wp2_with fail
  refine (origin_any A n c p w3 HX3.out (by omega)).mono ?_
  rintro e w4 ⟨rfl, hb4⟩
  have HB4 := Lib.hid (below3 HB3.out hb4)
  have HX4 := Lib.hid (HX3.out.grow hb4 (Nat.le_refl _))
  clear hb4 HB3 HX3
  go_wp2_with fail
  refine (refOrigin_any A n c p w4 HX4.out (by omega)).mono ?_
  rintro e w5 ⟨rfl, hb5⟩
  have HB5 := Lib.hid (below3 HB4.out hb5)
  have HX5 := Lib.hid (HX4.out.grow hb5 (Nat.le_refl _))
  clear hb5 HB4 HX4
  go_wp2_with fail
  refine (length_any A n c p w5 HX5.out HSM.out).mono ?_
  rintro e w6 ⟨rfl, hb6⟩
  have HB6 := Lib.hid (below3 HB5.out hb6)
  have HX6 := Lib.hid (HX5.out.grow hb6 (Nat.le_refl _))
  clear hb6 HB5 HX5
  go_wp2_with fail
  refine (refLength_any A n c p w6 HX6.out HSM.out).mono ?_
  rintro e w7 ⟨rfl, hb7⟩
  have HB7 := Lib.hid (below3 HB6.out hb7)
  have HX7 := Lib.hid (HX6.out.grow hb7 (Nat.le_refl _))
  clear hb7 HB6 HX6
  go_wp2_with fail
  refine (has_any A n c p x w7 HX7.out HSM.out).mono ?_
  rintro e w8 ⟨rfl, hb8⟩
  have HB8 := Lib.hid (below3 HB7.out hb8)
  have HX8 := Lib.hid (HX7.out.grow hb8 (Nat.le_refl _))
  clear hb8 HB7 HX7
  go_wp2_with fail
  refine (refHas_any A n c p x w8 HX8.out HSM.out).mono ?_
  rintro e w9 ⟨rfl, hb9⟩
  have HB9 := Lib.hid (below3 HB8.out hb9)
  have HX9 := Lib.hid (HX8.out.grow hb9 (Nat.le_refl _))
  clear hb9 HB8 HX8
  go_wp2_with fail
  refine (strip_any A n c _ p w9 HX9.out (Nat.le_refl _) HSM.out).mono ?_
  rintro e w10 ⟨A1, n1, c1, rfl, ho1, hb10⟩
  have HS10 := Lib.hid ho1.segs
  clear ho1
  have HB10 := Lib.hid (below3 HB9.out hb10)
  have HX10 := Lib.hid (HX9.out.grow hb10 (Nat.le_refl _))
  clear hb10 HB9 HX9
  go_wp2_with fail
  refine (refStrip_any A n c _ p w10 HX10.out (Nat.le_refl _) HSM.out).mono ?_
  rintro e w11 ⟨A2, n2, c2, rfl, ho2, hb11⟩
  have HT11 := Lib.hid ho2.segs
  clear ho2
  have HB11 := Lib.hid (below3 HB10.out hb11)
  have HX11 := Lib.hid (HX10.out.grow hb11 (Nat.le_refl _))
  have HS11 := Lib.hid (HS10.out.grow hb11 (Nat.le_refl _))
  clear hb11 HB10 HX10 HS10
  have hss := sm_strip HSM.out
  have hn1 : n1 ≤ 1000000 := by have := HS11.out.len; unfold Sm at hss; omega
  have hn2 : n2 ≤ 1000000 := by have := HT11.out.len; unfold Sm at hss; omega
  clear hss
  go_wp2_with fail
  refine (refSamePath_any A1 A2 n1 c1 n2 c2 (stripR p) (stripR p) _ _ w11 HS11.out HT11.out (Nat.le_refl _) (Nat.le_refl _) (by omega) (by omega)).mono ?_
  rintro e w12 ⟨rfl, hb12⟩
  rw [decide_eq_true (rfl : stripR p = stripR p)]
  have HB12 := Lib.hid (below3 HB11.out hb12)
  have HX12 := Lib.hid (HX11.out.grow hb12 (Nat.le_refl _))
  have HS12 := Lib.hid (HS11.out.grow hb12 (Nat.le_refl _))
  have HT12 := Lib.hid (HT11.out.grow hb12 (Nat.le_refl _))
  clear hb12 HB11 HX11 HS11 HT11
  go_wp2_with fail
  refine (flat_any A n c p w12 HX12.out (by omega) (by omega)).mono ?_
  rintro e w13 ⟨A3, c3, rfl, ho3, hb13⟩
  have HF13 := Lib.hid ho3.ints
  clear ho3
  have HB13 := Lib.hid (below3 HB12.out hb13)
  have HX13 := Lib.hid (HX12.out.grow hb13 (Nat.le_refl _))
  clear hb13 HB12 HX12
  go_wp2_with fail
  refine (refFlat_any A n c p w13 HX13.out (by omega) (by omega)).mono ?_
  rintro e w14 ⟨A4, c4, rfl, ho4, hb14⟩
  have HG14 := Lib.hid ho4.ints
  have HF14 := Lib.hid ((HF13.out.below hb14).more hb14.size)
  clear ho4
  have HB14 := Lib.hid (below3 HB13.out hb14)
  have HX14 := Lib.hid (HX13.out.grow hb14 (Nat.le_refl _))
  clear hb14 HB13 HX13
  go_wp2_with fail
  refine (nums_any A3 A4 _ c3 _ c4 _ _ (flat p) (flat p) w14 HF14.out HG14.out).mono ?_
  rintro e w15 ⟨rfl, hb15⟩
  rw [decide_eq_true (rfl : flat p = flat p)]
  have HB15 := Lib.hid (below3 HB14.out hb15)
  have HX15 := Lib.hid (HX14.out.grow hb15 (Nat.le_refl _))
  clear hb15 HB14 HX14
  go_wp2_with fail
  refine (awake_any w15 (HENV.out.below HB15.out)).mono ?_
  rintro e w16 ⟨rfl, hb16⟩
  have HB16 := Lib.hid (below3 HB15.out hb16)
  clear hb16
  go_wp2
  go_ret
  exact ⟨rfl, HB16.out⟩
set_option maxRecDepth 100000 in
set_option maxHeartbeats 4000000 in
theorem aspathBack_walk (v : Value) (w : World) (hb : PathIn w v 1048576) (henv : Env w) :
    Calls Tryd.prog 8 #[v] w fun e w' => e = .returned (.bool true) ∧ Below w.heap.size w w' := by
  obtain ⟨A, n, c, p, rfl, hx, hbd⟩ := hb
  have HX0 := Lib.hid hx
  have HL := Lib.hid hx.len
  have HENV := Lib.hid henv
  have HB0 : Hid (Below w.heap.size w w) := Below.refl _ _
  have hnl : p.length = n := hx.len
  have hn : n ≤ 1048576 := by omega
  have hf : (flat p).length ≤ 1048576 := by omega
  clear hx henv hbd
  go_enter Tryd.func8, Tryd.ntmps8
  by_cases hL : 3000 < n + (flat p).length
  · have dL : decide (3000 < n + (flat p).length) = true := decide_eq_true hL
    go_wp2_with fail
    refine (large_any A n c p w HX0.out (by omega) (by omega)).mono ?_
    rintro e w1 ⟨rfl, hb1⟩
    rw [dL]
    have HB1 := Lib.hid (below3 HB0.out hb1)
    have HX1 := Lib.hid (HX0.out.grow hb1 (Nat.le_refl _))
    clear hb1 HB0 HX0
    go_wp2_with fail
    refine (awake_any w1 (HENV.out.below HB1.out)).mono ?_
    rintro e w2 ⟨rfl, hb2⟩
    have HB2 := Lib.hid (below3 HB1.out hb2)
    clear hb2
    go_wp2
    go_ret
    exact ⟨rfl, HB2.out⟩
  have dL : decide (3000 < n + (flat p).length) = false := decide_eq_false hL
  have hsz : n + (flat p).length ≤ 3000 := by omega
  have HSM : Hid (Sm p) := by show Sm p; unfold Sm; omega
  go_wp2_with fail
  refine (large_any A n c p w HX0.out (by omega) (by omega)).mono ?_
  rintro e w1 ⟨rfl, hb1⟩
  rw [dL]
  have HB1 := Lib.hid (below3 HB0.out hb1)
  have HX1 := Lib.hid (HX0.out.grow hb1 (Nat.le_refl _))
  clear hb1 HB0 HX0
  clear dL hL hnl
  go_wp2_with fail
  refine (text_any A n c p w1 HX1.out HSM.out (HENV.out.below HB1.out)).mono ?_
  rintro e w2 ⟨rfl, hb2⟩
  have HB2 := Lib.hid (below3 HB1.out hb2)
  have HX2 := Lib.hid (HX1.out.grow hb2 (Nat.le_refl _))
  clear hb2 HB1 HX1
  go_wp2_with fail
  refine (refText_any A n c p w2 HX2.out HSM.out).mono ?_
  rintro e w3 ⟨rfl, hb3⟩
  have HB3 := Lib.hid (below3 HB2.out hb3)
  have HX3 := Lib.hid (HX2.out.grow hb3 (Nat.le_refl _))
  clear hb3 HB2 HX2
  by_cases he : pathErr p = 0
  case neg =>
    have ht : textR p = ([], pathErr p) := if_neg he
    obtain ⟨g, hg⟩ : ∃ g, pathErr p = g := ⟨_, rfl⟩
    rw [hg] at ht he
    rw [ht]
    have d1 : (g != 0) = true := by simp [he]
    clear ht hg he
    dsimp only
    obtain ⟨sb, hsb⟩ : ∃ b, strB [] = b := ⟨_, rfl⟩
    rw [hsb]
    clear hsb
    go_wp2_with fail
    refine (awake_any w3 (HENV.out.below HB3.out)).mono ?_
    rintro e w4 ⟨rfl, hb4⟩
    have HB4 := Lib.hid (below3 HB3.out hb4)
    clear hb4
    go_wp2
    go_ret
    exact ⟨rfl, HB4.out⟩
  have ht : textR p = (txt p, 0) := if_pos he
  have HPB := Lib.hid (parse_back he)
  have hts : (strB (txt p)).size ≤ 200000 := by
    rw [strB_size]
    have h1 := txt_short (valid_range he)
    have h2 := HL.out
    omega
  rw [ht]
  dsimp only
  obtain ⟨sb, hsb⟩ : ∃ b, strB (txt p) = b := ⟨_, rfl⟩
  rw [hsb] at HPB hts ⊢
  clear ht hsb he
  go_wp2_with fail
  refine (parse_any sb w3 hts (HENV.out.below HB3.out)).mono ?_
  rintro e w4 ⟨A1, n1, c1, rfl, ho1, hb4⟩
  rw [HPB.out] at ho1 ⊢
  dsimp only at ho1 ⊢
  have HS4 := Lib.hid ho1.segs
  have hn1 : n1 = n := by rw [← ho1.len]; exact HL.out
  subst hn1
  clear ho1
  have HB4 := Lib.hid (below3 HB3.out hb4)
  have HX4 := Lib.hid (HX3.out.grow hb4 (Nat.le_refl _))
  clear hb4 HB3 HX3
  go_wp2_with fail
  refine (refSamePath_any A A1 n1 c n1 c1 p p _ _ w4 HX4.out HS4.out (Nat.le_refl _) (Nat.le_refl _) (by omega) (by omega)).mono ?_
  rintro e w5 ⟨rfl, hb5⟩
  rw [decide_eq_true (rfl : p = p)]
  have HB5 := Lib.hid (below3 HB4.out hb5)
  have HX5 := Lib.hid (HX4.out.grow hb5 (Nat.le_refl _))
  have HS5 := Lib.hid (HS4.out.grow hb5 (Nat.le_refl _))
  clear hb5 HB4 HX4 HS4
  go_wp2_with fail
  refine (awake_any w5 (HENV.out.below HB5.out)).mono ?_
  rintro e w6 ⟨rfl, hb6⟩
  have HB6 := Lib.hid (below3 HB5.out hb6)
  clear hb6
  go_wp2
  go_ret
  exact ⟨rfl, HB6.out⟩
set_option maxRecDepth 100000 in
set_option maxHeartbeats 4000000 in
theorem aspathSame_walk (v v' : Value) (w : World) (hb : PathIn w v 1048576 ∧ PathIn w v' 1048576) (henv : Env w) :
    Calls Tryd.prog 4 #[v, v'] w fun e w' => e = .returned (.bool true) ∧ Below w.heap.size w w' := by
  obtain ⟨⟨A, n, c, p, rfl, hx, hbd⟩, B, m, d, q, rfl, hy, hbd'⟩ := hb
  have HX0 := Lib.hid hx
  have HY0 := Lib.hid hy
  have HL := Lib.hid hx.len
  have HM := Lib.hid hy.len
  have HENV := Lib.hid henv
  have HB0 : Hid (Below w.heap.size w w) := Below.refl _ _
  have hnl : p.length = n := hx.len
  have hml : q.length = m := hy.len
  have hn : n ≤ 1048576 := by omega
  have hm : m ≤ 1048576 := by omega
  have hf : (flat p).length ≤ 1048576 := by omega
  have hg : (flat q).length ≤ 1048576 := by omega
  clear hx hy henv hbd hbd'
  go_enter Tryd.func4, Tryd.ntmps4
  by_cases hL : 3000 < n + (flat p).length
  · have dL : decide (3000 < n + (flat p).length) = true := decide_eq_true hL
    go_wp2_with fail
    refine (large_any A n c p w HX0.out (by omega) (by omega)).mono ?_
    rintro e w1 ⟨rfl, hb1⟩
    rw [dL]
    have HB1 := Lib.hid (below3 HB0.out hb1)
    have HX1 := Lib.hid (HX0.out.grow hb1 (Nat.le_refl _))
    have HY1 := Lib.hid (HY0.out.grow hb1 (Nat.le_refl _))
    clear hb1 HB0 HX0 HY0
    go_wp2_with fail
    refine (awake_any w1 (HENV.out.below HB1.out)).mono ?_
    rintro e w2 ⟨rfl, hb2⟩
    have HB2 := Lib.hid (below3 HB1.out hb2)
    clear hb2
    go_wp2
    go_ret
    exact ⟨rfl, HB2.out⟩
  have dL : decide (3000 < n + (flat p).length) = false := decide_eq_false hL
  have HSM : Hid (Sm p) := by show Sm p; unfold Sm; omega
  go_wp2_with fail
  refine (large_any A n c p w HX0.out (by omega) (by omega)).mono ?_
  rintro e w1 ⟨rfl, hb1⟩
  rw [dL]
  have HB1 := Lib.hid (below3 HB0.out hb1)
  have HX1 := Lib.hid (HX0.out.grow hb1 (Nat.le_refl _))
  have HY1 := Lib.hid (HY0.out.grow hb1 (Nat.le_refl _))
  clear hb1 HB0 HX0 HY0
  clear dL hL hnl
  by_cases hL : 3000 < m + (flat q).length
  · have dL : decide (3000 < m + (flat q).length) = true := decide_eq_true hL
    go_wp2_with fail
    refine (large_any B m d q w1 HY1.out (by omega) (by omega)).mono ?_
    rintro e w2 ⟨rfl, hb2⟩
    rw [dL]
    have HB2 := Lib.hid (below3 HB1.out hb2)
    have HX2 := Lib.hid (HX1.out.grow hb2 (Nat.le_refl _))
    have HY2 := Lib.hid (HY1.out.grow hb2 (Nat.le_refl _))
    clear hb2 HB1 HX1 HY1
    go_wp2_with fail
    refine (awake_any w2 (HENV.out.below HB2.out)).mono ?_
    rintro e w3 ⟨rfl, hb3⟩
    have HB3 := Lib.hid (below3 HB2.out hb3)
    clear hb3
    go_wp2
    go_ret
    exact ⟨rfl, HB3.out⟩
  have dL : decide (3000 < m + (flat q).length) = false := decide_eq_false hL
  have HSQ : Hid (Sm q) := by show Sm q; unfold Sm; omega
  go_wp2_with fail
  refine (large_any B m d q w1 HY1.out (by omega) (by omega)).mono ?_
  rintro e w2 ⟨rfl, hb2⟩
  rw [dL]
  have HB2 := Lib.hid (below3 HB1.out hb2)
  have HX2 := Lib.hid (HX1.out.grow hb2 (Nat.le_refl _))
  have HY2 := Lib.hid (HY1.out.grow hb2 (Nat.le_refl _))
  clear hb2 HB1 HX1 HY1
  clear dL hL hml
  go_wp2_with fail
  refine (samePath_any A B n c m d p q _ _ w2 HX2.out HY2.out (Nat.le_refl _) (Nat.le_refl _) (by omega) (by omega)).mono ?_
  rintro e w3 ⟨rfl, hb3⟩
  have HB3 := Lib.hid (below3 HB2.out hb3)
  have HX3 := Lib.hid (HX2.out.grow hb3 (Nat.le_refl _))
  have HY3 := Lib.hid (HY2.out.grow hb3 (Nat.le_refl _))
  clear hb3 HB2 HX2 HY2
  go_wp2_with fail
  refine (refSamePath_any A B n c m d p q _ _ w3 HX3.out HY3.out (Nat.le_refl _) (Nat.le_refl _) (by omega) (by omega)).mono ?_
  rintro e w4 ⟨rfl, hb4⟩
  have HB4 := Lib.hid (below3 HB3.out hb4)
  have HX4 := Lib.hid (HX3.out.grow hb4 (Nat.le_refl _))
  have HY4 := Lib.hid (HY3.out.grow hb4 (Nat.le_refl _))
  clear hb4 HB3 HX3 HY3
  obtain ⟨sm, hsm⟩ : ∃ b, decide (p = q) = b := ⟨_, rfl⟩
  rw [hsm]
  clear hsm
  have dsm : (sm == sm) = true := by simp
  go_wp2_with fail
  refine (samePath_any A A n c n c p p _ _ w4 HX4.out HX4.out (Nat.le_refl _) (Nat.le_refl _) (by omega) (by omega)).mono ?_
  rintro e w5 ⟨rfl, hb5⟩
  rw [decide_eq_true (rfl : p = p)]
  have HB5 := Lib.hid (below3 HB4.out hb5)
  have HX5 := Lib.hid (HX4.out.grow hb5 (Nat.le_refl _))
  have HY5 := Lib.hid (HY4.out.grow hb5 (Nat.le_refl _))
  clear hb5 HB4 HX4 HY4
  go_wp2_with fail
  refine (awake_any w5 (HENV.out.below HB5.out)).mono ?_
  rintro e w6 ⟨rfl, hb6⟩
  have HB6 := Lib.hid (below3 HB5.out hb6)
  clear hb6
  go_wp2
  go_ret
  exact ⟨rfl, HB6.out⟩
end Go.Proofs.YteohdanlcaoaiaaDoor
