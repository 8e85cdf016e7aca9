/- The law AspathMerge of chapter 17. -/
import Derived.Test.YteohdanlcaoaiaaDoorLaw17a
import Derived.Test.YteohdanlcaoaiaaDoorRefMerge
namespace Go.Proofs.YteohdanlcaoaiaaDoor
open Go.RowKit

theorem merge_small {p q x : Path} {g : Int} (h : mergeR p q = (x, g)) : x.length ≤ 64 := by
  by_cases hg : g = 0
  · subst hg
    exact (valid_sm (merge_law h).2.2.2.1).1
  · unfold mergeR at h
    split at h
    · rw [← (show _ = x from congrArg Prod.fst h)]
      simp
    split at h
    · rw [← (show _ = x from congrArg Prod.fst h)]
      simp
    split at h
    · rw [← (show _ = x from congrArg Prod.fst h)]
      simp
    · exact absurd (congrArg Prod.snd h).symm hg
set_option maxRecDepth 100000 in
set_option maxHeartbeats 4000000 in
theorem aspathMerge_walk (v v' : Value) (w : World) (hb : PathIn w v 1048576 ∧ PathIn w v' 1048576) (henv : Env w) :
    Calls Tryd.prog 10 #[v, v'] w fun e w' => e = .returned (.bool true) ∧ Below w.heap.size w w' := by
  obtain ⟨⟨A, n, c, p, rfl, hx, hbd⟩, B, m, d, q, rfl, hy, hbd'⟩ := hb
  have HX0 := Lib.hid hx
  have HY0 := Lib.hid hy
  have HL := Lib.hid hx.len
  have HM := Lib.hid hy.len
  have HENV := Lib.hid henv
  have HB0 : Hid (Below w.heap.size w w) := Below.refl _ _
  have hnl : p.length = n := hx.len
  have hml : q.length = m := hy.len
  have hn : n ≤ 1048576 := by omega
  have hm : m ≤ 1048576 := by omega
  have hf : (flat p).length ≤ 1048576 := by omega
  have hg : (flat q).length ≤ 1048576 := by omega
  clear hx hy henv hbd hbd'
  go_enter Tryd.func10, Tryd.ntmps10
  by_cases hL : 3000 < n + (flat p).length
  · have dL : decide (3000 < n + (flat p).length) = true := decide_eq_true hL
    go_wp2_with fail
    refine (large_any A n c p w HX0.out (by omega) (by omega)).mono ?_
    rintro e w1 ⟨rfl, hb1⟩
    rw [dL]
    have HB1 := Lib.hid (below3 HB0.out hb1)
    have HX1 := Lib.hid (HX0.out.grow hb1 (Nat.le_refl _))
    have HY1 := Lib.hid (HY0.out.grow hb1 (Nat.le_refl _))
    clear hb1 HB0 HX0 HY0
    go_wp2_with fail
    refine (awake_any w1 (HENV.out.below HB1.out)).mono ?_
    rintro e w2 ⟨rfl, hb2⟩
    have HB2 := Lib.hid (below3 HB1.out hb2)
    clear hb2
    go_wp2
    go_ret
    exact ⟨rfl, HB2.out⟩
  have dL : decide (3000 < n + (flat p).length) = false := decide_eq_false hL
  have HSM : Hid (Sm p) := by show Sm p; unfold Sm; omega
  go_wp2_with fail
  refine (large_any A n c p w HX0.out (by omega) (by omega)).mono ?_
  rintro e w1 ⟨rfl, hb1⟩
  rw [dL]
  have HB1 := Lib.hid (below3 HB0.out hb1)
  have HX1 := Lib.hid (HX0.out.grow hb1 (Nat.le_refl _))
  have HY1 := Lib.hid (HY0.out.grow hb1 (Nat.le_refl _))
  clear hb1 HB0 HX0 HY0
  clear dL hL hnl
  by_cases hL : 3000 < m + (flat q).length
  · have dL : decide (3000 < m + (flat q).length) = true := decide_eq_true hL
    go_wp2_with fail
    refine (large_any B m d q w1 HY1.out (by omega) (by omega)).mono ?_
    rintro e w2 ⟨rfl, hb2⟩
    rw [dL]
    have HB2 := Lib.hid (below3 HB1.out hb2)
    have HX2 := Lib.hid (HX1.out.grow hb2 (Nat.le_refl _))
    have HY2 := Lib.hid (HY1.out.grow hb2 (Nat.le_refl _))
    clear hb2 HB1 HX1 HY1
    go_wp2_with fail
    refine (awake_any w2 (HENV.out.below HB2.out)).mono ?_
    rintro e w3 ⟨rfl, hb3⟩
    have HB3 := Lib.hid (below3 HB2.out hb3)
    clear hb3
    go_wp2
    go_ret
    exact ⟨rfl, HB3.out⟩
  have dL : decide (3000 < m + (flat q).length) = false := decide_eq_false hL
  have HSQ : Hid (Sm q) := by show Sm q; unfold Sm; omega
  go_wp2_with fail
  refine (large_any B m d q w1 HY1.out (by omega) (by omega)).mono ?_
  rintro e w2 ⟨rfl, hb2⟩
  rw [dL]
  have HB2 := Lib.hid (below3 HB1.out hb2)
  have HX2 := Lib.hid (HX1.out.grow hb2 (Nat.le_refl _))
  have HY2 := Lib.hid (HY1.out.grow hb2 (Nat.le_refl _))
  clear hb2 HB1 HX1 HY1
  clear dL hL hml
  obtain ⟨⟨x, g⟩, hmr⟩ : ∃ r, mergeR p q = r := ⟨_, rfl⟩
  have HMR := Lib.hid hmr
  have hxl := merge_small hmr
  have d1 : (g == g) = true := by simp
  clear hmr
  go_wp2_with fail
  refine (merge_any A B n c m d p q w2 HX2.out HY2.out HSM.out HSQ.out).mono ?_
  rintro e w3 ⟨A1, n1, c1, rfl, ho1, hb3⟩
  rw [HMR.out] at ho1 ⊢
  dsimp only at ho1 ⊢
  have HU3 := Lib.hid ho1.segs
  have hn1 : n1 ≤ 64 := by have := ho1.len; omega
  clear ho1
  have HB3 := Lib.hid (below3 HB2.out hb3)
  have HX3 := Lib.hid (HX2.out.grow hb3 (Nat.le_refl _))
  have HY3 := Lib.hid (HY2.out.grow hb3 (Nat.le_refl _))
  clear hb3 HB2 HX2 HY2
  go_wp2_with fail
  refine (refMerge_any A B n c m d p q w3 HX3.out HY3.out HSM.out HSQ.out).mono ?_
  rintro e w4 ⟨A2, n2, c2, rfl, ho2, hb4⟩
  rw [HMR.out] at ho2 ⊢
  dsimp only at ho2 ⊢
  have HV4 := Lib.hid ho2.segs
  have hn2 : n2 ≤ 64 := by have := ho2.len; omega
  clear ho2
  have HB4 := Lib.hid (below3 HB3.out hb4)
  have HX4 := Lib.hid (HX3.out.grow hb4 (Nat.le_refl _))
  have HY4 := Lib.hid (HY3.out.grow hb4 (Nat.le_refl _))
  have HU4 := Lib.hid (HU3.out.grow hb4 (Nat.le_refl _))
  clear hb4 HB3 HX3 HY3 HU3
  go_wp2_with fail
  refine (refSamePath_any A1 A2 n1 c1 n2 c2 x x _ _ w4 HU4.out HV4.out (Nat.le_refl _) (Nat.le_refl _) (by omega) (by omega)).mono ?_
  rintro e w5 ⟨rfl, hb5⟩
  rw [decide_eq_true (rfl : x = x)]
  have HB5 := Lib.hid (below3 HB4.out hb5)
  have HX5 := Lib.hid (HX4.out.grow hb5 (Nat.le_refl _))
  have HY5 := Lib.hid (HY4.out.grow hb5 (Nat.le_refl _))
  have HU5 := Lib.hid (HU4.out.grow hb5 (Nat.le_refl _))
  clear hb5 HB4 HX4 HY4 HU4
  go_wp2_with fail
  refine (awake_any w5 (HENV.out.below HB5.out)).mono ?_
  rintro e w6 ⟨rfl, hb6⟩
  have HB6 := Lib.hid (below3 HB5.out hb6)
  clear hb6
  go_wp2
  go_ret
  exact ⟨rfl, HB6.out⟩
end Go.Proofs.YteohdanlcaoaiaaDoor
