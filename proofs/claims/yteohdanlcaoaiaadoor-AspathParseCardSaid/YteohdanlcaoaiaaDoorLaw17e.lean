/- The law AspathParse of chapter 17. -/
import Derived.Test.YteohdanlcaoaiaaDoorRefParse
import Derived.Test.YteohdanlcaoaiaaDoorAwake17
import Derived.Test.YteohdanlcaoaiaaDoorSame17
namespace Go.Proofs.YteohdanlcaoaiaaDoor
open Go.RowKit

theorem parse_small (s : ByteArray) : (parseR s).1.length ≤ 64 := by
  rw [parse_same]
  unfold refParseR
  split
  · simp
  · split
    · rename_i ht
      exact (pathErr_parts (textR_ok ht).1).1 |> fun h => by omega
    · simp
set_option maxRecDepth 100000 in
set_option maxHeartbeats 4000000 in
theorem aspathParse_walk (s : ByteArray) (w : World) (_hr : s.size ≤ 140737488351232) (henv : Env w) :
    Calls Tryd.prog 9 #[.string s] w fun e w' => e = .returned (.bool true) ∧ Below w.heap.size w w' := by
  have HENV := Lib.hid henv
  clear henv
  go_enter Tryd.func9, Tryd.ntmps9
  by_cases hL : 8000 < s.size
  · have dL : decide ((s.size : Int) > 8000) = true := by simp; omega
    go_wp2_with fail
    refine (awake_any w HENV.out).mono ?_
    rintro e w2 ⟨rfl, hb2⟩
    have HB2 := Lib.hid hb2
    clear hb2
    go_wp2
    go_ret
    exact ⟨rfl, HB2.out⟩
  have dL : decide ((s.size : Int) > 8000) = false := by simp; omega
  go_wp2_with fail
  refine (parse_any s w (by omega) HENV.out).mono ?_
  rintro e w1 ⟨A1, n1, c1, rfl, ho1, hb1⟩
  have HP := Lib.hid (parse_same s)
  have hps := parse_small s
  obtain ⟨⟨x, g⟩, hx⟩ : ∃ r, parseR s = r := ⟨_, rfl⟩
  rw [hx] at ho1 HP hps ⊢
  dsimp only at ho1 hps ⊢
  have hn1 : n1 ≤ 64 := by have := ho1.len; omega
  have HU1 := Lib.hid ho1.segs
  have HB1 := Lib.hid hb1
  have d1 : (g == g) = true := by simp
  clear ho1 hb1 hx
  go_wp2_with fail
  refine (refParse_any s w1 (by omega)).mono ?_
  rintro e w2 ⟨A2, n2, c2, rfl, ho2, hb2⟩
  rw [← HP.out] at ho2 ⊢
  dsimp only at ho2 ⊢
  have hn2 : n2 ≤ 64 := by have := ho2.len; omega
  have HV2 := Lib.hid ho2.segs
  have HU2 := Lib.hid (HU1.out.grow hb2 (Nat.le_refl _))
  have HB2 := Lib.hid (below3 HB1.out hb2)
  clear ho2 hb2 HU1 HB1
  go_wp2_with fail
  refine (refSamePath_any A1 A2 n1 c1 n2 c2 x x _ _ w2 HU2.out HV2.out (Nat.le_refl _) (Nat.le_refl _) (by omega) (by omega)).mono ?_
  rintro e w3 ⟨rfl, hb3⟩
  rw [decide_eq_true (rfl : x = x)]
  have HB3 := Lib.hid (below3 HB2.out hb3)
  clear hb3 HB2
  go_wp2_with fail
  refine (awake_any w3 (HENV.out.below HB3.out)).mono ?_
  rintro e w4 ⟨rfl, hb4⟩
  have HB4 := Lib.hid (below3 HB3.out hb4)
  clear hb4
  go_wp2
  go_ret
  exact ⟨rfl, HB4.out⟩
end Go.Proofs.YteohdanlcaoaiaaDoor
