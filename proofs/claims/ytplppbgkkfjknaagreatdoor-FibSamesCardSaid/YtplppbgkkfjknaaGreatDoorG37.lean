/- slices.Equal and slices.EqualFunc over the parts of a forwarding table; samePath and the closures of Same (printed by gen_seq.py). fib.Same (printed by gen_seq.py). -/
import Derived.Test.YtplppbgkkfjknaaGreatDoorG36
namespace Go.Proofs.YtplppbgkkfjknaaGreatDoor
open Go.RowKit

set_option linter.unusedVariables false
set_option linter.unusedSimpArgs false
theorem evK_pair2 {x y : EV} : (x.inn = y.inn ∧ x.hs.map lhK = y.hs.map lhK) ↔ evK x = evK y := by
  unfold evK
  rw [Prod.mk.injEq]
theorem grK_pair {x y : GE} : (x.act = y.act ∧ x.ps.map keyP = y.ps.map keyP) ↔ grK x = grK y := by
  unfold grK
  rw [Prod.mk.injEq]
theorem ints_id {xs ys : List Int} : xs.map id = ys.map id ↔ xs = ys := by simp
set_option maxHeartbeats 4000000 in
theorem eqInts_any (A B : Option Addr) (n c m d N : Nat) (xs ys : List Int) (w : World) (hx : Ints w N .i64 A n c xs) (hy : Ints w N .i64 B m d ys) (hN : N ≤ w.heap.size) (hn : n ≤ 140737488355328) (hm : m ≤ 140737488355328) :
    Calls Tryz.prog 83 #[.slice A n c, .slice B m d] w fun e w' => e = .returned (.bool (decide (xs.map id = ys.map id))) ∧ Below w.heap.size w w' := by
  have hl1 : xs.length = n := hx.len
  have hl2 : ys.length = m := hy.len
  have HXW : Hid (∀ W, Below w.heap.size w W → Ints W N .i64 A n c xs) := fun W h => hx.below (h.mono hN)
  have HYW : Hid (∀ W, Below w.heap.size w W → Ints W N .i64 B m d ys) := fun W h => hy.below (h.mono hN)
  have HB0 : Hid (Below w.heap.size w w) := Below.refl _ _
  clear hx hy
  by_cases hnm : n = m
  · subst hnm
    have HL := Lib.hid (show xs.length = n ∧ ys.length = n from ⟨hl1, hl2⟩)
    clear hl1 hl2
    go_enter Tryz.func83, Tryz.ntmps83
    go_wp2
    go_loopw [13] (fun iv wr => EqI id w xs ys n iv wr) (fun iv _ => n - (intOf iv).toNat)
    case atStart => exact ⟨0, Nat.zero_le _, rfl, fun j p q hj => absurd hj (by omega), HB0⟩
    case round =>
      obtain ⟨k, hk, rfl, hall, hb⟩ := hrel
      by_cases hlt : k < n
      case neg =>
        obtain rfl : k = n := by omega
        have HF : Hid (decide (xs.map id = ys.map id) = true) := decide_eq_true (map_eq_of id HL.out.1 HL.out.2 hall.out)
        go_wp2
        go_ret
        exact ⟨ret_bool HF.out.symm, hb.out⟩
      obtain ⟨wD, hwD⟩ : ∃ wD, wr.drew = wD := ⟨_, rfl⟩
      have hbD : Below wr.heap.size wr wD := by rw [← hwD]; exact (Below.refl _ _).drew
      have HBD := Lib.hid (below3 hb.out hbD)
      obtain ⟨b, o, x0, rfl, hbN, c0, HX⟩ := (HXW.out _ HBD.out).cell hlt
      obtain ⟨b', o', y0, rfl, hbM, e0, HY⟩ := (HYW.out _ HBD.out).cell hlt
      have HXK : Hid (xs[k]? = some x0) := by
        show _ = _
        have h := HX.out
        rw [List.getD_eq_getElem?_getD, List.getElem?_eq_getElem (by rw [HL.out.1]; exact hlt)] at h
        rw [List.getElem?_eq_getElem (by rw [HL.out.1]; exact hlt)]
        exact congrArg some h
      have HYK : Hid (ys[k]? = some y0) := by
        show _ = _
        have h := HY.out
        rw [List.getD_eq_getElem?_getD, List.getElem?_eq_getElem (by rw [HL.out.2]; exact hlt)] at h
        rw [List.getElem?_eq_getElem (by rw [HL.out.2]; exact hlt)]
        exact congrArg some h
      obtain ⟨eb, heb⟩ : ∃ eb, decide (id x0 = id y0) = eb := ⟨_, rfl⟩
      have HEB := Lib.hid heb
      have HNE : Hid ((x0 != y0) = !eb) := by
        show _ = _
        rw [← heb, Bool.eq_iff_iff]
        simp
      have HS : Hid ((wD.cell? ⟨b, o + k, none⟩ = some (.int .i64 x0)) ∧ wD.cell? ⟨b', o' + k, none⟩ = some (.int .i64 y0)) := ⟨c0, e0⟩
      clear c0 e0 hbD heb
      go_upto_region 6 with fail
      refine wp_region_noPanic ?_
      refine wp_region_held_drew (S := fun V => (V.cell? ⟨b, o + k, none⟩ = some (.int .i64 x0)) ∧ V.cell? ⟨b', o' + k, none⟩ = some (.int .i64 y0)) (by kernel_rfl) (by rw [hwD]; exact HS.out) (fun hHeld => ?_)
      rw [hwD] at hHeld ⊢
      clear hwD
      refine take_in (i := 0) _ (some 16) (by kernel_rfl) (by kernel_rfl) (by kernel_rfl) (by kernel_rfl) (fun _ _ _ h => h) (by rfl) (fun o ho w hSw => by cases ho; (try dsimp only at hSw); (try go_split_ands); go_simp; (try with_reducible rfl)) hHeld ?_
      try simp only [Act.put, List.setIfInBounds_toArray, List.set_cons_zero, List.set_cons_succ]
      refine take_in (i := 1) _ (some 17) (by kernel_rfl) (by kernel_rfl) (by kernel_rfl) (by kernel_rfl) (fun _ _ _ h => h) (by rfl) (fun o ho w hSw => by cases ho; (try dsimp only at hSw); (try go_split_ands); go_simp; (try with_reducible rfl)) hHeld ?_
      try simp only [Act.put, List.setIfInBounds_toArray, List.set_cons_zero, List.set_cons_succ]
      refine take_in (i := 2) _ (some 18) (by kernel_rfl) (by kernel_rfl) (by kernel_rfl) (by kernel_rfl) (fun _ _ _ h => h) (by rfl) (fun o ho w hSw => by cases ho; (try dsimp only at hSw); (try go_split_ands); go_simp; (try with_reducible rfl)) hHeld ?_
      try simp only [Act.put, List.setIfInBounds_toArray, List.set_cons_zero, List.set_cons_succ]
      refine take_in (i := 3) _ (some 19) (by kernel_rfl) (by kernel_rfl) (by kernel_rfl) (by kernel_rfl) (fun _ _ _ h => h) (by rfl) (fun o ho w hSw => by cases ho; (try dsimp only at hSw); (try go_split_ands); go_simp; (try with_reducible rfl)) hHeld ?_
      try simp only [Act.put, List.setIfInBounds_toArray, List.set_cons_zero, List.set_cons_succ]
      refine take_in (i := 4) _ (some 20) (by kernel_rfl) (by kernel_rfl) (by kernel_rfl) (by kernel_rfl) (fun _ _ _ h => h) (by rfl) (fun o ho w hSw => by cases ho; (try dsimp only at hSw); (try go_split_ands); go_simp; (try with_reducible rfl)) hHeld ?_
      try simp only [Act.put, List.setIfInBounds_toArray, List.set_cons_zero, List.set_cons_succ]
      refine take_in (i := 5) _ (some 21) (by kernel_rfl) (by kernel_rfl) (by kernel_rfl) (by kernel_rfl) (fun _ _ _ h => h) (by rfl) (fun o ho w hSw => by cases ho; (try dsimp only at hSw); (try go_split_ands); go_simp; (try with_reducible rfl)) hHeld ?_
      try simp only [Act.put, List.setIfInBounds_toArray, List.set_cons_zero, List.set_cons_succ]
      refine take_in (i := 6) _ (some 22) (by kernel_rfl) (by kernel_rfl) (by kernel_rfl) (by kernel_rfl) (fun _ _ _ h => h) (by rfl) (fun o ho w hSw => by cases ho; (try dsimp only at hSw); (try go_split_ands); go_simp; (try with_reducible rfl)) hHeld ?_
      try simp only [Act.put, List.setIfInBounds_toArray, List.set_cons_zero, List.set_cons_succ]
      refine take_in (i := 7) _ (some 23) (by kernel_rfl) (by kernel_rfl) (by kernel_rfl) (by kernel_rfl) (fun _ _ _ h => h) (by rfl) (fun o ho w hSw => by cases ho; (try dsimp only at hSw); (try go_split_ands); go_simp; (try with_reducible rfl)) hHeld ?_
      try simp only [Act.put, List.setIfInBounds_toArray, List.set_cons_zero, List.set_cons_succ]
      refine take_in (i := 8) _ (some 24) (by kernel_rfl) (by kernel_rfl) (by kernel_rfl) (by kernel_rfl) (fun _ _ _ h => h) (by rfl) (fun o ho w hSw => by cases ho; (try dsimp only at hSw); (try go_split_ands); go_simp; (try with_reducible rfl)) hHeld ?_
      try simp only [Act.put, List.setIfInBounds_toArray, List.set_cons_zero, List.set_cons_succ]
      refine wpAnyH_done (by kernel_rfl) ?_ _
      refine NoPanic.normal ?_
      rw [HNE.out]
      cases eb with
      | false =>
        have HF : Hid (decide (xs.map id = ys.map id) = false) := decide_eq_false (map_ne_of id HXK.out HYK.out (of_decide_eq_false HEB.out))
        go_wp2
        go_ret
        exact ⟨ret_bool HF.out.symm, HBD.out⟩
      | true =>
        have HN := Lib.hid (step_eq hall.out HXK.out HYK.out (of_decide_eq_true HEB.out))
        go_wp2
        go_roundw
        case rel => exact ⟨k + 1, by omega, by go_num, HN, HBD⟩
        case measure => simp [intOf]; omega
  · have d0 : ((n : Int) != (m : Int)) = true := by simp; omega
    have HF : Hid (decide (xs.map id = ys.map id) = false) := decide_eq_false (map_ne_len id hl1 hl2 hnm)
    clear hl1 hl2 hnm
    go_enter Tryz.func83, Tryz.ntmps83
    go_wp2
    go_ret
    exact ⟨ret_bool HF.out.symm, HB0.out⟩
set_option maxHeartbeats 4000000 in
theorem eqAddrs_any (A B : Option Addr) (n c m d N : Nat) (xs ys : List Int) (w : World) (hx : Ints w N .u32 A n c xs) (hy : Ints w N .u32 B m d ys) (hN : N ≤ w.heap.size) (hn : n ≤ 140737488355328) (hm : m ≤ 140737488355328) :
    Calls Tryz.prog 50 #[.slice A n c, .slice B m d] w fun e w' => e = .returned (.bool (decide (xs.map id = ys.map id))) ∧ Below w.heap.size w w' := by
  have hl1 : xs.length = n := hx.len
  have hl2 : ys.length = m := hy.len
  have HXW : Hid (∀ W, Below w.heap.size w W → Ints W N .u32 A n c xs) := fun W h => hx.below (h.mono hN)
  have HYW : Hid (∀ W, Below w.heap.size w W → Ints W N .u32 B m d ys) := fun W h => hy.below (h.mono hN)
  have HB0 : Hid (Below w.heap.size w w) := Below.refl _ _
  clear hx hy
  by_cases hnm : n = m
  · subst hnm
    have HL := Lib.hid (show xs.length = n ∧ ys.length = n from ⟨hl1, hl2⟩)
    clear hl1 hl2
    go_enter Tryz.func50, Tryz.ntmps50
    go_wp2
    go_loopw [13] (fun iv wr => EqI id w xs ys n iv wr) (fun iv _ => n - (intOf iv).toNat)
    case atStart => exact ⟨0, Nat.zero_le _, rfl, fun j p q hj => absurd hj (by omega), HB0⟩
    case round =>
      obtain ⟨k, hk, rfl, hall, hb⟩ := hrel
      by_cases hlt : k < n
      case neg =>
        obtain rfl : k = n := by omega
        have HF : Hid (decide (xs.map id = ys.map id) = true) := decide_eq_true (map_eq_of id HL.out.1 HL.out.2 hall.out)
        go_wp2
        go_ret
        exact ⟨ret_bool HF.out.symm, hb.out⟩
      obtain ⟨wD, hwD⟩ : ∃ wD, wr.drew = wD := ⟨_, rfl⟩
      have hbD : Below wr.heap.size wr wD := by rw [← hwD]; exact (Below.refl _ _).drew
      have HBD := Lib.hid (below3 hb.out hbD)
      obtain ⟨b, o, x0, rfl, hbN, c0, HX⟩ := (HXW.out _ HBD.out).cell hlt
      obtain ⟨b', o', y0, rfl, hbM, e0, HY⟩ := (HYW.out _ HBD.out).cell hlt
      have HXK : Hid (xs[k]? = some x0) := by
        show _ = _
        have h := HX.out
        rw [List.getD_eq_getElem?_getD, List.getElem?_eq_getElem (by rw [HL.out.1]; exact hlt)] at h
        rw [List.getElem?_eq_getElem (by rw [HL.out.1]; exact hlt)]
        exact congrArg some h
      have HYK : Hid (ys[k]? = some y0) := by
        show _ = _
        have h := HY.out
        rw [List.getD_eq_getElem?_getD, List.getElem?_eq_getElem (by rw [HL.out.2]; exact hlt)] at h
        rw [List.getElem?_eq_getElem (by rw [HL.out.2]; exact hlt)]
        exact congrArg some h
      obtain ⟨eb, heb⟩ : ∃ eb, decide (id x0 = id y0) = eb := ⟨_, rfl⟩
      have HEB := Lib.hid heb
      have HNE : Hid ((x0 != y0) = !eb) := by
        show _ = _
        rw [← heb, Bool.eq_iff_iff]
        simp
      have HS : Hid ((wD.cell? ⟨b, o + k, none⟩ = some (.int .u32 x0)) ∧ wD.cell? ⟨b', o' + k, none⟩ = some (.int .u32 y0)) := ⟨c0, e0⟩
      clear c0 e0 hbD heb
      go_upto_region 6 with fail
      refine wp_region_noPanic ?_
      refine wp_region_held_drew (S := fun V => (V.cell? ⟨b, o + k, none⟩ = some (.int .u32 x0)) ∧ V.cell? ⟨b', o' + k, none⟩ = some (.int .u32 y0)) (by kernel_rfl) (by rw [hwD]; exact HS.out) (fun hHeld => ?_)
      rw [hwD] at hHeld ⊢
      clear hwD
      refine take_in (i := 0) _ (some 16) (by kernel_rfl) (by kernel_rfl) (by kernel_rfl) (by kernel_rfl) (fun _ _ _ h => h) (by rfl) (fun o ho w hSw => by cases ho; (try dsimp only at hSw); (try go_split_ands); go_simp; (try with_reducible rfl)) hHeld ?_
      try simp only [Act.put, List.setIfInBounds_toArray, List.set_cons_zero, List.set_cons_succ]
      refine take_in (i := 1) _ (some 17) (by kernel_rfl) (by kernel_rfl) (by kernel_rfl) (by kernel_rfl) (fun _ _ _ h => h) (by rfl) (fun o ho w hSw => by cases ho; (try dsimp only at hSw); (try go_split_ands); go_simp; (try with_reducible rfl)) hHeld ?_
      try simp only [Act.put, List.setIfInBounds_toArray, List.set_cons_zero, List.set_cons_succ]
      refine take_in (i := 2) _ (some 18) (by kernel_rfl) (by kernel_rfl) (by kernel_rfl) (by kernel_rfl) (fun _ _ _ h => h) (by rfl) (fun o ho w hSw => by cases ho; (try dsimp only at hSw); (try go_split_ands); go_simp; (try with_reducible rfl)) hHeld ?_
      try simp only [Act.put, List.setIfInBounds_toArray, List.set_cons_zero, List.set_cons_succ]
      refine take_in (i := 3) _ (some 19) (by kernel_rfl) (by kernel_rfl) (by kernel_rfl) (by kernel_rfl) (fun _ _ _ h => h) (by rfl) (fun o ho w hSw => by cases ho; (try dsimp only at hSw); (try go_split_ands); go_simp; (try with_reducible rfl)) hHeld ?_
      try simp only [Act.put, List.setIfInBounds_toArray, List.set_cons_zero, List.set_cons_succ]
      refine take_in (i := 4) _ (some 20) (by kernel_rfl) (by kernel_rfl) (by kernel_rfl) (by kernel_rfl) (fun _ _ _ h => h) (by rfl) (fun o ho w hSw => by cases ho; (try dsimp only at hSw); (try go_split_ands); go_simp; (try with_reducible rfl)) hHeld ?_
      try simp only [Act.put, List.setIfInBounds_toArray, List.set_cons_zero, List.set_cons_succ]
      refine take_in (i := 5) _ (some 21) (by kernel_rfl) (by kernel_rfl) (by kernel_rfl) (by kernel_rfl) (fun _ _ _ h => h) (by rfl) (fun o ho w hSw => by cases ho; (try dsimp only at hSw); (try go_split_ands); go_simp; (try with_reducible rfl)) hHeld ?_
      try simp only [Act.put, List.setIfInBounds_toArray, List.set_cons_zero, List.set_cons_succ]
      refine take_in (i := 6) _ (some 22) (by kernel_rfl) (by kernel_rfl) (by kernel_rfl) (by kernel_rfl) (fun _ _ _ h => h) (by rfl) (fun o ho w hSw => by cases ho; (try dsimp only at hSw); (try go_split_ands); go_simp; (try with_reducible rfl)) hHeld ?_
      try simp only [Act.put, List.setIfInBounds_toArray, List.set_cons_zero, List.set_cons_succ]
      refine take_in (i := 7) _ (some 23) (by kernel_rfl) (by kernel_rfl) (by kernel_rfl) (by kernel_rfl) (fun _ _ _ h => h) (by rfl) (fun o ho w hSw => by cases ho; (try dsimp only at hSw); (try go_split_ands); go_simp; (try with_reducible rfl)) hHeld ?_
      try simp only [Act.put, List.setIfInBounds_toArray, List.set_cons_zero, List.set_cons_succ]
      refine take_in (i := 8) _ (some 24) (by kernel_rfl) (by kernel_rfl) (by kernel_rfl) (by kernel_rfl) (fun _ _ _ h => h) (by rfl) (fun o ho w hSw => by cases ho; (try dsimp only at hSw); (try go_split_ands); go_simp; (try with_reducible rfl)) hHeld ?_
      try simp only [Act.put, List.setIfInBounds_toArray, List.set_cons_zero, List.set_cons_succ]
      refine wpAnyH_done (by kernel_rfl) ?_ _
      refine NoPanic.normal ?_
      rw [HNE.out]
      cases eb with
      | false =>
        have HF : Hid (decide (xs.map id = ys.map id) = false) := decide_eq_false (map_ne_of id HXK.out HYK.out (of_decide_eq_false HEB.out))
        go_wp2
        go_ret
        exact ⟨ret_bool HF.out.symm, HBD.out⟩
      | true =>
        have HN := Lib.hid (step_eq hall.out HXK.out HYK.out (of_decide_eq_true HEB.out))
        go_wp2
        go_roundw
        case rel => exact ⟨k + 1, by omega, by go_num, HN, HBD⟩
        case measure => simp [intOf]; omega
  · have d0 : ((n : Int) != (m : Int)) = true := by simp; omega
    have HF : Hid (decide (xs.map id = ys.map id) = false) := decide_eq_false (map_ne_len id hl1 hl2 hnm)
    clear hl1 hl2 hnm
    go_enter Tryz.func50, Tryz.ntmps50
    go_wp2
    go_ret
    exact ⟨ret_bool HF.out.symm, HB0.out⟩
set_option maxHeartbeats 4000000 in
theorem eqHops_any (A B : Option Addr) (n c m d N : Nat) (xs ys : List HV) (w : World) (hx : Hops w N A n c xs) (hy : Hops w N B m d ys) (hN : N ≤ w.heap.size) (hn : n ≤ 140737488355328) (hm : m ≤ 140737488355328) :
    Calls Tryz.prog 47 #[.slice A n c, .slice B m d] w fun e w' => e = .returned (.bool (decide (xs.map lhK = ys.map lhK))) ∧ Below w.heap.size w w' := by
  have hl1 : xs.length = n := hx.2
  have hl2 : ys.length = m := hy.2
  have HXW : Hid (∀ W, Below w.heap.size w W → Hops W N A n c xs) := fun W h => Recs.below hx (h.mono hN)
  have HYW : Hid (∀ W, Below w.heap.size w W → Hops W N B m d ys) := fun W h => Recs.below hy (h.mono hN)
  have HB0 : Hid (Below w.heap.size w w) := Below.refl _ _
  clear hx hy
  by_cases hnm : n = m
  · subst hnm
    have HL := Lib.hid (show xs.length = n ∧ ys.length = n from ⟨hl1, hl2⟩)
    clear hl1 hl2
    go_enter Tryz.func47, Tryz.ntmps47
    go_wp2
    go_loopw [13] (fun iv wr => EqI lhK w xs ys n iv wr) (fun iv _ => n - (intOf iv).toNat)
    case atStart => exact ⟨0, Nat.zero_le _, rfl, fun j p q hj => absurd hj (by omega), HB0⟩
    case round =>
      obtain ⟨k, hk, rfl, hall, hb⟩ := hrel
      by_cases hlt : k < n
      case neg =>
        obtain rfl : k = n := by omega
        have HF : Hid (decide (xs.map lhK = ys.map lhK) = true) := decide_eq_true (map_eq_of lhK HL.out.1 HL.out.2 hall.out)
        go_wp2
        go_ret
        exact ⟨ret_bool HF.out.symm, hb.out⟩
      obtain ⟨wD, hwD⟩ : ∃ wD, wr.drew = wD := ⟨_, rfl⟩
      have hbD : Below wr.heap.size wr wD := by rw [← hwD]; exact (Below.refl _ _).drew
      have HBD := Lib.hid (below3 hb.out hbD)
      obtain ⟨b, o, x, rfl, hbN, hxk, c0, c1⟩ := (HXW.out _ HBD.out).get hlt
      obtain ⟨b', o', y, rfl, hbM, hyk, e0, e1⟩ := (HYW.out _ HBD.out).get hlt
      have HXK := Lib.hid hxk
      have HYK := Lib.hid hyk
      obtain ⟨eb, heb⟩ : ∃ eb, decide (lhK x = lhK y) = eb := ⟨_, rfl⟩
      have HEB := Lib.hid heb
      obtain ⟨x0, hx0⟩ : ∃ q : Int, (x.router : Int) = q := ⟨_, rfl⟩
      rw [hx0] at c0
      obtain ⟨x1, hx1⟩ : ∃ q : Int, (x.label : Int) = q := ⟨_, rfl⟩
      rw [hx1] at c1
      obtain ⟨y0, hy0⟩ : ∃ q : Int, (y.router : Int) = q := ⟨_, rfl⟩
      rw [hy0] at e0
      obtain ⟨y1, hy1⟩ : ∃ q : Int, (y.label : Int) = q := ⟨_, rfl⟩
      rw [hy1] at e1
      have HNE : Hid ((!(decide (x0 = y0) && decide (x1 = y1))) = !eb) := by
        show _ = _
        rw [← heb, ← hx0, ← hx1, ← hy0, ← hy1, Bool.eq_iff_iff]
        simp [lhK]
      have HS : Hid ((wD.cell? ⟨b, o + k * 2, none⟩ = some (.int .u32 x0) ∧ wD.cell? ⟨b, o + k * 2 + 1, none⟩ = some (.int .i64 x1)) ∧ wD.cell? ⟨b', o' + k * 2, none⟩ = some (.int .u32 y0) ∧ wD.cell? ⟨b', o' + k * 2 + 1, none⟩ = some (.int .i64 y1)) := ⟨⟨c0, c1⟩, e0, e1⟩
      clear c0 e0 c1 e1 hbD hxk hyk heb hx0 hy0 hx1 hy1
      go_upto_region 6 with fail
      refine wp_region_noPanic ?_
      refine wp_region_held_drew (S := fun V => (V.cell? ⟨b, o + k * 2, none⟩ = some (.int .u32 x0) ∧ V.cell? ⟨b, o + k * 2 + 1, none⟩ = some (.int .i64 x1)) ∧ V.cell? ⟨b', o' + k * 2, none⟩ = some (.int .u32 y0) ∧ V.cell? ⟨b', o' + k * 2 + 1, none⟩ = some (.int .i64 y1)) (by kernel_rfl) (by rw [hwD]; exact HS.out) (fun hHeld => ?_)
      rw [hwD] at hHeld ⊢
      clear hwD
      refine take_in (i := 0) _ (some 16) (by kernel_rfl) (by kernel_rfl) (by kernel_rfl) (by kernel_rfl) (fun _ _ _ h => h) (by rfl) (fun o ho w hSw => by cases ho; (try dsimp only at hSw); (try go_split_ands); go_simp; (try with_reducible rfl)) hHeld ?_
      try simp only [Act.put, List.setIfInBounds_toArray, List.set_cons_zero, List.set_cons_succ]
      refine take_in (i := 1) _ (some 17) (by kernel_rfl) (by kernel_rfl) (by kernel_rfl) (by kernel_rfl) (fun _ _ _ h => h) (by rfl) (fun o ho w hSw => by cases ho; (try dsimp only at hSw); (try go_split_ands); go_simp; (try with_reducible rfl)) hHeld ?_
      try simp only [Act.put, List.setIfInBounds_toArray, List.set_cons_zero, List.set_cons_succ]
      refine take_in (i := 2) _ (some 18) (by kernel_rfl) (by kernel_rfl) (by kernel_rfl) (by kernel_rfl) (fun _ _ _ h => h) (by rfl) (fun o ho w hSw => by cases ho; (try dsimp only at hSw); (try go_split_ands); go_simp; (try with_reducible rfl)) hHeld ?_
      try simp only [Act.put, List.setIfInBounds_toArray, List.set_cons_zero, List.set_cons_succ]
      refine take_in (i := 3) _ (some 19) (by kernel_rfl) (by kernel_rfl) (by kernel_rfl) (by kernel_rfl) (fun _ _ _ h => h) (by rfl) (fun o ho w hSw => by cases ho; (try dsimp only at hSw); (try go_split_ands); go_simp; (try with_reducible rfl)) hHeld ?_
      try simp only [Act.put, List.setIfInBounds_toArray, List.set_cons_zero, List.set_cons_succ]
      refine take_in (i := 4) _ (some 20) (by kernel_rfl) (by kernel_rfl) (by kernel_rfl) (by kernel_rfl) (fun _ _ _ h => h) (by rfl) (fun o ho w hSw => by cases ho; (try dsimp only at hSw); (try go_split_ands); go_simp; (try with_reducible rfl)) hHeld ?_
      try simp only [Act.put, List.setIfInBounds_toArray, List.set_cons_zero, List.set_cons_succ]
      refine take_in (i := 5) _ (some 21) (by kernel_rfl) (by kernel_rfl) (by kernel_rfl) (by kernel_rfl) (fun _ _ _ h => h) (by rfl) (fun o ho w hSw => by cases ho; (try dsimp only at hSw); (try go_split_ands); go_simp; (try with_reducible rfl)) hHeld ?_
      try simp only [Act.put, List.setIfInBounds_toArray, List.set_cons_zero, List.set_cons_succ]
      refine take_in (i := 6) _ (some 22) (by kernel_rfl) (by kernel_rfl) (by kernel_rfl) (by kernel_rfl) (fun _ _ _ h => h) (by rfl) (fun o ho w hSw => by cases ho; (try dsimp only at hSw); (try go_split_ands); go_simp; (try with_reducible rfl)) hHeld ?_
      try simp only [Act.put, List.setIfInBounds_toArray, List.set_cons_zero, List.set_cons_succ]
      refine take_in (i := 7) _ (some 23) (by kernel_rfl) (by kernel_rfl) (by kernel_rfl) (by kernel_rfl) (fun _ _ _ h => h) (by rfl) (fun o ho w hSw => by cases ho; (try dsimp only at hSw); (try go_split_ands); go_simp; (try with_reducible rfl)) hHeld ?_
      try simp only [Act.put, List.setIfInBounds_toArray, List.set_cons_zero, List.set_cons_succ]
      refine take_in (i := 8) _ (some 24) (by kernel_rfl) (by kernel_rfl) (by kernel_rfl) (by kernel_rfl) (fun _ _ _ h => h) (by rfl) (fun o ho w hSw => by cases ho; (try dsimp only at hSw); (try go_split_ands); go_simp; exact ne2w) hHeld ?_
      try simp only [Act.put, List.setIfInBounds_toArray, List.set_cons_zero, List.set_cons_succ]
      refine wpAnyH_done (by kernel_rfl) ?_ _
      refine NoPanic.normal ?_
      rw [HNE.out]
      cases eb with
      | false =>
        have HF : Hid (decide (xs.map lhK = ys.map lhK) = false) := decide_eq_false (map_ne_of lhK HXK.out HYK.out (of_decide_eq_false HEB.out))
        go_wp2
        go_ret
        exact ⟨ret_bool HF.out.symm, HBD.out⟩
      | true =>
        have HN := Lib.hid (step_eq hall.out HXK.out HYK.out (of_decide_eq_true HEB.out))
        go_wp2
        go_roundw
        case rel => exact ⟨k + 1, by omega, by go_num, HN, HBD⟩
        case measure => simp [intOf]; omega
  · have d0 : ((n : Int) != (m : Int)) = true := by simp; omega
    have HF : Hid (decide (xs.map lhK = ys.map lhK) = false) := decide_eq_false (map_ne_len lhK hl1 hl2 hnm)
    clear hl1 hl2 hnm
    go_enter Tryz.func47, Tryz.ntmps47
    go_wp2
    go_ret
    exact ⟨ret_bool HF.out.symm, HB0.out⟩
set_option maxHeartbeats 4000000 in
theorem eqNears_any (A B : Option Addr) (n c m d N : Nat) (xs ys : List NH) (w : World) (hx : Nears w N A n c xs) (hy : Nears w N B m d ys) (hN : N ≤ w.heap.size) (hn : n ≤ 140737488355328) (hm : m ≤ 140737488355328) :
    Calls Tryz.prog 52 #[.slice A n c, .slice B m d] w fun e w' => e = .returned (.bool (decide (xs.map nhK = ys.map nhK))) ∧ Below w.heap.size w w' := by
  have hl1 : xs.length = n := hx.2
  have hl2 : ys.length = m := hy.2
  have HXW : Hid (∀ W, Below w.heap.size w W → Nears W N A n c xs) := fun W h => Recs.below hx (h.mono hN)
  have HYW : Hid (∀ W, Below w.heap.size w W → Nears W N B m d ys) := fun W h => Recs.below hy (h.mono hN)
  have HB0 : Hid (Below w.heap.size w w) := Below.refl _ _
  clear hx hy
  by_cases hnm : n = m
  · subst hnm
    have HL := Lib.hid (show xs.length = n ∧ ys.length = n from ⟨hl1, hl2⟩)
    clear hl1 hl2
    go_enter Tryz.func52, Tryz.ntmps52
    go_wp2
    go_loopw [13] (fun iv wr => EqI nhK w xs ys n iv wr) (fun iv _ => n - (intOf iv).toNat)
    case atStart => exact ⟨0, Nat.zero_le _, rfl, fun j p q hj => absurd hj (by omega), HB0⟩
    case round =>
      obtain ⟨k, hk, rfl, hall, hb⟩ := hrel
      by_cases hlt : k < n
      case neg =>
        obtain rfl : k = n := by omega
        have HF : Hid (decide (xs.map nhK = ys.map nhK) = true) := decide_eq_true (map_eq_of nhK HL.out.1 HL.out.2 hall.out)
        go_wp2
        go_ret
        exact ⟨ret_bool HF.out.symm, hb.out⟩
      obtain ⟨wD, hwD⟩ : ∃ wD, wr.drew = wD := ⟨_, rfl⟩
      have hbD : Below wr.heap.size wr wD := by rw [← hwD]; exact (Below.refl _ _).drew
      have HBD := Lib.hid (below3 hb.out hbD)
      obtain ⟨b, o, x, rfl, hbN, hxk, c0, c1, c2⟩ := (HXW.out _ HBD.out).get hlt
      obtain ⟨b', o', y, rfl, hbM, hyk, e0, e1, e2⟩ := (HYW.out _ HBD.out).get hlt
      have HXK := Lib.hid hxk
      have HYK := Lib.hid hyk
      obtain ⟨eb, heb⟩ : ∃ eb, decide (nhK x = nhK y) = eb := ⟨_, rfl⟩
      have HEB := Lib.hid heb
      obtain ⟨x0, hx0⟩ : ∃ q : Int, (x.iface : Int) = q := ⟨_, rfl⟩
      rw [hx0] at c0
      obtain ⟨x1, hx1⟩ : ∃ q : Int, (x.addr : Int) = q := ⟨_, rfl⟩
      rw [hx1] at c1
      obtain ⟨x2, hx2⟩ : ∃ q : Int, (x.router : Int) = q := ⟨_, rfl⟩
      rw [hx2] at c2
      obtain ⟨y0, hy0⟩ : ∃ q : Int, (y.iface : Int) = q := ⟨_, rfl⟩
      rw [hy0] at e0
      obtain ⟨y1, hy1⟩ : ∃ q : Int, (y.addr : Int) = q := ⟨_, rfl⟩
      rw [hy1] at e1
      obtain ⟨y2, hy2⟩ : ∃ q : Int, (y.router : Int) = q := ⟨_, rfl⟩
      rw [hy2] at e2
      have HNE : Hid ((!(decide (x0 = y0) && (decide (x1 = y1) && decide (x2 = y2)))) = !eb) := by
        show _ = _
        rw [← heb, ← hx0, ← hx1, ← hx2, ← hy0, ← hy1, ← hy2, Bool.eq_iff_iff]
        simp [nhK]
      have HS : Hid ((wD.cell? ⟨b, o + k * 3, none⟩ = some (.int .i64 x0) ∧ wD.cell? ⟨b, o + k * 3 + 1, none⟩ = some (.int .u32 x1) ∧ wD.cell? ⟨b, o + k * 3 + 2, none⟩ = some (.int .u32 x2)) ∧ wD.cell? ⟨b', o' + k * 3, none⟩ = some (.int .i64 y0) ∧ wD.cell? ⟨b', o' + k * 3 + 1, none⟩ = some (.int .u32 y1) ∧ wD.cell? ⟨b', o' + k * 3 + 2, none⟩ = some (.int .u32 y2)) := ⟨⟨c0, c1, c2⟩, e0, e1, e2⟩
      clear c0 e0 c1 e1 c2 e2 hbD hxk hyk heb hx0 hy0 hx1 hy1 hx2 hy2
      go_upto_region 6 with fail
      refine wp_region_noPanic ?_
      refine wp_region_held_drew (S := fun V => (V.cell? ⟨b, o + k * 3, none⟩ = some (.int .i64 x0) ∧ V.cell? ⟨b, o + k * 3 + 1, none⟩ = some (.int .u32 x1) ∧ V.cell? ⟨b, o + k * 3 + 2, none⟩ = some (.int .u32 x2)) ∧ V.cell? ⟨b', o' + k * 3, none⟩ = some (.int .i64 y0) ∧ V.cell? ⟨b', o' + k * 3 + 1, none⟩ = some (.int .u32 y1) ∧ V.cell? ⟨b', o' + k * 3 + 2, none⟩ = some (.int .u32 y2)) (by kernel_rfl) (by rw [hwD]; exact HS.out) (fun hHeld => ?_)
      rw [hwD] at hHeld ⊢
      clear hwD
      refine take_in (i := 0) _ (some 16) (by kernel_rfl) (by kernel_rfl) (by kernel_rfl) (by kernel_rfl) (fun _ _ _ h => h) (by rfl) (fun o ho w hSw => by cases ho; (try dsimp only at hSw); (try go_split_ands); go_simp; (try with_reducible rfl)) hHeld ?_
      try simp only [Act.put, List.setIfInBounds_toArray, List.set_cons_zero, List.set_cons_succ]
      refine take_in (i := 1) _ (some 17) (by kernel_rfl) (by kernel_rfl) (by kernel_rfl) (by kernel_rfl) (fun _ _ _ h => h) (by rfl) (fun o ho w hSw => by cases ho; (try dsimp only at hSw); (try go_split_ands); go_simp; (try with_reducible rfl)) hHeld ?_
      try simp only [Act.put, List.setIfInBounds_toArray, List.set_cons_zero, List.set_cons_succ]
      refine take_in (i := 2) _ (some 18) (by kernel_rfl) (by kernel_rfl) (by kernel_rfl) (by kernel_rfl) (fun _ _ _ h => h) (by rfl) (fun o ho w hSw => by cases ho; (try dsimp only at hSw); (try go_split_ands); go_simp; (try with_reducible rfl)) hHeld ?_
      try simp only [Act.put, List.setIfInBounds_toArray, List.set_cons_zero, List.set_cons_succ]
      refine take_in (i := 3) _ (some 19) (by kernel_rfl) (by kernel_rfl) (by kernel_rfl) (by kernel_rfl) (fun _ _ _ h => h) (by rfl) (fun o ho w hSw => by cases ho; (try dsimp only at hSw); (try go_split_ands); go_simp; (try with_reducible rfl)) hHeld ?_
      try simp only [Act.put, List.setIfInBounds_toArray, List.set_cons_zero, List.set_cons_succ]
      refine take_in (i := 4) _ (some 20) (by kernel_rfl) (by kernel_rfl) (by kernel_rfl) (by kernel_rfl) (fun _ _ _ h => h) (by rfl) (fun o ho w hSw => by cases ho; (try dsimp only at hSw); (try go_split_ands); go_simp; (try with_reducible rfl)) hHeld ?_
      try simp only [Act.put, List.setIfInBounds_toArray, List.set_cons_zero, List.set_cons_succ]
      refine take_in (i := 5) _ (some 21) (by kernel_rfl) (by kernel_rfl) (by kernel_rfl) (by kernel_rfl) (fun _ _ _ h => h) (by rfl) (fun o ho w hSw => by cases ho; (try dsimp only at hSw); (try go_split_ands); go_simp; (try with_reducible rfl)) hHeld ?_
      try simp only [Act.put, List.setIfInBounds_toArray, List.set_cons_zero, List.set_cons_succ]
      refine take_in (i := 6) _ (some 22) (by kernel_rfl) (by kernel_rfl) (by kernel_rfl) (by kernel_rfl) (fun _ _ _ h => h) (by rfl) (fun o ho w hSw => by cases ho; (try dsimp only at hSw); (try go_split_ands); go_simp; (try with_reducible rfl)) hHeld ?_
      try simp only [Act.put, List.setIfInBounds_toArray, List.set_cons_zero, List.set_cons_succ]
      refine take_in (i := 7) _ (some 23) (by kernel_rfl) (by kernel_rfl) (by kernel_rfl) (by kernel_rfl) (fun _ _ _ h => h) (by rfl) (fun o ho w hSw => by cases ho; (try dsimp only at hSw); (try go_split_ands); go_simp; (try with_reducible rfl)) hHeld ?_
      try simp only [Act.put, List.setIfInBounds_toArray, List.set_cons_zero, List.set_cons_succ]
      refine take_in (i := 8) _ (some 24) (by kernel_rfl) (by kernel_rfl) (by kernel_rfl) (by kernel_rfl) (fun _ _ _ h => h) (by rfl) (fun o ho w hSw => by cases ho; (try dsimp only at hSw); (try go_split_ands); go_simp; exact ne3w) hHeld ?_
      try simp only [Act.put, List.setIfInBounds_toArray, List.set_cons_zero, List.set_cons_succ]
      refine wpAnyH_done (by kernel_rfl) ?_ _
      refine NoPanic.normal ?_
      rw [HNE.out]
      cases eb with
      | false =>
        have HF : Hid (decide (xs.map nhK = ys.map nhK) = false) := decide_eq_false (map_ne_of nhK HXK.out HYK.out (of_decide_eq_false HEB.out))
        go_wp2
        go_ret
        exact ⟨ret_bool HF.out.symm, HBD.out⟩
      | true =>
        have HN := Lib.hid (step_eq hall.out HXK.out HYK.out (of_decide_eq_true HEB.out))
        go_wp2
        go_roundw
        case rel => exact ⟨k + 1, by omega, by go_num, HN, HBD⟩
        case measure => simp [intOf]; omega
  · have d0 : ((n : Int) != (m : Int)) = true := by simp; omega
    have HF : Hid (decide (xs.map nhK = ys.map nhK) = false) := decide_eq_false (map_ne_len nhK hl1 hl2 hnm)
    clear hl1 hl2 hnm
    go_enter Tryz.func52, Tryz.ntmps52
    go_wp2
    go_ret
    exact ⟨ret_bool HF.out.symm, HB0.out⟩
set_option maxHeartbeats 4000000 in
theorem eqEnts_any (A B : Option Addr) (n c m d N : Nat) (xs ys : List Ent) (w : World) (hx : Ents w N A n c xs) (hy : Ents w N B m d ys) (hN : N ≤ w.heap.size) (hn : n ≤ 140737488355328) (hm : m ≤ 140737488355328) :
    Calls Tryz.prog 48 #[.slice A n c, .slice B m d] w fun e w' => e = .returned (.bool (decide (xs.map entK = ys.map entK))) ∧ Below w.heap.size w w' := by
  have hl1 : xs.length = n := hx.len
  have hl2 : ys.length = m := hy.len
  have HXW : Hid (∀ W, Below w.heap.size w W → Ents W N A n c xs) := fun W h => hx.below (h.mono hN)
  have HYW : Hid (∀ W, Below w.heap.size w W → Ents W N B m d ys) := fun W h => hy.below (h.mono hN)
  have HB0 : Hid (Below w.heap.size w w) := Below.refl _ _
  clear hx hy
  by_cases hnm : n = m
  · subst hnm
    have HL := Lib.hid (show xs.length = n ∧ ys.length = n from ⟨hl1, hl2⟩)
    clear hl1 hl2
    go_enter Tryz.func48, Tryz.ntmps48
    go_wp2
    go_loopw [13] (fun iv wr => EqI entK w xs ys n iv wr) (fun iv _ => n - (intOf iv).toNat)
    case atStart => exact ⟨0, Nat.zero_le _, rfl, fun j p q hj => absurd hj (by omega), HB0⟩
    case round =>
      obtain ⟨k, hk, rfl, hall, hb⟩ := hrel
      by_cases hlt : k < n
      case neg =>
        obtain rfl : k = n := by omega
        have HF : Hid (decide (xs.map entK = ys.map entK) = true) := decide_eq_true (map_eq_of entK HL.out.1 HL.out.2 hall.out)
        go_wp2
        go_ret
        exact ⟨ret_bool HF.out.symm, hb.out⟩
      obtain ⟨wD, hwD⟩ : ∃ wD, wr.drew = wD := ⟨_, rfl⟩
      have hbD : Below wr.heap.size wr wD := by rw [← hwD]; exact (Below.refl _ _).drew
      have HBD := Lib.hid (below3 hb.out hbD)
      obtain ⟨b, o, x, rfl, hbN, hxk, _, c0, c1, c2⟩ := (HXW.out _ HBD.out).get hlt
      obtain ⟨b', o', y, rfl, hbM, hyk, _, e0, e1, e2⟩ := (HYW.out _ HBD.out).get hlt
      have HXK := Lib.hid hxk
      have HYK := Lib.hid hyk
      obtain ⟨eb, heb⟩ : ∃ eb, decide (entK x = entK y) = eb := ⟨_, rfl⟩
      have HEB := Lib.hid heb
      obtain ⟨x0, hx0⟩ : ∃ q : Int, (x.a : Int) = q := ⟨_, rfl⟩
      rw [hx0] at c0
      obtain ⟨x1, hx1⟩ : ∃ q : Int, (x.l : Int) = q := ⟨_, rfl⟩
      rw [hx1] at c1
      obtain ⟨x2, hx2⟩ : ∃ q : Int, (x.v : Int) = q := ⟨_, rfl⟩
      rw [hx2] at c2
      obtain ⟨y0, hy0⟩ : ∃ q : Int, (y.a : Int) = q := ⟨_, rfl⟩
      rw [hy0] at e0
      obtain ⟨y1, hy1⟩ : ∃ q : Int, (y.l : Int) = q := ⟨_, rfl⟩
      rw [hy1] at e1
      obtain ⟨y2, hy2⟩ : ∃ q : Int, (y.v : Int) = q := ⟨_, rfl⟩
      rw [hy2] at e2
      have HNE : Hid ((!(decide (x0 = y0) && (decide (x1 = y1) && decide (x2 = y2)))) = !eb) := by
        show _ = _
        rw [← heb, ← hx0, ← hx1, ← hx2, ← hy0, ← hy1, ← hy2, Bool.eq_iff_iff]
        simp [entK]
      have HS : Hid ((wD.cell? ⟨b, o + k * 3, none⟩ = some (.int .u32 x0) ∧ wD.cell? ⟨b, o + k * 3 + 1, none⟩ = some (.int .i64 x1) ∧ wD.cell? ⟨b, o + k * 3 + 2, none⟩ = some (.int .i64 x2)) ∧ wD.cell? ⟨b', o' + k * 3, none⟩ = some (.int .u32 y0) ∧ wD.cell? ⟨b', o' + k * 3 + 1, none⟩ = some (.int .i64 y1) ∧ wD.cell? ⟨b', o' + k * 3 + 2, none⟩ = some (.int .i64 y2)) := ⟨⟨c0, c1, c2⟩, e0, e1, e2⟩
      clear c0 e0 c1 e1 c2 e2 hbD hxk hyk heb hx0 hy0 hx1 hy1 hx2 hy2
      go_upto_region 6 with fail
      refine wp_region_noPanic ?_
      refine wp_region_held_drew (S := fun V => (V.cell? ⟨b, o + k * 3, none⟩ = some (.int .u32 x0) ∧ V.cell? ⟨b, o + k * 3 + 1, none⟩ = some (.int .i64 x1) ∧ V.cell? ⟨b, o + k * 3 + 2, none⟩ = some (.int .i64 x2)) ∧ V.cell? ⟨b', o' + k * 3, none⟩ = some (.int .u32 y0) ∧ V.cell? ⟨b', o' + k * 3 + 1, none⟩ = some (.int .i64 y1) ∧ V.cell? ⟨b', o' + k * 3 + 2, none⟩ = some (.int .i64 y2)) (by kernel_rfl) (by rw [hwD]; exact HS.out) (fun hHeld => ?_)
      rw [hwD] at hHeld ⊢
      clear hwD
      refine take_in (i := 0) _ (some 16) (by kernel_rfl) (by kernel_rfl) (by kernel_rfl) (by kernel_rfl) (fun _ _ _ h => h) (by rfl) (fun o ho w hSw => by cases ho; (try dsimp only at hSw); (try go_split_ands); go_simp; (try with_reducible rfl)) hHeld ?_
      try simp only [Act.put, List.setIfInBounds_toArray, List.set_cons_zero, List.set_cons_succ]
      refine take_in (i := 1) _ (some 17) (by kernel_rfl) (by kernel_rfl) (by kernel_rfl) (by kernel_rfl) (fun _ _ _ h => h) (by rfl) (fun o ho w hSw => by cases ho; (try dsimp only at hSw); (try go_split_ands); go_simp; (try with_reducible rfl)) hHeld ?_
      try simp only [Act.put, List.setIfInBounds_toArray, List.set_cons_zero, List.set_cons_succ]
      refine take_in (i := 2) _ (some 18) (by kernel_rfl) (by kernel_rfl) (by kernel_rfl) (by kernel_rfl) (fun _ _ _ h => h) (by rfl) (fun o ho w hSw => by cases ho; (try dsimp only at hSw); (try go_split_ands); go_simp; (try with_reducible rfl)) hHeld ?_
      try simp only [Act.put, List.setIfInBounds_toArray, List.set_cons_zero, List.set_cons_succ]
      refine take_in (i := 3) _ (some 19) (by kernel_rfl) (by kernel_rfl) (by kernel_rfl) (by kernel_rfl) (fun _ _ _ h => h) (by rfl) (fun o ho w hSw => by cases ho; (try dsimp only at hSw); (try go_split_ands); go_simp; (try with_reducible rfl)) hHeld ?_
      try simp only [Act.put, List.setIfInBounds_toArray, List.set_cons_zero, List.set_cons_succ]
      refine take_in (i := 4) _ (some 20) (by kernel_rfl) (by kernel_rfl) (by kernel_rfl) (by kernel_rfl) (fun _ _ _ h => h) (by rfl) (fun o ho w hSw => by cases ho; (try dsimp only at hSw); (try go_split_ands); go_simp; (try with_reducible rfl)) hHeld ?_
      try simp only [Act.put, List.setIfInBounds_toArray, List.set_cons_zero, List.set_cons_succ]
      refine take_in (i := 5) _ (some 21) (by kernel_rfl) (by kernel_rfl) (by kernel_rfl) (by kernel_rfl) (fun _ _ _ h => h) (by rfl) (fun o ho w hSw => by cases ho; (try dsimp only at hSw); (try go_split_ands); go_simp; (try with_reducible rfl)) hHeld ?_
      try simp only [Act.put, List.setIfInBounds_toArray, List.set_cons_zero, List.set_cons_succ]
      refine take_in (i := 6) _ (some 22) (by kernel_rfl) (by kernel_rfl) (by kernel_rfl) (by kernel_rfl) (fun _ _ _ h => h) (by rfl) (fun o ho w hSw => by cases ho; (try dsimp only at hSw); (try go_split_ands); go_simp; (try with_reducible rfl)) hHeld ?_
      try simp only [Act.put, List.setIfInBounds_toArray, List.set_cons_zero, List.set_cons_succ]
      refine take_in (i := 7) _ (some 23) (by kernel_rfl) (by kernel_rfl) (by kernel_rfl) (by kernel_rfl) (fun _ _ _ h => h) (by rfl) (fun o ho w hSw => by cases ho; (try dsimp only at hSw); (try go_split_ands); go_simp; (try with_reducible rfl)) hHeld ?_
      try simp only [Act.put, List.setIfInBounds_toArray, List.set_cons_zero, List.set_cons_succ]
      refine take_in (i := 8) _ (some 24) (by kernel_rfl) (by kernel_rfl) (by kernel_rfl) (by kernel_rfl) (fun _ _ _ h => h) (by rfl) (fun o ho w hSw => by cases ho; (try dsimp only at hSw); (try go_split_ands); go_simp; exact ne3w) hHeld ?_
      try simp only [Act.put, List.setIfInBounds_toArray, List.set_cons_zero, List.set_cons_succ]
      refine wpAnyH_done (by kernel_rfl) ?_ _
      refine NoPanic.normal ?_
      rw [HNE.out]
      cases eb with
      | false =>
        have HF : Hid (decide (xs.map entK = ys.map entK) = false) := decide_eq_false (map_ne_of entK HXK.out HYK.out (of_decide_eq_false HEB.out))
        go_wp2
        go_ret
        exact ⟨ret_bool HF.out.symm, HBD.out⟩
      | true =>
        have HN := Lib.hid (step_eq hall.out HXK.out HYK.out (of_decide_eq_true HEB.out))
        go_wp2
        go_roundw
        case rel => exact ⟨k + 1, by omega, by go_num, HN, HBD⟩
        case measure => simp [intOf]; omega
  · have d0 : ((n : Int) != (m : Int)) = true := by simp; omega
    have HF : Hid (decide (xs.map entK = ys.map entK) = false) := decide_eq_false (map_ne_len entK hl1 hl2 hnm)
    clear hl1 hl2 hnm
    go_enter Tryz.func48, Tryz.ntmps48
    go_wp2
    go_ret
    exact ⟨ret_bool HF.out.symm, HB0.out⟩
set_option maxHeartbeats 4000000 in
theorem eqfPath_any (A B : Option Addr) (n c m d N : Nat) (xs ys : List PV) (w : World) (hx : Paths w N A n c xs) (hy : Paths w N B m d ys) (hN : N ≤ w.heap.size) (hn : n ≤ 140737488355328) (hm : m ≤ 140737488355328)
    (hcl : ∀ x ∈ xs, ∀ y ∈ ys, ∀ W, Below w.heap.size w W → Calls Tryz.prog 45 #[.agg #[.int .i64 x.iface, .int .u32 x.addr, .int .u32 x.router, .int .i64 x.weight, .slice x.A x.ln x.lc, .int .i64 x.backup], .agg #[.int .i64 y.iface, .int .u32 y.addr, .int .u32 y.router, .int .i64 y.weight, .slice y.A y.ln y.lc, .int .i64 y.backup]] W fun e w' => e = .returned (.bool (decide (keyP x = keyP y))) ∧ Below W.heap.size W w') :
    Calls Tryz.prog 44 #[.slice A n c, .slice B m d, .func (.func 45) #[] #[]] w fun e w' => e = .returned (.bool (decide (xs.map keyP = ys.map keyP))) ∧ Below w.heap.size w w' := by
  have hl1 : xs.length = n := hx.len
  have hl2 : ys.length = m := hy.len
  have HXW : Hid (∀ W, Below w.heap.size w W → Paths W N A n c xs) := fun W h => hx.below (h.mono hN)
  have HYW : Hid (∀ W, Below w.heap.size w W → Paths W N B m d ys) := fun W h => hy.below (h.mono hN)
  have HCL := Lib.hid hcl
  have HB0 : Hid (Below w.heap.size w w) := Below.refl _ _
  clear hx hy hcl
  by_cases hnm : n = m
  · subst hnm
    have HL := Lib.hid (show xs.length = n ∧ ys.length = n from ⟨hl1, hl2⟩)
    clear hl1 hl2
    go_enter Tryz.func44, Tryz.ntmps44
    go_wp2
    go_loopw [17] (fun iv wr => EqI keyP w xs ys n iv wr) (fun iv _ => n - (intOf iv).toNat)
    case atStart => exact ⟨0, Nat.zero_le _, rfl, fun j p q hj => absurd hj (by omega), HB0⟩
    case round =>
      obtain ⟨k, hk, rfl, hall, hb⟩ := hrel
      by_cases hlt : k < n
      case neg =>
        obtain rfl : k = n := by omega
        have HF : Hid (decide (xs.map keyP = ys.map keyP) = true) := decide_eq_true (map_eq_of keyP HL.out.1 HL.out.2 hall.out)
        go_wp2
        go_ret
        exact ⟨ret_bool HF.out.symm, hb.out⟩
      obtain ⟨b, o, x, hA, hbN, hxk, _, c0, c1, c2, c3, c4, c5⟩ := (HXW.out _ hb.out).get hlt
      subst hA
      have hbw : b < wr.heap.size := by have := hb.out.size; omega
      obtain ⟨wA, hwA⟩ : ∃ wA, wr.alloc (.cells #[.int .i64 x.iface, .int .u32 x.addr, .int .u32 x.router, .int .i64 x.weight, .slice x.A x.ln x.lc, .int .i64 x.backup] 57) = wA := ⟨_, rfl⟩
      have hbA : Below wr.heap.size wr wA := by rw [← hwA]; exact belowA _ _
      have HXA : Hid (Blk wA wr.heap.size 57 [.int .i64 x.iface, .int .u32 x.addr, .int .u32 x.router, .int .i64 x.weight, .slice x.A x.ln x.lc, .int .i64 x.backup]) := by show Blk _ _ _ _; rw [← hwA]; exact Blk.new wr _ _
      have HBA := Lib.hid (below3 hb.out hbA)
      obtain ⟨b', o', y, hA', hbM, hyk, _, e0, e1, e2, e3, e4, e5⟩ := (HYW.out _ HBA.out).get hlt
      subst hA'
      have hbw' : b' < wA.heap.size := by have := HBA.out.size; omega
      obtain ⟨wB, hwB⟩ : ∃ wB, wA.alloc (.cells #[.int .i64 y.iface, .int .u32 y.addr, .int .u32 y.router, .int .i64 y.weight, .slice y.A y.ln y.lc, .int .i64 y.backup] 57) = wB := ⟨_, rfl⟩
      have hbB : Below wA.heap.size wA wB := by rw [← hwB]; exact belowA _ _
      have HYB : Hid (Blk wB wA.heap.size 57 [.int .i64 y.iface, .int .u32 y.addr, .int .u32 y.router, .int .i64 y.weight, .slice y.A y.ln y.lc, .int .i64 y.backup]) := by show Blk _ _ _ _; rw [← hwB]; exact Blk.new wA _ _
      have HXB := Lib.hid (HXA.out.keep hbB)
      have HBB := Lib.hid (below3 HBA.out hbB)
      have HC := Lib.hid (HCL.out x (List.mem_of_getElem? hxk) y (List.mem_of_getElem? hyk) wB HBB.out)
      have p0 := HXB.out.cell 0
      have p1 := HXB.out.cell 1
      have p2 := HXB.out.cell 2
      have p3 := HXB.out.cell 3
      have p4 := HXB.out.cell 4
      have p5 := HXB.out.cell 5
      simp only [List.getElem?_cons_zero, List.getElem?_cons_succ] at p0 p1 p2 p3 p4 p5
      have q0 := HYB.out.cell 0
      have q1 := HYB.out.cell 1
      have q2 := HYB.out.cell 2
      have q3 := HYB.out.cell 3
      have q4 := HYB.out.cell 4
      have q5 := HYB.out.cell 5
      simp only [List.getElem?_cons_zero, List.getElem?_cons_succ] at q0 q1 q2 q3 q4 q5
      have hlx := HXB.out.lt
      have hly := HYB.out.lt
      have HXK := Lib.hid hxk
      have HYK := Lib.hid hyk
      obtain ⟨eb, heb⟩ : ∃ eb, decide (keyP x = keyP y) = eb := ⟨_, rfl⟩
      have HEB := Lib.hid heb
      rw [heb] at HC
      clear hbA hbB hxk hyk heb
      go_upto_region 6 with fail
      try rw [hwA]
      go_upto_region 7 with fail
      try rw [hwB]
      go_wp2_with fail
      refine HC.out.mono ?_
      rintro e w3 ⟨rfl, hb3⟩
      have HB3 := Lib.hid (below3 HBB.out hb3)
      clear hb3 HC
      cases eb with
      | false =>
        have HF : Hid (decide (xs.map keyP = ys.map keyP) = false) := decide_eq_false (map_ne_of keyP HXK.out HYK.out (of_decide_eq_false HEB.out))
        go_wp2
        go_ret
        exact ⟨ret_bool HF.out.symm, HB3.out⟩
      | true =>
        have HN := Lib.hid (step_eq hall.out HXK.out HYK.out (of_decide_eq_true HEB.out))
        go_wp2
        go_roundw
        case rel => exact ⟨k + 1, by omega, by go_num, HN, HB3⟩
        case measure => simp [intOf]; omega
  · have d0 : ((n : Int) != (m : Int)) = true := by simp; omega
    have HF : Hid (decide (xs.map keyP = ys.map keyP) = false) := decide_eq_false (map_ne_len keyP hl1 hl2 hnm)
    clear hl1 hl2 hnm
    go_enter Tryz.func44, Tryz.ntmps44
    go_wp2
    go_ret
    exact ⟨ret_bool HF.out.symm, HB0.out⟩
set_option maxHeartbeats 4000000 in
theorem eqfGroup_any (A B : Option Addr) (n c m d N : Nat) (xs ys : List GE) (w : World) (hx : Grps w N A n c xs) (hy : Grps w N B m d ys) (hN : N ≤ w.heap.size) (hn : n ≤ 140737488355328) (hm : m ≤ 140737488355328)
    (hcl : ∀ x ∈ xs, ∀ y ∈ ys, ∀ W, Below w.heap.size w W → Calls Tryz.prog 43 #[.agg #[.int .i64 x.act, .slice x.A x.n x.c], .agg #[.int .i64 y.act, .slice y.A y.n y.c]] W fun e w' => e = .returned (.bool (decide (grK x = grK y))) ∧ Below W.heap.size W w') :
    Calls Tryz.prog 49 #[.slice A n c, .slice B m d, .func (.func 43) #[] #[]] w fun e w' => e = .returned (.bool (decide (xs.map grK = ys.map grK))) ∧ Below w.heap.size w w' := by
  have hl1 : xs.length = n := hx.1.2
  have hl2 : ys.length = m := hy.1.2
  have HXW : Hid (∀ W, Below w.heap.size w W → Grps W N A n c xs) := fun W h => hx.below (h.mono hN)
  have HYW : Hid (∀ W, Below w.heap.size w W → Grps W N B m d ys) := fun W h => hy.below (h.mono hN)
  have HCL := Lib.hid hcl
  have HB0 : Hid (Below w.heap.size w w) := Below.refl _ _
  clear hx hy hcl
  by_cases hnm : n = m
  · subst hnm
    have HL := Lib.hid (show xs.length = n ∧ ys.length = n from ⟨hl1, hl2⟩)
    clear hl1 hl2
    go_enter Tryz.func49, Tryz.ntmps49
    go_wp2
    go_loopw [17] (fun iv wr => EqI grK w xs ys n iv wr) (fun iv _ => n - (intOf iv).toNat)
    case atStart => exact ⟨0, Nat.zero_le _, rfl, fun j p q hj => absurd hj (by omega), HB0⟩
    case round =>
      obtain ⟨k, hk, rfl, hall, hb⟩ := hrel
      by_cases hlt : k < n
      case neg =>
        obtain rfl : k = n := by omega
        have HF : Hid (decide (xs.map grK = ys.map grK) = true) := decide_eq_true (map_eq_of grK HL.out.1 HL.out.2 hall.out)
        go_wp2
        go_ret
        exact ⟨ret_bool HF.out.symm, hb.out⟩
      obtain ⟨b, o, x, hA, hbN, hxk, _, c0, c1⟩ := (HXW.out _ hb.out).get hlt
      subst hA
      have hbw : b < wr.heap.size := by have := hb.out.size; omega
      obtain ⟨wA, hwA⟩ : ∃ wA, wr.alloc (.cells #[.int .i64 x.act, .slice x.A x.n x.c] 47) = wA := ⟨_, rfl⟩
      have hbA : Below wr.heap.size wr wA := by rw [← hwA]; exact belowA _ _
      have HXA : Hid (Blk wA wr.heap.size 47 [.int .i64 x.act, .slice x.A x.n x.c]) := by show Blk _ _ _ _; rw [← hwA]; exact Blk.new wr _ _
      have HBA := Lib.hid (below3 hb.out hbA)
      obtain ⟨b', o', y, hA', hbM, hyk, _, e0, e1⟩ := (HYW.out _ HBA.out).get hlt
      subst hA'
      have hbw' : b' < wA.heap.size := by have := HBA.out.size; omega
      obtain ⟨wB, hwB⟩ : ∃ wB, wA.alloc (.cells #[.int .i64 y.act, .slice y.A y.n y.c] 47) = wB := ⟨_, rfl⟩
      have hbB : Below wA.heap.size wA wB := by rw [← hwB]; exact belowA _ _
      have HYB : Hid (Blk wB wA.heap.size 47 [.int .i64 y.act, .slice y.A y.n y.c]) := by show Blk _ _ _ _; rw [← hwB]; exact Blk.new wA _ _
      have HXB := Lib.hid (HXA.out.keep hbB)
      have HBB := Lib.hid (below3 HBA.out hbB)
      have HC := Lib.hid (HCL.out x (List.mem_of_getElem? hxk) y (List.mem_of_getElem? hyk) wB HBB.out)
      have p0 := HXB.out.cell 0
      have p1 := HXB.out.cell 1
      simp only [List.getElem?_cons_zero, List.getElem?_cons_succ] at p0 p1
      have q0 := HYB.out.cell 0
      have q1 := HYB.out.cell 1
      simp only [List.getElem?_cons_zero, List.getElem?_cons_succ] at q0 q1
      have hlx := HXB.out.lt
      have hly := HYB.out.lt
      have HXK := Lib.hid hxk
      have HYK := Lib.hid hyk
      obtain ⟨eb, heb⟩ : ∃ eb, decide (grK x = grK y) = eb := ⟨_, rfl⟩
      have HEB := Lib.hid heb
      rw [heb] at HC
      clear hbA hbB hxk hyk heb
      go_upto_region 6 with fail
      try rw [hwA]
      go_upto_region 7 with fail
      try rw [hwB]
      go_wp2_with fail
      refine HC.out.mono ?_
      rintro e w3 ⟨rfl, hb3⟩
      have HB3 := Lib.hid (below3 HBB.out hb3)
      clear hb3 HC
      cases eb with
      | false =>
        have HF : Hid (decide (xs.map grK = ys.map grK) = false) := decide_eq_false (map_ne_of grK HXK.out HYK.out (of_decide_eq_false HEB.out))
        go_wp2
        go_ret
        exact ⟨ret_bool HF.out.symm, HB3.out⟩
      | true =>
        have HN := Lib.hid (step_eq hall.out HXK.out HYK.out (of_decide_eq_true HEB.out))
        go_wp2
        go_roundw
        case rel => exact ⟨k + 1, by omega, by go_num, HN, HB3⟩
        case measure => simp [intOf]; omega
  · have d0 : ((n : Int) != (m : Int)) = true := by simp; omega
    have HF : Hid (decide (xs.map grK = ys.map grK) = false) := decide_eq_false (map_ne_len grK hl1 hl2 hnm)
    clear hl1 hl2 hnm
    go_enter Tryz.func49, Tryz.ntmps49
    go_wp2
    go_ret
    exact ⟨ret_bool HF.out.symm, HB0.out⟩
set_option maxHeartbeats 4000000 in
theorem eqfEnt_any (A B : Option Addr) (n c m d N : Nat) (xs ys : List EV) (w : World) (hx : Tab w N A n c xs) (hy : Tab w N B m d ys) (hN : N ≤ w.heap.size) (hn : n ≤ 140737488355328) (hm : m ≤ 140737488355328)
    (hcl : ∀ x ∈ xs, ∀ y ∈ ys, ∀ W, Below w.heap.size w W → Calls Tryz.prog 46 #[.agg #[.int .i64 x.inn, .slice x.A x.n x.c], .agg #[.int .i64 y.inn, .slice y.A y.n y.c]] W fun e w' => e = .returned (.bool (decide (evK x = evK y))) ∧ Below W.heap.size W w') :
    Calls Tryz.prog 51 #[.slice A n c, .slice B m d, .func (.func 46) #[] #[]] w fun e w' => e = .returned (.bool (decide (xs.map evK = ys.map evK))) ∧ Below w.heap.size w w' := by
  have hl1 : xs.length = n := hx.len
  have hl2 : ys.length = m := hy.len
  have HXW : Hid (∀ W, Below w.heap.size w W → Tab W N A n c xs) := fun W h => hx.below (h.mono hN)
  have HYW : Hid (∀ W, Below w.heap.size w W → Tab W N B m d ys) := fun W h => hy.below (h.mono hN)
  have HCL := Lib.hid hcl
  have HB0 : Hid (Below w.heap.size w w) := Below.refl _ _
  clear hx hy hcl
  by_cases hnm : n = m
  · subst hnm
    have HL := Lib.hid (show xs.length = n ∧ ys.length = n from ⟨hl1, hl2⟩)
    clear hl1 hl2
    go_enter Tryz.func51, Tryz.ntmps51
    go_wp2
    go_loopw [17] (fun iv wr => EqI evK w xs ys n iv wr) (fun iv _ => n - (intOf iv).toNat)
    case atStart => exact ⟨0, Nat.zero_le _, rfl, fun j p q hj => absurd hj (by omega), HB0⟩
    case round =>
      obtain ⟨k, hk, rfl, hall, hb⟩ := hrel
      by_cases hlt : k < n
      case neg =>
        obtain rfl : k = n := by omega
        have HF : Hid (decide (xs.map evK = ys.map evK) = true) := decide_eq_true (map_eq_of evK HL.out.1 HL.out.2 hall.out)
        go_wp2
        go_ret
        exact ⟨ret_bool HF.out.symm, hb.out⟩
      obtain ⟨b, o, x, hA, hbN, hxk, _, c0, c1⟩ := (HXW.out _ hb.out).get hlt
      subst hA
      have hbw : b < wr.heap.size := by have := hb.out.size; omega
      obtain ⟨wA, hwA⟩ : ∃ wA, wr.alloc (.cells #[.int .i64 x.inn, .slice x.A x.n x.c] 84) = wA := ⟨_, rfl⟩
      have hbA : Below wr.heap.size wr wA := by rw [← hwA]; exact belowA _ _
      have HXA : Hid (Blk wA wr.heap.size 84 [.int .i64 x.inn, .slice x.A x.n x.c]) := by show Blk _ _ _ _; rw [← hwA]; exact Blk.new wr _ _
      have HBA := Lib.hid (below3 hb.out hbA)
      obtain ⟨b', o', y, hA', hbM, hyk, _, e0, e1⟩ := (HYW.out _ HBA.out).get hlt
      subst hA'
      have hbw' : b' < wA.heap.size := by have := HBA.out.size; omega
      obtain ⟨wB, hwB⟩ : ∃ wB, wA.alloc (.cells #[.int .i64 y.inn, .slice y.A y.n y.c] 84) = wB := ⟨_, rfl⟩
      have hbB : Below wA.heap.size wA wB := by rw [← hwB]; exact belowA _ _
      have HYB : Hid (Blk wB wA.heap.size 84 [.int .i64 y.inn, .slice y.A y.n y.c]) := by show Blk _ _ _ _; rw [← hwB]; exact Blk.new wA _ _
      have HXB := Lib.hid (HXA.out.keep hbB)
      have HBB := Lib.hid (below3 HBA.out hbB)
      have HC := Lib.hid (HCL.out x (List.mem_of_getElem? hxk) y (List.mem_of_getElem? hyk) wB HBB.out)
      have p0 := HXB.out.cell 0
      have p1 := HXB.out.cell 1
      simp only [List.getElem?_cons_zero, List.getElem?_cons_succ] at p0 p1
      have q0 := HYB.out.cell 0
      have q1 := HYB.out.cell 1
      simp only [List.getElem?_cons_zero, List.getElem?_cons_succ] at q0 q1
      have hlx := HXB.out.lt
      have hly := HYB.out.lt
      have HXK := Lib.hid hxk
      have HYK := Lib.hid hyk
      obtain ⟨eb, heb⟩ : ∃ eb, decide (evK x = evK y) = eb := ⟨_, rfl⟩
      have HEB := Lib.hid heb
      rw [heb] at HC
      clear hbA hbB hxk hyk heb
      go_upto_region 6 with fail
      try rw [hwA]
      go_upto_region 7 with fail
      try rw [hwB]
      go_wp2_with fail
      refine HC.out.mono ?_
      rintro e w3 ⟨rfl, hb3⟩
      have HB3 := Lib.hid (below3 HBB.out hb3)
      clear hb3 HC
      cases eb with
      | false =>
        have HF : Hid (decide (xs.map evK = ys.map evK) = false) := decide_eq_false (map_ne_of evK HXK.out HYK.out (of_decide_eq_false HEB.out))
        go_wp2
        go_ret
        exact ⟨ret_bool HF.out.symm, HB3.out⟩
      | true =>
        have HN := Lib.hid (step_eq hall.out HXK.out HYK.out (of_decide_eq_true HEB.out))
        go_wp2
        go_roundw
        case rel => exact ⟨k + 1, by omega, by go_num, HN, HB3⟩
        case measure => simp [intOf]; omega
  · have d0 : ((n : Int) != (m : Int)) = true := by simp; omega
    have HF : Hid (decide (xs.map evK = ys.map evK) = false) := decide_eq_false (map_ne_len evK hl1 hl2 hnm)
    clear hl1 hl2 hnm
    go_enter Tryz.func51, Tryz.ntmps51
    go_wp2
    go_ret
    exact ⟨ret_bool HF.out.symm, HB0.out⟩
set_option maxRecDepth 100000 in
set_option maxHeartbeats 4000000 in
theorem samePathF_any (p q : PV) (N : Nat) (w : World) (hp : Ints w N .i64 p.A p.ln p.lc p.ls) (hq : Ints w N .i64 q.A q.ln q.lc q.ls) (hN : N ≤ w.heap.size) (h1 : p.ln ≤ 17592186044416) (h2 : q.ln ≤ 17592186044416) :
    Calls Tryz.prog 45 #[.agg #[.int .i64 p.iface, .int .u32 p.addr, .int .u32 p.router, .int .i64 p.weight, .slice p.A p.ln p.lc, .int .i64 p.backup], .agg #[.int .i64 q.iface, .int .u32 q.addr, .int .u32 q.router, .int .i64 q.weight, .slice q.A q.ln q.lc, .int .i64 q.backup]] w fun e w' => e = .returned (.bool (sameP p q)) ∧ Below w.heap.size w w' := by
  rw [sameP_six]
  obtain ⟨pi, pa, pr, pw, pA, pn, pc, pl, pb⟩ := p
  obtain ⟨qi, qa, qr, qw, qA, qn, qc, ql, qb⟩ := q
  dsimp only at hp hq h1 h2 ⊢
  obtain ⟨w1, hw1⟩ : ∃ w1, (w.alloc (.cells #[.int .i64 pi, .int .u32 pa, .int .u32 pr, .int .i64 pw, .slice pA pn pc, .int .i64 pb] 57)).alloc (.cells #[.int .i64 qi, .int .u32 qa, .int .u32 qr, .int .i64 qw, .slice qA qn qc, .int .i64 qb] 57) = w1 := ⟨_, rfl⟩
  have HP1 : Hid (Blk w1 w.heap.size 57 [.int .i64 pi, .int .u32 pa, .int .u32 pr, .int .i64 pw, .slice pA pn pc, .int .i64 pb]) := by show Blk _ _ _ _; rw [← hw1]; exact (Blk.new w _ _).keep (belowA _ _)
  have HQ1 : Hid (Blk w1 (w.heap.size + 1) 57 [.int .i64 qi, .int .u32 qa, .int .u32 qr, .int .i64 qw, .slice qA qn qc, .int .i64 qb]) := by show Blk _ _ _ _; rw [← hw1]; exact Blk.new2 w _ _ _
  have HB1 : Hid (Below w.heap.size w w1) := by show Below _ _ _; rw [← hw1]; exact below3 (belowA _ _) (belowA _ _)
  have HC := Lib.hid (eqInts_any pA qA pn pc qn qc N pl ql w1 (hp.below (HB1.out.mono hN)) (hq.below (HB1.out.mono hN)) (by have := HB1.out.size; omega) (by omega) (by omega))
  rw [show decide (pl.map id = ql.map id) = decide (pl = ql) from by simp] at HC
  have a0 := HP1.out.cell 0
  have a1 := HP1.out.cell 1
  have a2 := HP1.out.cell 2
  have a3 := HP1.out.cell 3
  have a4 := HP1.out.cell 4
  have a5 := HP1.out.cell 5
  have b0 := HQ1.out.cell 0
  have b1 := HQ1.out.cell 1
  have b2 := HQ1.out.cell 2
  have b3 := HQ1.out.cell 3
  have b4 := HQ1.out.cell 4
  have b5 := HQ1.out.cell 5
  simp only [List.getElem?_cons_zero, List.getElem?_cons_succ] at a0 a1 a2 a3 a4 a5 b0 b1 b2 b3 b4 b5
  have hl1 := HQ1.out.lt
  have hl0 : w.heap.size < w1.heap.size := by omega
  clear hp hq h1 h2
  obtain ⟨z, hz⟩ : ∃ z, decide (pl = ql) = z := ⟨_, rfl⟩
  rw [hz] at HC
  unfold same6
  rw [hz]
  clear hz
  by_cases hi : pi = qi
  case neg =>
    have di : (pi == qi) = false := by simp [hi]
    rw [decide_eq_false hi]
    clear hi HC
    go_enter Tryz.func45, Tryz.ntmps45
    go_wp2
    go_ret
    exact ⟨by simp, HB1.out⟩
  subst hi
  rw [decide_eq_true (show pi = pi from rfl)]
  by_cases ha : pa = qa
  case neg =>
    have da : (pa == qa) = false := by simp [ha]
    rw [decide_eq_false ha]
    clear ha HC
    go_enter Tryz.func45, Tryz.ntmps45
    go_wp2
    go_ret
    exact ⟨by simp, HB1.out⟩
  subst ha
  rw [decide_eq_true (show pa = pa from rfl)]
  by_cases hr : pr = qr
  case neg =>
    have dr : (pr == qr) = false := by simp [hr]
    rw [decide_eq_false hr]
    clear hr HC
    go_enter Tryz.func45, Tryz.ntmps45
    go_wp2
    go_ret
    exact ⟨by simp, HB1.out⟩
  subst hr
  rw [decide_eq_true (show pr = pr from rfl)]
  by_cases hw : pw = qw
  case neg =>
    have dw : (pw == qw) = false := by simp [hw]
    rw [decide_eq_false hw]
    clear hw HC
    go_enter Tryz.func45, Tryz.ntmps45
    go_wp2
    go_ret
    exact ⟨by simp, HB1.out⟩
  subst hw
  rw [decide_eq_true (show pw = pw from rfl)]
  by_cases hb : pb = qb
  case neg =>
    have db : (pb == qb) = false := by simp [hb]
    rw [decide_eq_false hb]
    clear hb HC
    go_enter Tryz.func45, Tryz.ntmps45
    go_wp2
    go_ret
    exact ⟨by simp, HB1.out⟩
  subst hb
  rw [decide_eq_true (show pb = pb from rfl)]
  go_enter Tryz.func45, Tryz.ntmps45
  go_wp2_with fail
  refine HC.out.mono ?_
  rintro e w2 ⟨rfl, hb2⟩
  have HB2 := Lib.hid (below3 HB1.out hb2)
  clear hb2 HC
  go_wp2
  go_ret
  exact ⟨by simp, HB2.out⟩
set_option maxHeartbeats 4000000 in
theorem sameGF_any (x y : GE) (N : Nat) (w : World) (hx : Paths w N x.A x.n x.c x.ps) (hy : Paths w N y.A y.n y.c y.ps) (hs : Short x.ps) (ht : Short y.ps) (hN : N ≤ w.heap.size) (h1 : x.n ≤ 140737488355328) (h2 : y.n ≤ 140737488355328) :
    Calls Tryz.prog 43 #[.agg #[.int .i64 x.act, .slice x.A x.n x.c], .agg #[.int .i64 y.act, .slice y.A y.n y.c]] w fun e w' => e = .returned (.bool (decide (grK x = grK y))) ∧ Below w.heap.size w w' := by
  have HKK : Hid ((x.act = y.act ∧ x.ps.map keyP = y.ps.map keyP) ↔ grK x = grK y) := grK_pair
  obtain ⟨w1, hw1⟩ : ∃ w1, (w.alloc (.cells #[.int .i64 x.act, .slice x.A x.n x.c] 47)).alloc (.cells #[.int .i64 y.act, .slice y.A y.n y.c] 47) = w1 := ⟨_, rfl⟩
  have HP1 : Hid (Blk w1 w.heap.size 47 [.int .i64 x.act, .slice x.A x.n x.c]) := by show Blk _ _ _ _; rw [← hw1]; exact (Blk.new w _ _).keep (belowA _ _)
  have HQ1 : Hid (Blk w1 (w.heap.size + 1) 47 [.int .i64 y.act, .slice y.A y.n y.c]) := by show Blk _ _ _ _; rw [← hw1]; exact Blk.new2 w _ _ _
  have HB1 : Hid (Below w.heap.size w w1) := by show Below _ _ _; rw [← hw1]; exact below3 (belowA _ _) (belowA _ _)
  have HC := Lib.hid (eqfPath_any x.A y.A x.n x.c y.n y.c N x.ps y.ps w1 (hx.below (HB1.out.mono hN)) (hy.below (HB1.out.mono hN)) (by have := HB1.out.size; omega) h1 h2 fun p hp q hq W hW => samePathF_any p q N W (((hx.below (HB1.out.mono hN)).below (hW.mono (by have := HB1.out.size; omega))).2 p hp) (((hy.below (HB1.out.mono hN)).below (hW.mono (by have := HB1.out.size; omega))).2 q hq) (by have := HB1.out.size; have := hW.size; omega) (hs p hp) (ht q hq))
  obtain ⟨z, hz⟩ : ∃ z, decide (x.ps.map keyP = y.ps.map keyP) = z := ⟨_, rfl⟩
  rw [hz] at HC
  have a0 := HP1.out.cell 0
  have a1 := HP1.out.cell 1
  have b0 := HQ1.out.cell 0
  have b1 := HQ1.out.cell 1
  simp only [List.getElem?_cons_zero, List.getElem?_cons_succ] at a0 a1 b0 b1
  have hl1 := HQ1.out.lt
  have hl0 : w.heap.size < w1.heap.size := by omega
  clear hx hy h1 h2 hs ht
  by_cases h0 : x.act = y.act
  case neg =>
    have d0 : (x.act == y.act) = false := by simp [h0]
    have HF : Hid (decide (grK x = grK y) = false) := decide_eq_false fun h => h0 (HKK.out.2 h).1
    clear h0 hz
    go_enter Tryz.func43, Tryz.ntmps43
    go_wp2
    go_ret
    exact ⟨ret_bool HF.out.symm, HB1.out⟩
  have d0 : (x.act == y.act) = true := by simp [h0]
  have HF : Hid (decide (grK x = grK y) = z) := by
    show _ = _
    rw [← hz, Bool.eq_iff_iff, decide_eq_true_eq, decide_eq_true_eq, ← HKK.out]
    exact ⟨fun h => h.2, fun h => ⟨h0, h⟩⟩
  clear h0 hz
  go_enter Tryz.func43, Tryz.ntmps43
  go_wp2_with fail
  refine HC.out.mono ?_
  rintro e w2 ⟨rfl, hb2⟩
  have HB2 := Lib.hid (below3 HB1.out hb2)
  clear hb2 HC
  go_wp2
  go_ret
  exact ⟨ret_bool HF.out.symm, HB2.out⟩
set_option maxHeartbeats 4000000 in
theorem sameEF_any (x y : EV) (N : Nat) (w : World) (hx : Hops w N x.A x.n x.c x.hs) (hy : Hops w N y.A y.n y.c y.hs) (hN : N ≤ w.heap.size) (h1 : x.n ≤ 140737488355328) (h2 : y.n ≤ 140737488355328) :
    Calls Tryz.prog 46 #[.agg #[.int .i64 x.inn, .slice x.A x.n x.c], .agg #[.int .i64 y.inn, .slice y.A y.n y.c]] w fun e w' => e = .returned (.bool (decide (evK x = evK y))) ∧ Below w.heap.size w w' := by
  have HKK : Hid ((x.inn = y.inn ∧ x.hs.map lhK = y.hs.map lhK) ↔ evK x = evK y) := evK_pair2
  obtain ⟨w1, hw1⟩ : ∃ w1, (w.alloc (.cells #[.int .i64 x.inn, .slice x.A x.n x.c] 84)).alloc (.cells #[.int .i64 y.inn, .slice y.A y.n y.c] 84) = w1 := ⟨_, rfl⟩
  have HP1 : Hid (Blk w1 w.heap.size 84 [.int .i64 x.inn, .slice x.A x.n x.c]) := by show Blk _ _ _ _; rw [← hw1]; exact (Blk.new w _ _).keep (belowA _ _)
  have HQ1 : Hid (Blk w1 (w.heap.size + 1) 84 [.int .i64 y.inn, .slice y.A y.n y.c]) := by show Blk _ _ _ _; rw [← hw1]; exact Blk.new2 w _ _ _
  have HB1 : Hid (Below w.heap.size w w1) := by show Below _ _ _; rw [← hw1]; exact below3 (belowA _ _) (belowA _ _)
  have HC := Lib.hid (eqHops_any x.A y.A x.n x.c y.n y.c N x.hs y.hs w1 (Recs.below hx (HB1.out.mono hN)) (Recs.below hy (HB1.out.mono hN)) (by have := HB1.out.size; omega) h1 h2)
  obtain ⟨z, hz⟩ : ∃ z, decide (x.hs.map lhK = y.hs.map lhK) = z := ⟨_, rfl⟩
  rw [hz] at HC
  have a0 := HP1.out.cell 0
  have a1 := HP1.out.cell 1
  have b0 := HQ1.out.cell 0
  have b1 := HQ1.out.cell 1
  simp only [List.getElem?_cons_zero, List.getElem?_cons_succ] at a0 a1 b0 b1
  have hl1 := HQ1.out.lt
  have hl0 : w.heap.size < w1.heap.size := by omega
  clear hx hy h1 h2
  by_cases h0 : x.inn = y.inn
  case neg =>
    have d0 : (x.inn == y.inn) = false := by simp [h0]
    have HF : Hid (decide (evK x = evK y) = false) := decide_eq_false fun h => h0 (HKK.out.2 h).1
    clear h0 hz
    go_enter Tryz.func46, Tryz.ntmps46
    go_wp2
    go_ret
    exact ⟨ret_bool HF.out.symm, HB1.out⟩
  have d0 : (x.inn == y.inn) = true := by simp [h0]
  have HF : Hid (decide (evK x = evK y) = z) := by
    show _ = _
    rw [← hz, Bool.eq_iff_iff, decide_eq_true_eq, decide_eq_true_eq, ← HKK.out]
    exact ⟨fun h => h.2, fun h => ⟨h0, h⟩⟩
  clear h0 hz
  go_enter Tryz.func46, Tryz.ntmps46
  go_wp2_with fail
  refine HC.out.mono ?_
  rintro e w2 ⟨rfl, hb2⟩
  have HB2 := Lib.hid (below3 HB1.out hb2)
  clear hb2 HC
  go_wp2
  go_ret
  exact ⟨ret_bool HF.out.symm, HB2.out⟩
end Go.Proofs.YtplppbgkkfjknaaGreatDoor
namespace Go.Proofs.YtplppbgkkfjknaaGreatDoor
open Go.RowKit

set_option linter.unusedVariables false
set_option linter.unusedSimpArgs false
set_option maxRecDepth 100000 in
set_option maxHeartbeats 8000000 in
theorem sameFib_any (tA gA lA bA nA : Option Addr) (tn tc gn gc ln lc bn bc nn nc : Nat) (tB gB lB bB nB : Option Addr) (tm td gm gd lm ld bm bd nm nd : Nat) (N : Nat) (es es' : List Ent) (gs gs' : List GE) (ls ls' : List Int) (bs bs' : List EV) (ns ns' : List NH) (w : World) (hx : FibAt w N tA gA lA bA nA tn tc gn gc ln lc bn bc nn nc es gs ls bs ns) (hy : FibAt w N tB gB lB bB nB tm td gm gd lm ld bm bd nm nd es' gs' ls' bs' ns') (hN : N ≤ w.heap.size) (hsx : ∀ g ∈ gs, Short g.ps) (hsy : ∀ g ∈ gs', Short g.ps) :
    Calls Tryz.prog 23 #[.agg #[.slice tA tn tc, .slice gA gn gc, .slice lA ln lc, .slice bA bn bc, .slice nA nn nc], .agg #[.slice tB tm td, .slice gB gm gd, .slice lB lm ld, .slice bB bm bd, .slice nB nm nd]] w fun e w' => e = .returned (.bool (sameF es es' gs gs' ls ls' bs bs' ns ns')) ∧ Below w.heap.size w w' := by
  obtain ⟨w1, hw1⟩ : ∃ w1, (w.alloc (.cells #[.slice tA tn tc, .slice gA gn gc, .slice lA ln lc, .slice bA bn bc, .slice nA nn nc] 35)).alloc (.cells #[.slice tB tm td, .slice gB gm gd, .slice lB lm ld, .slice bB bm bd, .slice nB nm nd] 35) = w1 := ⟨_, rfl⟩
  have HF1 : Hid (Blk w1 w.heap.size 35 [.slice tA tn tc, .slice gA gn gc, .slice lA ln lc, .slice bA bn bc, .slice nA nn nc]) := by show Blk _ _ _ _; rw [← hw1]; exact (Blk.new w _ _).keep (belowA _ _)
  have HG1 : Hid (Blk w1 (w.heap.size + 1) 35 [.slice tB tm td, .slice gB gm gd, .slice lB lm ld, .slice bB bm bd, .slice nB nm nd]) := by show Blk _ _ _ _; rw [← hw1]; exact Blk.new2 w _ _ _
  have HB1 : Hid (Below w.heap.size w w1) := by show Below _ _ _; rw [← hw1]; exact below3 (belowA _ _) (belowA _ _)
  have HXW : Hid (∀ W, Below w.heap.size w W → FibAt W N tA gA lA bA nA tn tc gn gc ln lc bn bc nn nc es gs ls bs ns) := fun W h => hx.below (h.mono hN)
  have HYW : Hid (∀ W, Below w.heap.size w W → FibAt W N tB gB lB bB nB tm td gm gd lm ld bm bd nm nd es' gs' ls' bs' ns') := fun W h => hy.below (h.mono hN)
  have HSX := Lib.hid hsx
  have HSY := Lib.hid hsy
  have HBN : Hid (∀ W, Below w.heap.size w W → N ≤ W.heap.size) := fun W h => by have := h.size; omega
  have K1 : Hid (∀ W, Below w.heap.size w W → Calls Tryz.prog 48 #[.slice tA tn tc, .slice tB tm td] W fun e w' => e = .returned (.bool (decide (es.map entK = es'.map entK))) ∧ Below W.heap.size W w') := fun W h => eqEnts_any tA tB tn tc tm td N es es' W (HXW.out W h).t (HYW.out W h).t (HBN.out W h) hx.tn hy.tn
  have K2 : Hid (∀ W, Below w.heap.size w W → Calls Tryz.prog 49 #[.slice gA gn gc, .slice gB gm gd, .func (.func 43) #[] #[]] W fun e w' => e = .returned (.bool (decide (gs.map grK = gs'.map grK))) ∧ Below W.heap.size W w') := fun W h => eqfGroup_any gA gB gn gc gm gd N gs gs' W (HXW.out W h).g (HYW.out W h).g (HBN.out W h) hx.gn hy.gn fun x hxm y hym V hV => sameGF_any x y N V ((HXW.out V (below3 h hV)).g.2 x hxm) ((HYW.out V (below3 h hV)).g.2 y hym) (HSX.out x hxm) (HSY.out y hym) (HBN.out V (below3 h hV)) (hx.gp x hxm) (hy.gp y hym)
  have K3 : Hid (∀ W, Below w.heap.size w W → Calls Tryz.prog 50 #[.slice lA ln lc, .slice lB lm ld] W fun e w' => e = .returned (.bool (decide (ls.map id = ls'.map id))) ∧ Below W.heap.size W w') := fun W h => eqAddrs_any lA lB ln lc lm ld N ls ls' W (HXW.out W h).l (HYW.out W h).l (HBN.out W h) hx.ln hy.ln
  have K4 : Hid (∀ W, Below w.heap.size w W → Calls Tryz.prog 51 #[.slice bA bn bc, .slice bB bm bd, .func (.func 46) #[] #[]] W fun e w' => e = .returned (.bool (decide (bs.map evK = bs'.map evK))) ∧ Below W.heap.size W w') := fun W h => eqfEnt_any bA bB bn bc bm bd N bs bs' W (HXW.out W h).b (HYW.out W h).b (HBN.out W h) hx.bn hy.bn fun x hxm y hym V hV => sameEF_any x y N V ((HXW.out V (below3 h hV)).b.2 x hxm) ((HYW.out V (below3 h hV)).b.2 y hym) (HBN.out V (below3 h hV)) (hx.bp x hxm) (hy.bp y hym)
  have K5 : Hid (∀ W, Below w.heap.size w W → Calls Tryz.prog 52 #[.slice nA nn nc, .slice nB nm nd] W fun e w' => e = .returned (.bool (decide (ns.map nhK = ns'.map nhK))) ∧ Below W.heap.size W w') := fun W h => eqNears_any nA nB nn nc nm nd N ns ns' W (HXW.out W h).n (HYW.out W h).n (HBN.out W h) hx.nn hy.nn
  have HFF : Hid (sameF es es' gs gs' ls ls' bs bs' ns ns' = (decide (es.map entK = es'.map entK) && (decide (gs.map grK = gs'.map grK) && (decide (ls.map id = ls'.map id) && (decide (bs.map evK = bs'.map evK) && decide (ns.map nhK = ns'.map nhK)))))) := by
    show _ = _
    unfold sameF
    rw [show decide (ls.map id = ls'.map id) = decide (ls = ls') from by simp]
  obtain ⟨z1, hz1⟩ : ∃ z, decide (es.map entK = es'.map entK) = z := ⟨_, rfl⟩
  obtain ⟨z2, hz2⟩ : ∃ z, decide (gs.map grK = gs'.map grK) = z := ⟨_, rfl⟩
  obtain ⟨z3, hz3⟩ : ∃ z, decide (ls.map id = ls'.map id) = z := ⟨_, rfl⟩
  obtain ⟨z4, hz4⟩ : ∃ z, decide (bs.map evK = bs'.map evK) = z := ⟨_, rfl⟩
  obtain ⟨z5, hz5⟩ : ∃ z, decide (ns.map nhK = ns'.map nhK) = z := ⟨_, rfl⟩
  rw [hz1] at K1
  rw [hz2] at K2
  rw [hz3] at K3
  rw [hz4] at K4
  rw [hz5] at K5
  rw [hz1, hz2, hz3, hz4, hz5] at HFF
  have HC := Lib.hid (K1.out w1 HB1.out)
  have f0 := HF1.out.cell 0
  simp only [List.getElem?_cons_zero, List.getElem?_cons_succ] at f0
  have g0 := HG1.out.cell 0
  simp only [List.getElem?_cons_zero, List.getElem?_cons_succ] at g0
  have hl1 := HG1.out.lt
  have hl0 : w.heap.size < w1.heap.size := by omega
  clear hx hy hsx hsy K1 hz1 hz2 hz3 hz4 hz5
  go_enter Tryz.func23, Tryz.ntmps23
  go_wp2_with fail
  refine HC.out.mono ?_
  rintro e w2 ⟨rfl, hb⟩
  have HB2 := Lib.hid (below3 HB1.out hb)
  have HF2 := Lib.hid (HF1.out.keep hb)
  have HG2 := Lib.hid (HG1.out.keep hb)
  clear HC hb f0 g0 hw1 hl0 hl1
  cases z1 with
  | false =>
    go_wp2
    go_ret
    exact ⟨by rw [HFF.out]; simp, HB2.out⟩
  | true =>
    have HC := Lib.hid (K2.out w2 HB2.out)
    have f1 := HF2.out.cell 1
    simp only [List.getElem?_cons_zero, List.getElem?_cons_succ] at f1
    have g1 := HG2.out.cell 1
    simp only [List.getElem?_cons_zero, List.getElem?_cons_succ] at g1
    have hl1 := HG2.out.lt
    have hl0 := HF2.out.lt
    clear K2
    go_wp2_with fail
    refine HC.out.mono ?_
    rintro e w3 ⟨rfl, hb⟩
    have HB3 := Lib.hid (below3 HB2.out hb)
    have HF3 := Lib.hid (HF2.out.keep hb)
    have HG3 := Lib.hid (HG2.out.keep hb)
    clear HC hb f1 g1 hl0 hl1
    cases z2 with
    | false =>
      go_wp2
      go_ret
      exact ⟨by rw [HFF.out]; simp, HB3.out⟩
    | true =>
      have HC := Lib.hid (K3.out w3 HB3.out)
      have f2 := HF3.out.cell 2
      simp only [List.getElem?_cons_zero, List.getElem?_cons_succ] at f2
      have g2 := HG3.out.cell 2
      simp only [List.getElem?_cons_zero, List.getElem?_cons_succ] at g2
      have hl1 := HG3.out.lt
      have hl0 := HF3.out.lt
      clear K3
      go_wp2_with fail
      refine HC.out.mono ?_
      rintro e w4 ⟨rfl, hb⟩
      have HB4 := Lib.hid (below3 HB3.out hb)
      have HF4 := Lib.hid (HF3.out.keep hb)
      have HG4 := Lib.hid (HG3.out.keep hb)
      clear HC hb f2 g2 hl0 hl1
      cases z3 with
      | false =>
        go_wp2
        go_ret
        exact ⟨by rw [HFF.out]; simp, HB4.out⟩
      | true =>
        have HC := Lib.hid (K4.out w4 HB4.out)
        have f3 := HF4.out.cell 3
        simp only [List.getElem?_cons_zero, List.getElem?_cons_succ] at f3
        have g3 := HG4.out.cell 3
        simp only [List.getElem?_cons_zero, List.getElem?_cons_succ] at g3
        have hl1 := HG4.out.lt
        have hl0 := HF4.out.lt
        clear K4
        go_wp2_with fail
        refine HC.out.mono ?_
        rintro e w5 ⟨rfl, hb⟩
        have HB5 := Lib.hid (below3 HB4.out hb)
        have HF5 := Lib.hid (HF4.out.keep hb)
        have HG5 := Lib.hid (HG4.out.keep hb)
        clear HC hb f3 g3 hl0 hl1
        cases z4 with
        | false =>
          go_wp2
          go_ret
          exact ⟨by rw [HFF.out]; simp, HB5.out⟩
        | true =>
          have HC := Lib.hid (K5.out w5 HB5.out)
          have f4 := HF5.out.cell 4
          simp only [List.getElem?_cons_zero, List.getElem?_cons_succ] at f4
          have g4 := HG5.out.cell 4
          simp only [List.getElem?_cons_zero, List.getElem?_cons_succ] at g4
          have hl1 := HG5.out.lt
          have hl0 := HF5.out.lt
          clear K5
          go_wp2_with fail
          refine HC.out.mono ?_
          rintro e w6 ⟨rfl, hb⟩
          have HB6 := Lib.hid (below3 HB5.out hb)
          have HF6 := Lib.hid (HF5.out.keep hb)
          have HG6 := Lib.hid (HG5.out.keep hb)
          clear HC hb f4 g4 hl0 hl1
          go_wp2
          go_ret
          exact ⟨by rw [HFF.out]; simp, HB6.out⟩
end Go.Proofs.YtplppbgkkfjknaaGreatDoor
