/- Lists compared element by element; when two tables are equal, plain. The document's comparison of lists of label hops. The document's comparison of label tables and of forwarding tables (printed by gen_rsm.py). -/
import Derived.Test.YtplppbgkkfjknaaGreatDoorG28
import Derived.Test.YtplppbgkkfjknaaGreatDoorG12
namespace Go.Proofs.YtplppbgkkfjknaaGreatDoor
open Go.RowKit

set_option linter.unusedVariables false
set_option linter.unusedSimpArgs false
theorem map_eq_of {α β : Type} (f : α → β) {xs ys : List α} {n : Nat} (h1 : xs.length = n) (h2 : ys.length = n) (h : ∀ (j : Nat) (x y : α), j < n → xs[j]? = some x → ys[j]? = some y → f x = f y) : xs.map f = ys.map f := by
  refine List.ext_getElem? fun j => ?_
  rw [List.getElem?_map, List.getElem?_map]
  rcases Nat.lt_or_ge j n with hj | hj
  · have h3 : j < xs.length := by omega
    have h4 : j < ys.length := by omega
    rw [List.getElem?_eq_getElem h3, List.getElem?_eq_getElem h4]
    exact congrArg some (h j _ _ hj (List.getElem?_eq_getElem h3) (List.getElem?_eq_getElem h4))
  · rw [List.getElem?_eq_none (by omega), List.getElem?_eq_none (by omega)]
theorem map_ne_of {α β : Type} (f : α → β) {xs ys : List α} {k : Nat} {x y : α} (hx : xs[k]? = some x) (hy : ys[k]? = some y) (h : f x ≠ f y) : xs.map f ≠ ys.map f := fun e => by
  have h1 := congrArg (fun l => l[k]?) e
  try dsimp only at h1
  rw [List.getElem?_map, List.getElem?_map, hx, hy] at h1
  exact h (Option.some.inj h1)
theorem map_ne_len {α β : Type} (f : α → β) {xs ys : List α} {n m : Nat} (h1 : xs.length = n) (h2 : ys.length = m) (h : n ≠ m) : xs.map f ≠ ys.map f := fun e => by
  have h3 := congrArg List.length e
  rw [List.length_map, List.length_map] at h3
  omega
theorem step_eq {α β : Type} {f : α → β} {xs ys : List α} {k : Nat} {x y : α} (h : ∀ (j : Nat) (p q : α), j < k → xs[j]? = some p → ys[j]? = some q → f p = f q) (hx : xs[k]? = some x) (hy : ys[k]? = some y) (he : f x = f y) :
    ∀ (j : Nat) (p q : α), j < k + 1 → xs[j]? = some p → ys[j]? = some q → f p = f q := by
  intro j p q hj hp hq
  rcases Nat.lt_or_ge j k with h1 | h1
  · exact h j p q h1 hp hq
  · obtain rfl : j = k := by omega
    rw [hx] at hp
    rw [hy] at hq
    obtain rfl := Option.some.inj hp
    obtain rfl := Option.some.inj hq
    exact he
theorem ne2 {R : Type} {f : Value → R} {a b c d : Int} : (if a = b then if c = d then f (.bool false) else f (.bool true) else f (.bool true)) = f (.bool (!(decide (a = b) && decide (c = d)))) := by
  by_cases h1 : a = b <;> by_cases h2 : c = d <;> simp [h1, h2]
theorem ne3 {R : Type} {f : Value → R} {a b c d e g : Int} : (if a = b then if c = d then if e = g then f (.bool false) else f (.bool true) else f (.bool true) else f (.bool true)) = f (.bool (!(decide (a = b) && (decide (c = d) && decide (e = g))))) := by
  by_cases h1 : a = b <;> by_cases h2 : c = d <;> by_cases h3 : e = g <;> simp [h1, h2, h3]
theorem ne2w {w : World} {a b c d : Int} : (if a = b then if c = d then Result.ok (Next.value (.bool false)) w else Result.ok (Next.value (.bool true)) w else Result.ok (Next.value (.bool true)) w) = Result.ok (Next.value (.bool (!(decide (a = b) && decide (c = d))))) w := ne2 (f := fun u => Result.ok (Next.value u) w)
theorem ne3w {w : World} {a b c d e g : Int} : (if a = b then if c = d then if e = g then Result.ok (Next.value (.bool false)) w else Result.ok (Next.value (.bool true)) w else Result.ok (Next.value (.bool true)) w else Result.ok (Next.value (.bool true)) w) = Result.ok (Next.value (.bool (!(decide (a = b) && (decide (c = d) && decide (e = g)))))) w := ne3 (f := fun u => Result.ok (Next.value u) w)
def entK (e : Ent) : Int × Int × Int := (e.a, e.l, e.v)
def nhK (h : NH) : Int × Int × Int := (h.iface, h.addr, h.router)
def lhK (h : HV) : Int × Int := (h.router, h.label)
def evK (e : EV) : Int × List (Int × Int) := (e.inn, e.hs.map lhK)
def grK (g : GE) : Int × List (List Int) := (g.act, g.ps.map keyP)
theorem sameG_key (x y : GE) : sameG x y = decide (grK x = grK y) := by
  unfold sameG grK
  rw [Bool.eq_iff_iff]
  simp only [Bool.and_eq_true, decide_eq_true_eq, Prod.mk.injEq]
/-- two tables are equal -/
def sameF (es es' : List Ent) (gs gs' : List GE) (ls ls' : List Int) (bs bs' : List EV) (ns ns' : List NH) : Bool :=
  decide (es.map entK = es'.map entK) && (decide (gs.map grK = gs'.map grK) && (decide (ls = ls') && (decide (bs.map evK = bs'.map evK) && decide (ns.map nhK = ns'.map nhK))))
theorem sameF_refl (es : List Ent) (gs : List GE) (ls : List Int) (bs : List EV) (ns : List NH) : sameF es es gs gs ls ls bs bs ns ns = true := by
  unfold sameF
  simp
theorem sameF_symm (es es' : List Ent) (gs gs' : List GE) (ls ls' : List Int) (bs bs' : List EV) (ns ns' : List NH) : sameF es' es gs' gs ls' ls bs' bs ns' ns = sameF es es' gs gs' ls ls' bs bs' ns ns' := by
  unfold sameF
  simp only [eq_comm (a := es'.map entK), eq_comm (a := gs'.map grK), eq_comm (a := ls'), eq_comm (a := bs'.map evK), eq_comm (a := ns'.map nhK)]
end Go.Proofs.YtplppbgkkfjknaaGreatDoor
namespace Go.Proofs.YtplppbgkkfjknaaGreatDoor
open Go.RowKit

set_option linter.unusedVariables false
set_option linter.unusedSimpArgs false
/-- a loop that compares two lists -/
def EqI {α β : Type} (f : α → β) (w : World) (xs ys : List α) (n : Nat) (iv : Value) (W : World) : Prop :=
  ∃ k : Nat, k ≤ n ∧ iv = .int .i64 k ∧ Hid (∀ (j : Nat) (p q : α), j < k → xs[j]? = some p → ys[j]? = some q → f p = f q) ∧ Hid (Below w.heap.size w W)
set_option maxHeartbeats 4000000 in
theorem hops52_any (A B : Option Addr) (n c m d N : Nat) (xs ys : List HV) (w : World) (hx : Hops w N A n c xs) (hy : Hops w N B m d ys) (hN : N ≤ w.heap.size) (hn : n ≤ 140737488355328) (hm : m ≤ 140737488355328) :
    Calls Tryz.prog 61 #[.slice A n c, .slice B m d] w fun e w' => e = .returned (.bool (decide (xs.map lhK = ys.map lhK))) ∧ Below w.heap.size w w' := by
  have hl1 : xs.length = n := hx.2
  have hl2 : ys.length = m := hy.2
  have HXW : Hid (∀ W, Below w.heap.size w W → Hops W N A n c xs) := fun W h => Recs.below hx (h.mono hN)
  have HYW : Hid (∀ W, Below w.heap.size w W → Hops W N B m d ys) := fun W h => Recs.below hy (h.mono hN)
  have HB0 : Hid (Below w.heap.size w w) := Below.refl _ _
  clear hx hy
  by_cases hnm : n = m
  · subst hnm
    have HL := Lib.hid (show xs.length = n ∧ ys.length = n from ⟨hl1, hl2⟩)
    clear hl1 hl2
    go_enter Tryz.func61, Tryz.ntmps61
    go_wp2
    go_loopw [13] (fun iv wr => EqI lhK w xs ys n iv wr) (fun iv _ => n - (intOf iv).toNat)
    case atStart => exact ⟨0, Nat.zero_le _, rfl, fun j p q hj => absurd hj (by omega), HB0⟩
    case round =>
      obtain ⟨k, hk, rfl, hall, hb⟩ := hrel
      by_cases hlt : k < n
      case neg =>
        obtain rfl : k = n := by omega
        have HF : Hid (decide (xs.map lhK = ys.map lhK) = true) := decide_eq_true (map_eq_of lhK HL.out.1 HL.out.2 hall.out)
        go_wp2
        go_ret
        exact ⟨ret_bool HF.out.symm, hb.out⟩
      obtain ⟨wD, hwD⟩ : ∃ wD, wr.drew = wD := ⟨_, rfl⟩
      have hbD : Below wr.heap.size wr wD := by rw [← hwD]; exact (Below.refl _ _).drew
      have HBD := Lib.hid (below3 hb.out hbD)
      obtain ⟨b, o, x, rfl, hbN, hxk, c0, c1⟩ := (HXW.out _ HBD.out).get hlt
      obtain ⟨b', o', y, rfl, hbM, hyk, e0, e1⟩ := (HYW.out _ HBD.out).get hlt
      have HXK := Lib.hid hxk
      have HYK := Lib.hid hyk
      obtain ⟨eb, heb⟩ : ∃ eb, decide (lhK x = lhK y) = eb := ⟨_, rfl⟩
      have HEB := Lib.hid heb
      obtain ⟨x0, x1⟩ := x
      obtain ⟨y0, y1⟩ := y
      dsimp only at c0 c1 e0 e1
      have HNE : Hid ((!(decide (x0 = y0) && decide (x1 = y1))) = !eb) := by
        show _ = _
        rw [← heb, Bool.eq_iff_iff]
        simp [lhK]
      have HS : Hid ((wD.cell? ⟨b, o + k * 2, none⟩ = some (.int .u32 x0) ∧ wD.cell? ⟨b, o + k * 2 + 1, none⟩ = some (.int .i64 x1)) ∧ (wD.cell? ⟨b', o' + k * 2, none⟩ = some (.int .u32 y0) ∧ wD.cell? ⟨b', o' + k * 2 + 1, none⟩ = some (.int .i64 y1))) := ⟨⟨c0, c1⟩, e0, e1⟩
      clear c0 c1 e0 e1 hbD hxk hyk heb
      go_upto_region 6 with fail
      refine wp_region_noPanic ?_
      refine wp_region_held_drew (S := fun V => (V.cell? ⟨b, o + k * 2, none⟩ = some (.int .u32 x0) ∧ V.cell? ⟨b, o + k * 2 + 1, none⟩ = some (.int .i64 x1)) ∧ (V.cell? ⟨b', o' + k * 2, none⟩ = some (.int .u32 y0) ∧ V.cell? ⟨b', o' + k * 2 + 1, none⟩ = some (.int .i64 y1))) (by kernel_rfl) (by rw [hwD]; exact HS.out) (fun hHeld => ?_)
      rw [hwD] at hHeld ⊢
      clear hwD
      refine take_in (i := 0) _ (some 16) (by kernel_rfl) (by kernel_rfl) (by kernel_rfl) (by kernel_rfl) (fun _ _ _ h => h) (by rfl) (fun o ho w hSw => by cases ho; (try dsimp only at hSw); (try go_split_ands); go_simp; (try with_reducible rfl)) hHeld ?_
      try simp only [Act.put, List.setIfInBounds_toArray, List.set_cons_zero, List.set_cons_succ]
      refine take_in (i := 1) _ (some 17) (by kernel_rfl) (by kernel_rfl) (by kernel_rfl) (by kernel_rfl) (fun _ _ _ h => h) (by rfl) (fun o ho w hSw => by cases ho; (try dsimp only at hSw); (try go_split_ands); go_simp; (try with_reducible rfl)) hHeld ?_
      try simp only [Act.put, List.setIfInBounds_toArray, List.set_cons_zero, List.set_cons_succ]
      refine take_in (i := 2) _ (some 18) (by kernel_rfl) (by kernel_rfl) (by kernel_rfl) (by kernel_rfl) (fun _ _ _ h => h) (by rfl) (fun o ho w hSw => by cases ho; (try dsimp only at hSw); (try go_split_ands); go_simp; (try with_reducible rfl)) hHeld ?_
      try simp only [Act.put, List.setIfInBounds_toArray, List.set_cons_zero, List.set_cons_succ]
      refine take_in (i := 3) _ (some 19) (by kernel_rfl) (by kernel_rfl) (by kernel_rfl) (by kernel_rfl) (fun _ _ _ h => h) (by rfl) (fun o ho w hSw => by cases ho; (try dsimp only at hSw); (try go_split_ands); go_simp; (try with_reducible rfl)) hHeld ?_
      try simp only [Act.put, List.setIfInBounds_toArray, List.set_cons_zero, List.set_cons_succ]
      refine take_in (i := 4) _ (some 20) (by kernel_rfl) (by kernel_rfl) (by kernel_rfl) (by kernel_rfl) (fun _ _ _ h => h) (by rfl) (fun o ho w hSw => by cases ho; (try dsimp only at hSw); (try go_split_ands); go_simp; (try with_reducible rfl)) hHeld ?_
      try simp only [Act.put, List.setIfInBounds_toArray, List.set_cons_zero, List.set_cons_succ]
      refine take_in (i := 5) _ (some 21) (by kernel_rfl) (by kernel_rfl) (by kernel_rfl) (by kernel_rfl) (fun _ _ _ h => h) (by rfl) (fun o ho w hSw => by cases ho; (try dsimp only at hSw); (try go_split_ands); go_simp; (try with_reducible rfl)) hHeld ?_
      try simp only [Act.put, List.setIfInBounds_toArray, List.set_cons_zero, List.set_cons_succ]
      refine take_in (i := 6) _ (some 22) (by kernel_rfl) (by kernel_rfl) (by kernel_rfl) (by kernel_rfl) (fun _ _ _ h => h) (by rfl) (fun o ho w hSw => by cases ho; (try dsimp only at hSw); (try go_split_ands); go_simp; (try with_reducible rfl)) hHeld ?_
      try simp only [Act.put, List.setIfInBounds_toArray, List.set_cons_zero, List.set_cons_succ]
      refine take_in (i := 7) _ (some 23) (by kernel_rfl) (by kernel_rfl) (by kernel_rfl) (by kernel_rfl) (fun _ _ _ h => h) (by rfl) (fun o ho w hSw => by cases ho; (try dsimp only at hSw); (try go_split_ands); go_simp; (try with_reducible rfl)) hHeld ?_
      try simp only [Act.put, List.setIfInBounds_toArray, List.set_cons_zero, List.set_cons_succ]
      refine take_in (i := 8) _ (some 24) (by kernel_rfl) (by kernel_rfl) (by kernel_rfl) (by kernel_rfl) (fun _ _ _ h => h) (by rfl) (fun o ho w hSw => by cases ho; (try dsimp only at hSw); (try go_split_ands); go_simp; exact ne2w) hHeld ?_
      try simp only [Act.put, List.setIfInBounds_toArray, List.set_cons_zero, List.set_cons_succ]
      refine wpAnyH_done (by kernel_rfl) ?_ _
      refine NoPanic.normal ?_
      rw [HNE.out]
      cases eb with
      | false =>
        have HF : Hid (decide (xs.map lhK = ys.map lhK) = false) := decide_eq_false (map_ne_of lhK HXK.out HYK.out (of_decide_eq_false HEB.out))
        go_wp2
        go_ret
        exact ⟨ret_bool HF.out.symm, HBD.out⟩
      | true =>
        have HN := Lib.hid (step_eq hall.out HXK.out HYK.out (of_decide_eq_true HEB.out))
        go_wp2
        go_roundw
        case rel => exact ⟨k + 1, by omega, by go_num, HN, HBD⟩
        case measure => simp [intOf]; omega
  · have d0 : ((n : Int) != (m : Int)) = true := by simp; omega
    have HF : Hid (decide (xs.map lhK = ys.map lhK) = false) := decide_eq_false (map_ne_len lhK hl1 hl2 hnm)
    clear hl1 hl2 hnm
    go_enter Tryz.func61, Tryz.ntmps61
    go_wp2
    go_ret
    exact ⟨ret_bool HF.out.symm, HB0.out⟩
end Go.Proofs.YtplppbgkkfjknaaGreatDoor
namespace Go.Proofs.YtplppbgkkfjknaaGreatDoor
open Go.RowKit

set_option linter.unusedVariables false
set_option linter.unusedSimpArgs false
theorem evK_pair {x y : EV} : (x.inn = y.inn ∧ x.hs.map lhK = y.hs.map lhK) ↔ evK x = evK y := by
  unfold evK
  rw [Prod.mk.injEq]
set_option maxRecDepth 100000 in
set_option maxHeartbeats 4000000 in
theorem sameLabels52_any (A B : Option Addr) (n c m d N : Nat) (xs ys : List EV) (w : World) (hx : Tab w N A n c xs) (hy : Tab w N B m d ys) (hN : N ≤ w.heap.size) (hn : n ≤ 140737488355328) (hm : m ≤ 140737488355328) (hxe : ∀ e ∈ xs, e.n ≤ 140737488355328) (hye : ∀ e ∈ ys, e.n ≤ 140737488355328) :
    Calls Tryz.prog 27 #[.slice A n c, .slice B m d] w fun e w' => e = .returned (.bool (decide (xs.map evK = ys.map evK))) ∧ Below w.heap.size w w' := by
  have hl1 : xs.length = n := hx.len
  have hl2 : ys.length = m := hy.len
  have HXW : Hid (∀ W, Below w.heap.size w W → Tab W N A n c xs) := fun W h => hx.below (h.mono hN)
  have HYW : Hid (∀ W, Below w.heap.size w W → Tab W N B m d ys) := fun W h => hy.below (h.mono hN)
  have HXE := Lib.hid hxe
  have HYE := Lib.hid hye
  have HB0 : Hid (Below w.heap.size w w) := Below.refl _ _
  clear hx hy hxe hye
  by_cases hnm : n = m
  · subst hnm
    have HL := Lib.hid (show xs.length = n ∧ ys.length = n from ⟨hl1, hl2⟩)
    clear hl1 hl2
    go_enter Tryz.func27, Tryz.ntmps27
    go_wp2
    go_loopw [13] (fun iv wr => EqI evK w xs ys n iv wr) (fun iv _ => n - (intOf iv).toNat)
    case atStart => exact ⟨0, Nat.zero_le _, rfl, fun j p q hj => absurd hj (by omega), HB0⟩
    case round =>
      obtain ⟨k, hk, rfl, hall, hb⟩ := hrel
      by_cases hlt : k < n
      case neg =>
        obtain rfl : k = n := by omega
        have HF : Hid (decide (xs.map evK = ys.map evK) = true) := decide_eq_true (map_eq_of evK HL.out.1 HL.out.2 hall.out)
        go_wp2
        go_ret
        exact ⟨ret_bool HF.out.symm, hb.out⟩
      obtain ⟨wD, hwD⟩ : ∃ wD, wr.drew = wD := ⟨_, rfl⟩
      have hbD : Below wr.heap.size wr wD := by rw [← hwD]; exact (Below.refl _ _).drew
      have HBD := Lib.hid (below3 hb.out hbD)
      obtain ⟨b, o, x, rfl, hbN, hxk, hxh, c0, c1⟩ := (HXW.out _ HBD.out).get hlt
      obtain ⟨b', o', y, rfl, hbM, hyk, hyh, e0, e1⟩ := (HYW.out _ HBD.out).get hlt
      have HXK := Lib.hid hxk
      have HYK := Lib.hid hyk
      have HC := Lib.hid (hops52_any x.A y.A x.n x.c y.n y.c N x.hs y.hs wD hxh hyh (by have := HBD.out.size; omega) (HXE.out x (List.mem_of_getElem? hxk)) (HYE.out y (List.mem_of_getElem? hyk)))
      have HKX : Hid ((x.inn = y.inn ∧ x.hs.map lhK = y.hs.map lhK) ↔ evK x = evK y) := evK_pair
      obtain ⟨x0, xA, xn, xc, xh⟩ := x
      obtain ⟨y0, yA, yn, yc, yh⟩ := y
      dsimp only at c0 c1 e0 e1 HC HKX
      obtain ⟨eb, heb⟩ : ∃ eb, decide (xh.map lhK = yh.map lhK) = eb := ⟨_, rfl⟩
      have HEB := Lib.hid heb
      rw [heb] at HC
      have hbb : b < wD.heap.size := by have := HBD.out.size; omega
      have hbb' : b' < wD.heap.size := by have := HBD.out.size; omega
      have HS : Hid ((wD.cell? ⟨b, o + k * 2, none⟩ = some (.int .i64 x0) ∧ wD.cell? ⟨b, o + k * 2 + 1, none⟩ = some (.slice xA xn xc)) ∧ wD.cell? ⟨b', o' + k * 2, none⟩ = some (.int .i64 y0) ∧ wD.cell? ⟨b', o' + k * 2 + 1, none⟩ = some (.slice yA yn yc)) := ⟨⟨c0, c1⟩, e0, e1⟩
      have HSW : Hid (∀ V, Below wD.heap.size wD V → (V.cell? ⟨b, o + k * 2, none⟩ = some (.int .i64 x0) ∧ V.cell? ⟨b, o + k * 2 + 1, none⟩ = some (.slice xA xn xc)) ∧ V.cell? ⟨b', o' + k * 2, none⟩ = some (.int .i64 y0) ∧ V.cell? ⟨b', o' + k * 2 + 1, none⟩ = some (.slice yA yn yc)) := fun V hV => ⟨⟨(hV.cell (p := ⟨b, _, none⟩) hbb).trans c0, (hV.cell (p := ⟨b, _, none⟩) hbb).trans c1⟩, (hV.cell (p := ⟨b', _, none⟩) hbb').trans e0, (hV.cell (p := ⟨b', _, none⟩) hbb').trans e1⟩
      clear c0 c1 e0 e1 hbD hxk hyk heb hxh hyh
      by_cases h0 : x0 = y0
      case neg =>
        have d0 : (x0 != y0) = true := by simp [h0]
        have HNE : Hid (evK ⟨x0, xA, xn, xc, xh⟩ ≠ evK ⟨y0, yA, yn, yc, yh⟩) := fun h => h0 (HKX.out.2 h).1
        clear h0 HC
        go_upto_region 6 with fail
        refine wp_region_noPanic ?_
        refine wp_region_held_drew (S := fun V => (V.cell? ⟨b, o + k * 2, none⟩ = some (.int .i64 x0) ∧ V.cell? ⟨b, o + k * 2 + 1, none⟩ = some (.slice xA xn xc)) ∧ V.cell? ⟨b', o' + k * 2, none⟩ = some (.int .i64 y0) ∧ V.cell? ⟨b', o' + k * 2 + 1, none⟩ = some (.slice yA yn yc)) (by kernel_rfl) (by rw [hwD]; exact HS.out) (fun hHeld => ?_)
        rw [hwD] at hHeld ⊢
        clear hwD
        refine take_in (i := 0) _ (some 16) (by kernel_rfl) (by kernel_rfl) (by kernel_rfl) (by kernel_rfl) (fun _ _ _ h => h) (by rfl) (fun o ho w hSw => by cases ho; (try dsimp only at hSw); (try go_split_ands); go_simp; (try with_reducible rfl)) hHeld ?_
        try simp only [Act.put, List.setIfInBounds_toArray, List.set_cons_zero, List.set_cons_succ]
        refine take_in (i := 1) _ (some 17) (by kernel_rfl) (by kernel_rfl) (by kernel_rfl) (by kernel_rfl) (fun _ _ _ h => h) (by rfl) (fun o ho w hSw => by cases ho; (try dsimp only at hSw); (try go_split_ands); go_simp; (try with_reducible rfl)) hHeld ?_
        try simp only [Act.put, List.setIfInBounds_toArray, List.set_cons_zero, List.set_cons_succ]
        refine take_in (i := 2) _ (some 18) (by kernel_rfl) (by kernel_rfl) (by kernel_rfl) (by kernel_rfl) (fun _ _ _ h => h) (by rfl) (fun o ho w hSw => by cases ho; (try dsimp only at hSw); (try go_split_ands); go_simp; (try with_reducible rfl)) hHeld ?_
        try simp only [Act.put, List.setIfInBounds_toArray, List.set_cons_zero, List.set_cons_succ]
        refine take_in (i := 3) _ (some 19) (by kernel_rfl) (by kernel_rfl) (by kernel_rfl) (by kernel_rfl) (fun _ _ _ h => h) (by rfl) (fun o ho w hSw => by cases ho; (try dsimp only at hSw); (try go_split_ands); go_simp; (try with_reducible rfl)) hHeld ?_
        try simp only [Act.put, List.setIfInBounds_toArray, List.set_cons_zero, List.set_cons_succ]
        refine take_in (i := 4) _ (some 20) (by kernel_rfl) (by kernel_rfl) (by kernel_rfl) (by kernel_rfl) (fun _ _ _ h => h) (by rfl) (fun o ho w hSw => by cases ho; (try dsimp only at hSw); (try go_split_ands); go_simp; (try with_reducible rfl)) hHeld ?_
        try simp only [Act.put, List.setIfInBounds_toArray, List.set_cons_zero, List.set_cons_succ]
        refine take_in (i := 5) _ (some 21) (by kernel_rfl) (by kernel_rfl) (by kernel_rfl) (by kernel_rfl) (fun _ _ _ h => h) (by rfl) (fun o ho w hSw => by cases ho; (try dsimp only at hSw); (try go_split_ands); go_simp; (try with_reducible rfl)) hHeld ?_
        try simp only [Act.put, List.setIfInBounds_toArray, List.set_cons_zero, List.set_cons_succ]
        refine take_in (i := 6) _ (some 22) (by kernel_rfl) (by kernel_rfl) (by kernel_rfl) (by kernel_rfl) (fun _ _ _ h => h) (by rfl) (fun o ho w hSw => by cases ho; (try dsimp only at hSw); (try go_split_ands); go_simp; (try with_reducible rfl)) hHeld ?_
        try simp only [Act.put, List.setIfInBounds_toArray, List.set_cons_zero, List.set_cons_succ]
        refine take_in (i := 7) _ (some 23) (by kernel_rfl) (by kernel_rfl) (by kernel_rfl) (by kernel_rfl) (fun _ _ _ h => h) (by rfl) (fun o ho w hSw => by cases ho; (try dsimp only at hSw); (try go_split_ands); go_simp; (try with_reducible rfl)) hHeld ?_
        try simp only [Act.put, List.setIfInBounds_toArray, List.set_cons_zero, List.set_cons_succ]
        refine take_in (i := 8) _ (some 24) (by kernel_rfl) (by kernel_rfl) (by kernel_rfl) (by kernel_rfl) (fun _ _ _ h => h) (by rfl) (fun o ho w hSw => by cases ho; (try dsimp only at hSw); (try go_split_ands); go_simp; (try with_reducible rfl)) hHeld ?_
        try simp only [Act.put, List.setIfInBounds_toArray, List.set_cons_zero, List.set_cons_succ]
        refine take_in (i := 9) _ (some 25) (by kernel_rfl) (by kernel_rfl) (by kernel_rfl) (by kernel_rfl) (fun _ _ _ h => h) (by rfl) (fun o ho w hSw => by cases ho; (try dsimp only at hSw); (try go_split_ands); go_simp; (try with_reducible rfl)) hHeld ?_
        try simp only [Act.put, List.setIfInBounds_toArray, List.set_cons_zero, List.set_cons_succ]
        refine take_in (i := 10) _ (some 26) (by kernel_rfl) (by kernel_rfl) (by kernel_rfl) (by kernel_rfl) (fun _ _ _ h => h) (by rfl) (fun o ho w hSw => by cases ho; (try dsimp only at hSw); (try go_split_ands); go_simp; (try with_reducible rfl)) hHeld ?_
        try simp only [Act.put, List.setIfInBounds_toArray, List.set_cons_zero, List.set_cons_succ]
        refine take_in (i := 11) _ (some 27) (by kernel_rfl) (by kernel_rfl) (by kernel_rfl) (by kernel_rfl) (fun _ _ _ h => h) (by rfl) (fun o ho w hSw => by cases ho; (try dsimp only at hSw); (try go_split_ands); go_simp; (try with_reducible rfl)) hHeld ?_
        try simp only [Act.put, List.setIfInBounds_toArray, List.set_cons_zero, List.set_cons_succ]
        refine take_un (i := 12) (some 28) (by kernel_rfl) (by kernel_rfl) (by kernel_rfl) (by kernel_rfl) (fun _ _ _ h => h) (by rfl) hHeld ?_
        try simp only [Act.put, List.setIfInBounds_toArray, List.set_cons_zero, List.set_cons_succ]
        refine take_un (i := 13) (some 29) (by kernel_rfl) (by kernel_rfl) (by kernel_rfl) (by kernel_rfl) (fun _ _ _ h => h) (by rfl) hHeld ?_
        try simp only [Act.put, List.setIfInBounds_toArray, List.set_cons_zero, List.set_cons_succ]
        refine take_un (i := 14) (some 30) (by kernel_rfl) (by kernel_rfl) (by kernel_rfl) (by kernel_rfl) (fun _ _ _ h => h) (by rfl) hHeld ?_
        try simp only [Act.put, List.setIfInBounds_toArray, List.set_cons_zero, List.set_cons_succ]
        refine take_un (i := 15) (some 31) (by kernel_rfl) (by kernel_rfl) (by kernel_rfl) (by kernel_rfl) (fun _ _ _ h => h) (by rfl) hHeld ?_
        try simp only [Act.put, List.setIfInBounds_toArray, List.set_cons_zero, List.set_cons_succ]
        refine take_un (i := 16) (some 32) (by kernel_rfl) (by kernel_rfl) (by kernel_rfl) (by kernel_rfl) (fun _ _ _ h => h) (by rfl) hHeld ?_
        try simp only [Act.put, List.setIfInBounds_toArray, List.set_cons_zero, List.set_cons_succ]
        refine take_un (i := 17) (some 33) (by kernel_rfl) (by kernel_rfl) (by kernel_rfl) (by kernel_rfl) (fun _ _ _ h => h) (by rfl) hHeld ?_
        try simp only [Act.put, List.setIfInBounds_toArray, List.set_cons_zero, List.set_cons_succ]
        refine take_un (i := 18) (some 34) (by kernel_rfl) (by kernel_rfl) (by kernel_rfl) (by kernel_rfl) (fun _ _ _ h => h) (by rfl) hHeld ?_
        try simp only [Act.put, List.setIfInBounds_toArray, List.set_cons_zero, List.set_cons_succ]
        refine take_un (i := 19) (some 35) (by kernel_rfl) (by kernel_rfl) (by kernel_rfl) (by kernel_rfl) (fun _ _ _ h => h) (by rfl) hHeld ?_
        try simp only [Act.put, List.setIfInBounds_toArray, List.set_cons_zero, List.set_cons_succ]
        refine take_un (i := 20) (some 36) (by kernel_rfl) (by kernel_rfl) (by kernel_rfl) (by kernel_rfl) (fun _ _ _ h => h) (by rfl) hHeld ?_
        try simp only [Act.put, List.setIfInBounds_toArray, List.set_cons_zero, List.set_cons_succ]
        refine take_un (i := 21) (some 37) (by kernel_rfl) (by kernel_rfl) (by kernel_rfl) (by kernel_rfl) (fun _ _ _ h => h) (by rfl) hHeld ?_
        try simp only [Act.put, List.setIfInBounds_toArray, List.set_cons_zero, List.set_cons_succ]
        refine take_un (i := 22) (some 38) (by kernel_rfl) (by kernel_rfl) (by kernel_rfl) (by kernel_rfl) (fun _ _ _ h => h) (by rfl) hHeld ?_
        try simp only [Act.put, List.setIfInBounds_toArray, List.set_cons_zero, List.set_cons_succ]
        refine take_un (i := 23) (some 39) (by kernel_rfl) (by kernel_rfl) (by kernel_rfl) (by kernel_rfl) (fun _ _ _ h => h) (by rfl) hHeld ?_
        try simp only [Act.put, List.setIfInBounds_toArray, List.set_cons_zero, List.set_cons_succ]
        refine take_in (i := 24) _ (some 40) (by kernel_rfl) (by kernel_rfl) (by kernel_rfl) (by kernel_rfl) (fun _ _ _ h => h) (by rfl) (fun o ho w hSw => by cases ho; (try dsimp only at hSw); (try go_split_ands); go_simp; (try with_reducible rfl)) hHeld ?_
        try simp only [Act.put, List.setIfInBounds_toArray, List.set_cons_zero, List.set_cons_succ]
        refine wpAnyH_done (by kernel_rfl) ?_ _
        refine NoPanic.normal ?_
        have HF : Hid (decide (xs.map evK = ys.map evK) = false) := decide_eq_false (map_ne_of evK HXK.out HYK.out HNE.out)
        go_wp2
        go_ret
        exact ⟨ret_bool HF.out.symm, HBD.out⟩
      subst h0
      have d0 : (x0 != x0) = false := by simp
      go_upto_region 6 with fail
      refine wp_region_noPanic ?_
      refine wp_region_held_drew (S := fun V => (V.cell? ⟨b, o + k * 2, none⟩ = some (.int .i64 x0) ∧ V.cell? ⟨b, o + k * 2 + 1, none⟩ = some (.slice xA xn xc)) ∧ V.cell? ⟨b', o' + k * 2, none⟩ = some (.int .i64 x0) ∧ V.cell? ⟨b', o' + k * 2 + 1, none⟩ = some (.slice yA yn yc)) (by kernel_rfl) (by rw [hwD]; exact HS.out) (fun hHeld => ?_)
      rw [hwD] at hHeld ⊢
      clear hwD
      refine take_in (i := 0) _ (some 16) (by kernel_rfl) (by kernel_rfl) (by kernel_rfl) (by kernel_rfl) (fun _ _ _ h => h) (by rfl) (fun o ho w hSw => by cases ho; (try dsimp only at hSw); (try go_split_ands); go_simp; (try with_reducible rfl)) hHeld ?_
      try simp only [Act.put, List.setIfInBounds_toArray, List.set_cons_zero, List.set_cons_succ]
      refine take_in (i := 1) _ (some 17) (by kernel_rfl) (by kernel_rfl) (by kernel_rfl) (by kernel_rfl) (fun _ _ _ h => h) (by rfl) (fun o ho w hSw => by cases ho; (try dsimp only at hSw); (try go_split_ands); go_simp; (try with_reducible rfl)) hHeld ?_
      try simp only [Act.put, List.setIfInBounds_toArray, List.set_cons_zero, List.set_cons_succ]
      refine take_in (i := 2) _ (some 18) (by kernel_rfl) (by kernel_rfl) (by kernel_rfl) (by kernel_rfl) (fun _ _ _ h => h) (by rfl) (fun o ho w hSw => by cases ho; (try dsimp only at hSw); (try go_split_ands); go_simp; (try with_reducible rfl)) hHeld ?_
      try simp only [Act.put, List.setIfInBounds_toArray, List.set_cons_zero, List.set_cons_succ]
      refine take_in (i := 3) _ (some 19) (by kernel_rfl) (by kernel_rfl) (by kernel_rfl) (by kernel_rfl) (fun _ _ _ h => h) (by rfl) (fun o ho w hSw => by cases ho; (try dsimp only at hSw); (try go_split_ands); go_simp; (try with_reducible rfl)) hHeld ?_
      try simp only [Act.put, List.setIfInBounds_toArray, List.set_cons_zero, List.set_cons_succ]
      refine take_in (i := 4) _ (some 20) (by kernel_rfl) (by kernel_rfl) (by kernel_rfl) (by kernel_rfl) (fun _ _ _ h => h) (by rfl) (fun o ho w hSw => by cases ho; (try dsimp only at hSw); (try go_split_ands); go_simp; (try with_reducible rfl)) hHeld ?_
      try simp only [Act.put, List.setIfInBounds_toArray, List.set_cons_zero, List.set_cons_succ]
      refine take_in (i := 5) _ (some 21) (by kernel_rfl) (by kernel_rfl) (by kernel_rfl) (by kernel_rfl) (fun _ _ _ h => h) (by rfl) (fun o ho w hSw => by cases ho; (try dsimp only at hSw); (try go_split_ands); go_simp; (try with_reducible rfl)) hHeld ?_
      try simp only [Act.put, List.setIfInBounds_toArray, List.set_cons_zero, List.set_cons_succ]
      refine take_in (i := 6) _ (some 22) (by kernel_rfl) (by kernel_rfl) (by kernel_rfl) (by kernel_rfl) (fun _ _ _ h => h) (by rfl) (fun o ho w hSw => by cases ho; (try dsimp only at hSw); (try go_split_ands); go_simp; (try with_reducible rfl)) hHeld ?_
      try simp only [Act.put, List.setIfInBounds_toArray, List.set_cons_zero, List.set_cons_succ]
      refine take_in (i := 7) _ (some 23) (by kernel_rfl) (by kernel_rfl) (by kernel_rfl) (by kernel_rfl) (fun _ _ _ h => h) (by rfl) (fun o ho w hSw => by cases ho; (try dsimp only at hSw); (try go_split_ands); go_simp; (try with_reducible rfl)) hHeld ?_
      try simp only [Act.put, List.setIfInBounds_toArray, List.set_cons_zero, List.set_cons_succ]
      refine take_in (i := 8) _ (some 24) (by kernel_rfl) (by kernel_rfl) (by kernel_rfl) (by kernel_rfl) (fun _ _ _ h => h) (by rfl) (fun o ho w hSw => by cases ho; (try dsimp only at hSw); (try go_split_ands); go_simp; (try with_reducible rfl)) hHeld ?_
      try simp only [Act.put, List.setIfInBounds_toArray, List.set_cons_zero, List.set_cons_succ]
      refine take_in (i := 9) _ (some 25) (by kernel_rfl) (by kernel_rfl) (by kernel_rfl) (by kernel_rfl) (fun _ _ _ h => h) (by rfl) (fun o ho w hSw => by cases ho; (try dsimp only at hSw); (try go_split_ands); go_simp; (try with_reducible rfl)) hHeld ?_
      try simp only [Act.put, List.setIfInBounds_toArray, List.set_cons_zero, List.set_cons_succ]
      refine take_in (i := 10) _ (some 26) (by kernel_rfl) (by kernel_rfl) (by kernel_rfl) (by kernel_rfl) (fun _ _ _ h => h) (by rfl) (fun o ho w hSw => by cases ho; (try dsimp only at hSw); (try go_split_ands); go_simp; (try with_reducible rfl)) hHeld ?_
      try simp only [Act.put, List.setIfInBounds_toArray, List.set_cons_zero, List.set_cons_succ]
      refine take_in (i := 11) _ (some 27) (by kernel_rfl) (by kernel_rfl) (by kernel_rfl) (by kernel_rfl) (fun _ _ _ h => h) (by rfl) (fun o ho w hSw => by cases ho; (try dsimp only at hSw); (try go_split_ands); go_simp; (try with_reducible rfl)) hHeld ?_
      try simp only [Act.put, List.setIfInBounds_toArray, List.set_cons_zero, List.set_cons_succ]
      refine take_in (i := 12) _ (some 28) (by kernel_rfl) (by kernel_rfl) (by kernel_rfl) (by kernel_rfl) (fun _ _ _ h => h) (by rfl) (fun o ho w hSw => by cases ho; (try dsimp only at hSw); (try go_split_ands); go_simp; (try with_reducible rfl)) hHeld ?_
      try simp only [Act.put, List.setIfInBounds_toArray, List.set_cons_zero, List.set_cons_succ]
      refine take_in (i := 13) _ (some 29) (by kernel_rfl) (by kernel_rfl) (by kernel_rfl) (by kernel_rfl) (fun _ _ _ h => h) (by rfl) (fun o ho w hSw => by cases ho; (try dsimp only at hSw); (try go_split_ands); go_simp; (try with_reducible rfl)) hHeld ?_
      try simp only [Act.put, List.setIfInBounds_toArray, List.set_cons_zero, List.set_cons_succ]
      refine take_in (i := 14) _ (some 30) (by kernel_rfl) (by kernel_rfl) (by kernel_rfl) (by kernel_rfl) (fun _ _ _ h => h) (by rfl) (fun o ho w hSw => by cases ho; (try dsimp only at hSw); (try go_split_ands); go_simp; (try with_reducible rfl)) hHeld ?_
      try simp only [Act.put, List.setIfInBounds_toArray, List.set_cons_zero, List.set_cons_succ]
      refine take_in (i := 15) _ (some 31) (by kernel_rfl) (by kernel_rfl) (by kernel_rfl) (by kernel_rfl) (fun _ _ _ h => h) (by rfl) (fun o ho w hSw => by cases ho; (try dsimp only at hSw); (try go_split_ands); go_simp; (try with_reducible rfl)) hHeld ?_
      try simp only [Act.put, List.setIfInBounds_toArray, List.set_cons_zero, List.set_cons_succ]
      refine take_in (i := 16) _ (some 32) (by kernel_rfl) (by kernel_rfl) (by kernel_rfl) (by kernel_rfl) (fun _ _ _ h => h) (by rfl) (fun o ho w hSw => by cases ho; (try dsimp only at hSw); (try go_split_ands); go_simp; (try with_reducible rfl)) hHeld ?_
      try simp only [Act.put, List.setIfInBounds_toArray, List.set_cons_zero, List.set_cons_succ]
      refine take_in (i := 17) _ (some 33) (by kernel_rfl) (by kernel_rfl) (by kernel_rfl) (by kernel_rfl) (fun _ _ _ h => h) (by rfl) (fun o ho w hSw => by cases ho; (try dsimp only at hSw); (try go_split_ands); go_simp; (try with_reducible rfl)) hHeld ?_
      try simp only [Act.put, List.setIfInBounds_toArray, List.set_cons_zero, List.set_cons_succ]
      refine take_in (i := 18) _ (some 34) (by kernel_rfl) (by kernel_rfl) (by kernel_rfl) (by kernel_rfl) (fun _ _ _ h => h) (by rfl) (fun o ho w hSw => by cases ho; (try dsimp only at hSw); (try go_split_ands); go_simp; (try with_reducible rfl)) hHeld ?_
      try simp only [Act.put, List.setIfInBounds_toArray, List.set_cons_zero, List.set_cons_succ]
      refine take_in (i := 19) _ (some 35) (by kernel_rfl) (by kernel_rfl) (by kernel_rfl) (by kernel_rfl) (fun _ _ _ h => h) (by rfl) (fun o ho w hSw => by cases ho; (try dsimp only at hSw); (try go_split_ands); go_simp; (try with_reducible rfl)) hHeld ?_
      try simp only [Act.put, List.setIfInBounds_toArray, List.set_cons_zero, List.set_cons_succ]
      refine take_in (i := 20) _ (some 36) (by kernel_rfl) (by kernel_rfl) (by kernel_rfl) (by kernel_rfl) (fun _ _ _ h => h) (by rfl) (fun o ho w hSw => by cases ho; (try dsimp only at hSw); (try go_split_ands); go_simp; (try with_reducible rfl)) hHeld ?_
      try simp only [Act.put, List.setIfInBounds_toArray, List.set_cons_zero, List.set_cons_succ]
      refine take_in (i := 21) _ (some 37) (by kernel_rfl) (by kernel_rfl) (by kernel_rfl) (by kernel_rfl) (fun _ _ _ h => h) (by rfl) (fun o ho w hSw => by cases ho; (try dsimp only at hSw); (try go_split_ands); go_simp; (try with_reducible rfl)) hHeld ?_
      try simp only [Act.put, List.setIfInBounds_toArray, List.set_cons_zero, List.set_cons_succ]
      refine wpAnyH_ready (rs := [22]) (by kernel_rfl) (by simp) ?_
      refine AllReadyH.cons (o := _) rfl (fun K hK => ?_) AllReadyH.nil
      go_simp
      go_at_call 61
      with_reducible refine HC.out.mono ?_
      rintro e w3 ⟨rfl, hb3⟩
      have HB3 := Lib.hid (below3 HBD.out hb3)
      have HS3 := Lib.hid (HSW.out _ hb3)
      clear hb3
      refine hK.out _ _ HS3.out (fun hHeld => ?_)
      clear hK K
      try simp only [Act.put, List.setIfInBounds_toArray, List.set_cons_zero, List.set_cons_succ]
      refine take_in (i := 23) _ (some 39) (by kernel_rfl) (by kernel_rfl) (by kernel_rfl) (by kernel_rfl) (fun _ _ _ h => h) (by rfl) (fun o ho w hSw => by cases ho; (try dsimp only at hSw); (try go_split_ands); go_simp; (try with_reducible rfl)) hHeld ?_
      try simp only [Act.put, List.setIfInBounds_toArray, List.set_cons_zero, List.set_cons_succ]
      refine take_in (i := 24) _ (some 40) (by kernel_rfl) (by kernel_rfl) (by kernel_rfl) (by kernel_rfl) (fun _ _ _ h => h) (by rfl) (fun o ho w hSw => by cases ho; (try dsimp only at hSw); (try go_split_ands); go_simp; (try with_reducible rfl)) hHeld ?_
      try simp only [Act.put, List.setIfInBounds_toArray, List.set_cons_zero, List.set_cons_succ]
      refine wpAnyH_done (by kernel_rfl) ?_ _
      refine NoPanic.normal ?_
      cases eb with
      | false =>
        have HF : Hid (decide (xs.map evK = ys.map evK) = false) := decide_eq_false (map_ne_of evK HXK.out HYK.out fun h => (of_decide_eq_false HEB.out) (HKX.out.2 h).2)
        go_wp2
        go_ret
        exact ⟨ret_bool HF.out.symm, HB3.out⟩
      | true =>
        have HN := Lib.hid (step_eq hall.out HXK.out HYK.out (HKX.out.1 ⟨rfl, of_decide_eq_true HEB.out⟩))
        clear HC HSW HS3
        go_wp2
        go_roundw
        case rel => exact ⟨k + 1, by omega, by go_num, HN, HB3⟩
        case measure => simp [intOf]; omega
  · have d0 : ((n : Int) != (m : Int)) = true := by simp; omega
    have HF : Hid (decide (xs.map evK = ys.map evK) = false) := decide_eq_false (map_ne_len evK hl1 hl2 hnm)
    clear hl1 hl2 hnm
    go_enter Tryz.func27, Tryz.ntmps27
    go_wp2
    go_ret
    exact ⟨ret_bool HF.out.symm, HB0.out⟩
section
variable {es es' : List Ent} {gs gs' : List GE} {ls ls' : List Int} {bs bs' : List EV} {ns ns' : List NH}
theorem sameF_t (h : es.map entK ≠ es'.map entK) : sameF es es' gs gs' ls ls' bs bs' ns ns' = false := by unfold sameF; rw [decide_eq_false h]; rfl
theorem sameF_g (h : gs.map grK ≠ gs'.map grK) : sameF es es' gs gs' ls ls' bs bs' ns ns' = false := by unfold sameF; rw [decide_eq_false h]; simp
theorem sameF_l (h : ls ≠ ls') : sameF es es' gs gs' ls ls' bs bs' ns ns' = false := by unfold sameF; rw [decide_eq_false h]; simp
theorem sameF_n (h : ns.map nhK ≠ ns'.map nhK) : sameF es es' gs gs' ls ls' bs bs' ns ns' = false := by unfold sameF; rw [decide_eq_false h]; simp
theorem sameF_b (h1 : es.map entK = es'.map entK) (h2 : gs.map grK = gs'.map grK) (h3 : ls = ls') (h5 : ns.map nhK = ns'.map nhK) : sameF es es' gs gs' ls ls' bs bs' ns ns' = decide (bs.map evK = bs'.map evK) := by
  unfold sameF
  rw [decide_eq_true h1, decide_eq_true h2, decide_eq_true h3, decide_eq_true h5]
  simp
end
theorem ints_ext {xs ys : List Int} {n : Nat} (h1 : xs.length = n) (h2 : ys.length = n) (h : xs.map id = ys.map id) : xs = ys := by simpa using h
set_option maxRecDepth 100000 in
set_option maxHeartbeats 16000000 in
theorem same52_any (tA gA lA bA nA : Option Addr) (tn tc gn gc ln lc bn bc nn nc : Nat) (tB gB lB bB nB : Option Addr) (tm td gm gd lm ld bm bd nm nd : Nat) (N : Nat) (es es' : List Ent) (gs gs' : List GE) (ls ls' : List Int) (bs bs' : List EV) (ns ns' : List NH) (w : World) (hx : FibAt w N tA gA lA bA nA tn tc gn gc ln lc bn bc nn nc es gs ls bs ns) (hy : FibAt w N tB gB lB bB nB tm td gm gd lm ld bm bd nm nd es' gs' ls' bs' ns') (hN : N ≤ w.heap.size) (hsx : ∀ g ∈ gs, Short g.ps) (hsy : ∀ g ∈ gs', Short g.ps) :
    Calls Tryz.prog 12 #[.agg #[.slice tA tn tc, .slice gA gn gc, .slice lA ln lc, .slice bA bn bc, .slice nA nn nc], .agg #[.slice tB tm td, .slice gB gm gd, .slice lB lm ld, .slice bB bm bd, .slice nB nm nd]] w fun e w' => e = .returned (.bool (sameF es es' gs gs' ls ls' bs bs' ns ns')) ∧ Below w.heap.size w w' := by
  obtain ⟨w1, hw1⟩ : ∃ w1, (w.alloc (.cells #[.slice tA tn tc, .slice gA gn gc, .slice lA ln lc, .slice bA bn bc, .slice nA nn nc] 35)).alloc (.cells #[.slice tB tm td, .slice gB gm gd, .slice lB lm ld, .slice bB bm bd, .slice nB nm nd] 35) = w1 := ⟨_, rfl⟩
  have HF1 : Hid (Blk w1 w.heap.size 35 [.slice tA tn tc, .slice gA gn gc, .slice lA ln lc, .slice bA bn bc, .slice nA nn nc]) := by show Blk _ _ _ _; rw [← hw1]; exact (Blk.new w _ _).keep (belowA _ _)
  have HG1 : Hid (Blk w1 (w.heap.size + 1) 35 [.slice tB tm td, .slice gB gm gd, .slice lB lm ld, .slice bB bm bd, .slice nB nm nd]) := by show Blk _ _ _ _; rw [← hw1]; exact Blk.new2 w _ _ _
  have HB1 : Hid (Below w.heap.size w w1) := by show Below _ _ _; rw [← hw1]; exact below3 (belowA _ _) (belowA _ _)
  have HXW : Hid (∀ W, Below w.heap.size w W → FibAt W N tA gA lA bA nA tn tc gn gc ln lc bn bc nn nc es gs ls bs ns) := fun W h => hx.below (h.mono hN)
  have HYW : Hid (∀ W, Below w.heap.size w W → FibAt W N tB gB lB bB nB tm td gm gd lm ld bm bd nm nd es' gs' ls' bs' ns') := fun W h => hy.below (h.mono hN)
  have HSX := Lib.hid hsx
  have HSY := Lib.hid hsy
  have HBN : Hid (∀ W, Below w.heap.size w W → N ≤ W.heap.size) := fun W h => by have := h.size; omega
  have ht1 := hx.t.len
  have ht2 := hy.t.len
  have hg1 := hx.g.1.2
  have hg2 := hy.g.1.2
  have hl1 := hx.l.len
  have hl2 := hy.l.len
  have hn1 : ns.length = nn := hx.n.2
  have hn2 : ns'.length = nm := hy.n.2
  have HGP : Hid (∀ g ∈ gs, g.n ≤ 140737488355328) := hx.gp
  have HGQ : Hid (∀ g ∈ gs', g.n ≤ 140737488355328) := hy.gp
  have HTN : Hid (tn ≤ 140737488355328 ∧ gn ≤ 140737488355328 ∧ ln ≤ 140737488355328 ∧ nn ≤ 140737488355328) := ⟨hx.tn, hx.gn, hx.ln, hx.nn⟩
  have f0 := HF1.out.cell 0
  have f1 := HF1.out.cell 1
  have f2 := HF1.out.cell 2
  have f3 := HF1.out.cell 3
  have f4 := HF1.out.cell 4
  simp only [List.getElem?_cons_zero, List.getElem?_cons_succ] at f0 f1 f2 f3 f4
  have g0 := HG1.out.cell 0
  have g1 := HG1.out.cell 1
  have g2 := HG1.out.cell 2
  have g3 := HG1.out.cell 3
  have g4 := HG1.out.cell 4
  simp only [List.getElem?_cons_zero, List.getElem?_cons_succ] at g0 g1 g2 g3 g4
  have hlt1 := HG1.out.lt
  have hlt0 : w.heap.size < w1.heap.size := by omega
  clear hx hy hsx hsy
  by_cases h : tn = tm
  case neg =>
    have HF : Hid (sameF es es' gs gs' ls ls' bs bs' ns ns' = false) := sameF_t (map_ne_len entK ht1 ht2 h)
    have d : ((tn : Int) != (tm : Int)) = true := by simp; omega
    clear h ht1 ht2 hg1 hg2 hl1 hl2 hn1 hn2
    go_enter Tryz.func12, Tryz.ntmps12
    go_wp2
    go_ret
    exact ⟨ret_bool HF.out.symm, HB1.out⟩
  subst h
  have dt : ((tn : Int) != (tn : Int)) = false := by simp
  by_cases h : gn = gm
  case neg =>
    have HF : Hid (sameF es es' gs gs' ls ls' bs bs' ns ns' = false) := sameF_g (map_ne_len grK hg1 hg2 h)
    have d : ((gn : Int) != (gm : Int)) = true := by simp; omega
    clear h ht1 ht2 hg1 hg2 hl1 hl2 hn1 hn2
    go_enter Tryz.func12, Tryz.ntmps12
    go_wp2
    go_ret
    exact ⟨ret_bool HF.out.symm, HB1.out⟩
  subst h
  have dg : ((gn : Int) != (gn : Int)) = false := by simp
  by_cases h : ln = lm
  case neg =>
    have HF : Hid (sameF es es' gs gs' ls ls' bs bs' ns ns' = false) := sameF_l (fun e => h (by rw [← hl1, ← hl2, e]))
    have d : ((ln : Int) != (lm : Int)) = true := by simp; omega
    clear h ht1 ht2 hg1 hg2 hl1 hl2 hn1 hn2
    go_enter Tryz.func12, Tryz.ntmps12
    go_wp2
    go_ret
    exact ⟨ret_bool HF.out.symm, HB1.out⟩
  subst h
  have dl : ((ln : Int) != (ln : Int)) = false := by simp
  by_cases h : nn = nm
  case neg =>
    have HF : Hid (sameF es es' gs gs' ls ls' bs bs' ns ns' = false) := sameF_n (map_ne_len nhK hn1 hn2 h)
    have d : ((nn : Int) != (nm : Int)) = true := by simp; omega
    clear h ht1 ht2 hg1 hg2 hl1 hl2 hn1 hn2
    go_enter Tryz.func12, Tryz.ntmps12
    go_wp2
    go_ret
    exact ⟨ret_bool HF.out.symm, HB1.out⟩
  subst h
  have dn : ((nn : Int) != (nn : Int)) = false := by simp
  have HLT := Lib.hid (And.intro ht1 ht2)
  have HLG := Lib.hid (And.intro hg1 hg2)
  have HLL := Lib.hid (And.intro hl1 hl2)
  have HLN := Lib.hid (And.intro hn1 hn2)
  have HI1 : Hid (EqI entK w1 es es' tn (.int .i64 (0 : Nat)) w1) := ⟨0, Nat.zero_le _, rfl, Lib.hid (fun j p q hj => absurd hj (by omega)), Lib.hid (Below.refl _ _)⟩
  clear ht1 ht2 hg1 hg2 hl1 hl2 hn1 hn2
  go_enter Tryz.func12, Tryz.ntmps12
  go_wp2
  go_loopw [46] (fun iv wr => EqI entK w1 es es' tn iv wr) (fun iv _ => tn - (intOf iv).toNat)
  case atStart => exact HI1.out
  case round =>
    obtain ⟨k1, hk, rfl, hall, hb⟩ := hrel
    clear HI1 f0 f1 f2 f3 f4 g0 g1 g2 g3 g4 hw1 hlt0 hlt1
    obtain ⟨wq1, rfl⟩ : ∃ wq1, wq1 = wr := ⟨_, rfl⟩
    have HBQ1 := Lib.hid (below3 HB1.out hb.out)
    have HFQ := Lib.hid (HF1.out.keep hb.out)
    have HGQ2 := Lib.hid (HG1.out.keep hb.out)
    by_cases hlt : k1 < tn
    case pos =>
      obtain ⟨wD, hwD⟩ : ∃ wD, wq1.drew = wD := ⟨_, rfl⟩
      have hbD : Below wq1.heap.size wq1 wD := by rw [← hwD]; exact (Below.refl _ _).drew
      have HBD := Lib.hid (below3 hb.out hbD)
      have HBW := Lib.hid (below3 HBQ1.out hbD)
      have g0 : wD.cell? ⟨w.heap.size, 0, none⟩ = some (.slice tA tn tc) := (HFQ.out.keep hbD).cell 0
      have g1 : wD.cell? ⟨w.heap.size + 1, 0, none⟩ = some (.slice tB tn td) := (HGQ2.out.keep hbD).cell 0
      have hlF := (HFQ.out.keep hbD).lt
      have hlG := (HGQ2.out.keep hbD).lt
      obtain ⟨b, o, x, hbA, hbN, hxk, _, c0, c1, c2⟩ := (HXW.out _ HBW.out).t.get hlt
      obtain ⟨b', o', y, hbA', hbM, hyk, _, e0, e1, e2⟩ := (HYW.out _ HBW.out).t.get hlt
      subst hbA hbA'
      have HXK := Lib.hid hxk
      have HYK := Lib.hid hyk
      obtain ⟨eb, heb⟩ : ∃ eb, decide (entK x = entK y) = eb := ⟨_, rfl⟩
      have HEB := Lib.hid heb
      obtain ⟨x0, hx0⟩ : ∃ q : Int, (x.a : Int) = q := ⟨_, rfl⟩
      rw [hx0] at c0
      obtain ⟨x1, hx1⟩ : ∃ q : Int, (x.l : Int) = q := ⟨_, rfl⟩
      rw [hx1] at c1
      obtain ⟨x2, hx2⟩ : ∃ q : Int, (x.v : Int) = q := ⟨_, rfl⟩
      rw [hx2] at c2
      obtain ⟨y0, hy0⟩ : ∃ q : Int, (y.a : Int) = q := ⟨_, rfl⟩
      rw [hy0] at e0
      obtain ⟨y1, hy1⟩ : ∃ q : Int, (y.l : Int) = q := ⟨_, rfl⟩
      rw [hy1] at e1
      obtain ⟨y2, hy2⟩ : ∃ q : Int, (y.v : Int) = q := ⟨_, rfl⟩
      rw [hy2] at e2
      have HNE : Hid ((!(decide (x0 = y0) && (decide (x1 = y1) && decide (x2 = y2)))) = !eb) := by
        show _ = _
        rw [← heb, ← hx0, ← hx1, ← hx2, ← hy0, ← hy1, ← hy2, Bool.eq_iff_iff]
        simp [entK]
      have HSD : Hid ((wD.cell? ⟨w.heap.size, 0, none⟩ = some (.slice (some ⟨b, o, none⟩) tn tc) ∧ wD.cell? ⟨w.heap.size + 1, 0, none⟩ = some (.slice (some ⟨b', o', none⟩) tn td)) ∧ (wD.cell? ⟨b, o + k1 * 3, none⟩ = some (.int .u32 x0) ∧ wD.cell? ⟨b, o + k1 * 3 + 1, none⟩ = some (.int .i64 x1) ∧ wD.cell? ⟨b, o + k1 * 3 + 2, none⟩ = some (.int .i64 x2)) ∧ wD.cell? ⟨b', o' + k1 * 3, none⟩ = some (.int .u32 y0) ∧ wD.cell? ⟨b', o' + k1 * 3 + 1, none⟩ = some (.int .i64 y1) ∧ wD.cell? ⟨b', o' + k1 * 3 + 2, none⟩ = some (.int .i64 y2)) := ⟨⟨g0, g1⟩, ⟨c0, c1, c2⟩, e0, e1, e2⟩
      clear c0 c1 c2 e0 e1 e2 g0 g1 hbD hxk hyk heb hx0 hx1 hx2 hy0 hy1 hy2
      go_upto_region 6 with fail
      refine wp_region_noPanic ?_
      refine wp_region_held_drew (S := fun V => (V.cell? ⟨w.heap.size, 0, none⟩ = some (.slice (some ⟨b, o, none⟩) tn tc) ∧ V.cell? ⟨w.heap.size + 1, 0, none⟩ = some (.slice (some ⟨b', o', none⟩) tn td)) ∧ (V.cell? ⟨b, o + k1 * 3, none⟩ = some (.int .u32 x0) ∧ V.cell? ⟨b, o + k1 * 3 + 1, none⟩ = some (.int .i64 x1) ∧ V.cell? ⟨b, o + k1 * 3 + 2, none⟩ = some (.int .i64 x2)) ∧ V.cell? ⟨b', o' + k1 * 3, none⟩ = some (.int .u32 y0) ∧ V.cell? ⟨b', o' + k1 * 3 + 1, none⟩ = some (.int .i64 y1) ∧ V.cell? ⟨b', o' + k1 * 3 + 2, none⟩ = some (.int .i64 y2)) (by kernel_rfl) (by rw [hwD]; exact HSD.out) (fun hHeld => ?_)
      rw [hwD] at hHeld ⊢
      clear hwD
      refine take_in (i := 0) _ (some 49) (by kernel_rfl) (by kernel_rfl) (by kernel_rfl) (by kernel_rfl) (fun _ _ _ h => h) (by rfl) (fun o ho w hSw => by cases ho; (try dsimp only at hSw); (try go_split_ands); go_simp; (try with_reducible rfl)) hHeld ?_
      try simp only [Act.put, List.setIfInBounds_toArray, List.set_cons_zero, List.set_cons_succ]
      refine take_in (i := 1) _ (some 50) (by kernel_rfl) (by kernel_rfl) (by kernel_rfl) (by kernel_rfl) (fun _ _ _ h => h) (by rfl) (fun o ho w hSw => by cases ho; (try dsimp only at hSw); (try go_split_ands); go_simp; (try with_reducible rfl)) hHeld ?_
      try simp only [Act.put, List.setIfInBounds_toArray, List.set_cons_zero, List.set_cons_succ]
      refine take_in (i := 2) _ (some 51) (by kernel_rfl) (by kernel_rfl) (by kernel_rfl) (by kernel_rfl) (fun _ _ _ h => h) (by rfl) (fun o ho w hSw => by cases ho; (try dsimp only at hSw); (try go_split_ands); go_simp; (try with_reducible rfl)) hHeld ?_
      try simp only [Act.put, List.setIfInBounds_toArray, List.set_cons_zero, List.set_cons_succ]
      refine take_in (i := 3) _ (some 52) (by kernel_rfl) (by kernel_rfl) (by kernel_rfl) (by kernel_rfl) (fun _ _ _ h => h) (by rfl) (fun o ho w hSw => by cases ho; (try dsimp only at hSw); (try go_split_ands); go_simp; (try with_reducible rfl)) hHeld ?_
      try simp only [Act.put, List.setIfInBounds_toArray, List.set_cons_zero, List.set_cons_succ]
      refine take_in (i := 4) _ (some 53) (by kernel_rfl) (by kernel_rfl) (by kernel_rfl) (by kernel_rfl) (fun _ _ _ h => h) (by rfl) (fun o ho w hSw => by cases ho; (try dsimp only at hSw); (try go_split_ands); go_simp; (try with_reducible rfl)) hHeld ?_
      try simp only [Act.put, List.setIfInBounds_toArray, List.set_cons_zero, List.set_cons_succ]
      refine take_in (i := 5) _ (some 54) (by kernel_rfl) (by kernel_rfl) (by kernel_rfl) (by kernel_rfl) (fun _ _ _ h => h) (by rfl) (fun o ho w hSw => by cases ho; (try dsimp only at hSw); (try go_split_ands); go_simp; (try with_reducible rfl)) hHeld ?_
      try simp only [Act.put, List.setIfInBounds_toArray, List.set_cons_zero, List.set_cons_succ]
      refine take_in (i := 6) _ (some 55) (by kernel_rfl) (by kernel_rfl) (by kernel_rfl) (by kernel_rfl) (fun _ _ _ h => h) (by rfl) (fun o ho w hSw => by cases ho; (try dsimp only at hSw); (try go_split_ands); go_simp; (try with_reducible rfl)) hHeld ?_
      try simp only [Act.put, List.setIfInBounds_toArray, List.set_cons_zero, List.set_cons_succ]
      refine take_in (i := 7) _ (some 56) (by kernel_rfl) (by kernel_rfl) (by kernel_rfl) (by kernel_rfl) (fun _ _ _ h => h) (by rfl) (fun o ho w hSw => by cases ho; (try dsimp only at hSw); (try go_split_ands); go_simp; (try with_reducible rfl)) hHeld ?_
      try simp only [Act.put, List.setIfInBounds_toArray, List.set_cons_zero, List.set_cons_succ]
      refine take_in (i := 8) _ (some 57) (by kernel_rfl) (by kernel_rfl) (by kernel_rfl) (by kernel_rfl) (fun _ _ _ h => h) (by rfl) (fun o ho w hSw => by cases ho; (try dsimp only at hSw); (try go_split_ands); go_simp; (try with_reducible rfl)) hHeld ?_
      try simp only [Act.put, List.setIfInBounds_toArray, List.set_cons_zero, List.set_cons_succ]
      refine take_in (i := 9) _ (some 58) (by kernel_rfl) (by kernel_rfl) (by kernel_rfl) (by kernel_rfl) (fun _ _ _ h => h) (by rfl) (fun o ho w hSw => by cases ho; (try dsimp only at hSw); (try go_split_ands); go_simp; (try with_reducible rfl)) hHeld ?_
      try simp only [Act.put, List.setIfInBounds_toArray, List.set_cons_zero, List.set_cons_succ]
      refine take_in (i := 10) _ (some 59) (by kernel_rfl) (by kernel_rfl) (by kernel_rfl) (by kernel_rfl) (fun _ _ _ h => h) (by rfl) (fun o ho w hSw => by cases ho; (try dsimp only at hSw); (try go_split_ands); go_simp; exact ne3w) hHeld ?_
      try simp only [Act.put, List.setIfInBounds_toArray, List.set_cons_zero, List.set_cons_succ]
      refine wpAnyH_done (by kernel_rfl) ?_ _
      refine NoPanic.normal ?_
      rw [HNE.out]
      cases eb with
      | false =>
        have HF : Hid (sameF es es' gs gs' ls ls' bs bs' ns ns' = false) := sameF_t (map_ne_of entK HXK.out HYK.out (of_decide_eq_false HEB.out))
        go_wp2
        go_ret
        exact ⟨ret_bool HF.out.symm, HBW.out⟩
      | true =>
        have HN := Lib.hid (step_eq hall.out HXK.out HYK.out (of_decide_eq_true HEB.out))
        obtain ⟨hq1, hq2, hq3, hq4⟩ := HTN.out
        go_wp2
        go_roundw
        case rel => exact ⟨k1 + 1, by omega, by go_num, HN, HBD⟩
        case measure => simp [intOf]; omega
    case neg =>
      obtain rfl : k1 = tn := by omega
      have HA1 : Hid (es.map entK = es'.map entK) := map_eq_of entK HLT.out.1 HLT.out.2 hall.out
      have fa := HFQ.out.cell 1
      have ga := HGQ2.out.cell 1
      simp only [List.getElem?_cons_zero, List.getElem?_cons_succ] at fa ga
      have hfa := HFQ.out.lt
      have hga := HGQ2.out.lt
      have HI2 : Hid (EqI grK w1 gs gs' gn (.int .i64 (0 : Nat)) wq1) := ⟨0, Nat.zero_le _, rfl, Lib.hid (fun j p q hj => absurd hj (by omega)), hb⟩
      clear hall
      go_wp2
      go_loopw [64] (fun iv wr => EqI grK w1 gs gs' gn iv wr) (fun iv _ => gn - (intOf iv).toNat)
      case atStart => exact HI2.out
      case round =>
        obtain ⟨k2, hk, rfl, hall, hb⟩ := hrel
        clear HI2 fa ga hfa hga
        obtain ⟨wq2, rfl⟩ : ∃ wq2, wq2 = wr := ⟨_, rfl⟩
        have HBQ2 := Lib.hid (below3 HB1.out hb.out)
        have HFQ := Lib.hid (HF1.out.keep hb.out)
        have HGQ2 := Lib.hid (HG1.out.keep hb.out)
        by_cases hlt : k2 < gn
        case pos =>
          obtain ⟨wD, hwD⟩ : ∃ wD, wq2.drew = wD := ⟨_, rfl⟩
          have hbD : Below wq2.heap.size wq2 wD := by rw [← hwD]; exact (Below.refl _ _).drew
          have HBD := Lib.hid (below3 hb.out hbD)
          have HBW := Lib.hid (below3 HBQ2.out hbD)
          have g0 : wD.cell? ⟨w.heap.size, 1, none⟩ = some (.slice gA gn gc) := (HFQ.out.keep hbD).cell 1
          have g1 : wD.cell? ⟨w.heap.size + 1, 1, none⟩ = some (.slice gB gn gd) := (HGQ2.out.keep hbD).cell 1
          have hlF := (HFQ.out.keep hbD).lt
          have hlG := (HGQ2.out.keep hbD).lt
          obtain ⟨b, o, x, hbA, hbN, hxk, hxp, c0, c1⟩ := (HXW.out _ HBW.out).g.get hlt
          obtain ⟨b', o', y, hbA', hbM, hyk, hyp, e0, e1⟩ := (HYW.out _ HBW.out).g.get hlt
          subst hbA hbA'
          have HXK := Lib.hid hxk
          have HYK := Lib.hid hyk
          have HC := Lib.hid (sameGroup52_any x y N wD hxp hyp (HBN.out _ HBW.out) (HGP.out x (List.mem_of_getElem? hxk)) (HGQ.out y (List.mem_of_getElem? hyk)) (HSX.out x (List.mem_of_getElem? hxk)) (HSY.out y (List.mem_of_getElem? hyk)))
          rw [sameG_key] at HC
          obtain ⟨eb, heb⟩ : ∃ eb, decide (grK x = grK y) = eb := ⟨_, rfl⟩
          have HEB := Lib.hid heb
          rw [heb] at HC
          obtain ⟨x0, xA, xn, xc, xp⟩ := x
          obtain ⟨y0, yA, yn, yc, yp⟩ := y
          dsimp only at c0 c1 e0 e1 HC
          have hbb : b < wD.heap.size := by have := (HBN.out _ HBW.out); omega
          have hbb' : b' < wD.heap.size := by have := (HBN.out _ HBW.out); omega
          have HSD : Hid ((wD.cell? ⟨w.heap.size, 1, none⟩ = some (.slice (some ⟨b, o, none⟩) gn gc) ∧ wD.cell? ⟨w.heap.size + 1, 1, none⟩ = some (.slice (some ⟨b', o', none⟩) gn gd)) ∧ (wD.cell? ⟨b, o + k2 * 2, none⟩ = some (.int .i64 x0) ∧ wD.cell? ⟨b, o + k2 * 2 + 1, none⟩ = some (.slice xA xn xc)) ∧ wD.cell? ⟨b', o' + k2 * 2, none⟩ = some (.int .i64 y0) ∧ wD.cell? ⟨b', o' + k2 * 2 + 1, none⟩ = some (.slice yA yn yc)) := ⟨⟨g0, g1⟩, ⟨c0, c1⟩, e0, e1⟩
          have HSW : Hid (∀ V, Below wD.heap.size wD V → (V.cell? ⟨w.heap.size, 1, none⟩ = some (.slice (some ⟨b, o, none⟩) gn gc) ∧ V.cell? ⟨w.heap.size + 1, 1, none⟩ = some (.slice (some ⟨b', o', none⟩) gn gd)) ∧ (V.cell? ⟨b, o + k2 * 2, none⟩ = some (.int .i64 x0) ∧ V.cell? ⟨b, o + k2 * 2 + 1, none⟩ = some (.slice xA xn xc)) ∧ V.cell? ⟨b', o' + k2 * 2, none⟩ = some (.int .i64 y0) ∧ V.cell? ⟨b', o' + k2 * 2 + 1, none⟩ = some (.slice yA yn yc)) := fun V hV => ⟨⟨(hV.cell (p := ⟨_, _, none⟩) hlF).trans g0, (hV.cell (p := ⟨_, _, none⟩) hlG).trans g1⟩, ⟨(hV.cell (p := ⟨b, _, none⟩) hbb).trans c0, (hV.cell (p := ⟨b, _, none⟩) hbb).trans c1⟩, (hV.cell (p := ⟨b', _, none⟩) hbb').trans e0, (hV.cell (p := ⟨b', _, none⟩) hbb').trans e1⟩
          clear c0 c1 e0 e1 g0 g1 hbD hxk hyk heb hxp hyp
          go_upto_region 12 with fail
          refine wp_region_noPanic ?_
          refine wp_region_held_drew (S := fun V => (V.cell? ⟨w.heap.size, 1, none⟩ = some (.slice (some ⟨b, o, none⟩) gn gc) ∧ V.cell? ⟨w.heap.size + 1, 1, none⟩ = some (.slice (some ⟨b', o', none⟩) gn gd)) ∧ (V.cell? ⟨b, o + k2 * 2, none⟩ = some (.int .i64 x0) ∧ V.cell? ⟨b, o + k2 * 2 + 1, none⟩ = some (.slice xA xn xc)) ∧ V.cell? ⟨b', o' + k2 * 2, none⟩ = some (.int .i64 y0) ∧ V.cell? ⟨b', o' + k2 * 2 + 1, none⟩ = some (.slice yA yn yc)) (by kernel_rfl) (by rw [hwD]; exact HSD.out) (fun hHeld => ?_)
          rw [hwD] at hHeld ⊢
          clear hwD
          refine take_in (i := 0) _ (some 67) (by kernel_rfl) (by kernel_rfl) (by kernel_rfl) (by kernel_rfl) (fun _ _ _ h => h) (by rfl) (fun o ho w hSw => by cases ho; (try dsimp only at hSw); (try go_split_ands); go_simp; (try with_reducible rfl)) hHeld ?_
          try simp only [Act.put, List.setIfInBounds_toArray, List.set_cons_zero, List.set_cons_succ]
          refine take_in (i := 1) _ (some 68) (by kernel_rfl) (by kernel_rfl) (by kernel_rfl) (by kernel_rfl) (fun _ _ _ h => h) (by rfl) (fun o ho w hSw => by cases ho; (try dsimp only at hSw); (try go_split_ands); go_simp; (try with_reducible rfl)) hHeld ?_
          try simp only [Act.put, List.setIfInBounds_toArray, List.set_cons_zero, List.set_cons_succ]
          refine take_in (i := 2) _ (some 69) (by kernel_rfl) (by kernel_rfl) (by kernel_rfl) (by kernel_rfl) (fun _ _ _ h => h) (by rfl) (fun o ho w hSw => by cases ho; (try dsimp only at hSw); (try go_split_ands); go_simp; (try with_reducible rfl)) hHeld ?_
          try simp only [Act.put, List.setIfInBounds_toArray, List.set_cons_zero, List.set_cons_succ]
          refine take_in (i := 3) _ (some 70) (by kernel_rfl) (by kernel_rfl) (by kernel_rfl) (by kernel_rfl) (fun _ _ _ h => h) (by rfl) (fun o ho w hSw => by cases ho; (try dsimp only at hSw); (try go_split_ands); go_simp; (try with_reducible rfl)) hHeld ?_
          try simp only [Act.put, List.setIfInBounds_toArray, List.set_cons_zero, List.set_cons_succ]
          refine take_in (i := 4) _ (some 71) (by kernel_rfl) (by kernel_rfl) (by kernel_rfl) (by kernel_rfl) (fun _ _ _ h => h) (by rfl) (fun o ho w hSw => by cases ho; (try dsimp only at hSw); (try go_split_ands); go_simp; (try with_reducible rfl)) hHeld ?_
          try simp only [Act.put, List.setIfInBounds_toArray, List.set_cons_zero, List.set_cons_succ]
          refine take_in (i := 5) _ (some 72) (by kernel_rfl) (by kernel_rfl) (by kernel_rfl) (by kernel_rfl) (fun _ _ _ h => h) (by rfl) (fun o ho w hSw => by cases ho; (try dsimp only at hSw); (try go_split_ands); go_simp; (try with_reducible rfl)) hHeld ?_
          try simp only [Act.put, List.setIfInBounds_toArray, List.set_cons_zero, List.set_cons_succ]
          refine take_in (i := 6) _ (some 73) (by kernel_rfl) (by kernel_rfl) (by kernel_rfl) (by kernel_rfl) (fun _ _ _ h => h) (by rfl) (fun o ho w hSw => by cases ho; (try dsimp only at hSw); (try go_split_ands); go_simp; (try with_reducible rfl)) hHeld ?_
          try simp only [Act.put, List.setIfInBounds_toArray, List.set_cons_zero, List.set_cons_succ]
          refine take_in (i := 7) _ (some 74) (by kernel_rfl) (by kernel_rfl) (by kernel_rfl) (by kernel_rfl) (fun _ _ _ h => h) (by rfl) (fun o ho w hSw => by cases ho; (try dsimp only at hSw); (try go_split_ands); go_simp; (try with_reducible rfl)) hHeld ?_
          try simp only [Act.put, List.setIfInBounds_toArray, List.set_cons_zero, List.set_cons_succ]
          refine take_in (i := 8) _ (some 75) (by kernel_rfl) (by kernel_rfl) (by kernel_rfl) (by kernel_rfl) (fun _ _ _ h => h) (by rfl) (fun o ho w hSw => by cases ho; (try dsimp only at hSw); (try go_split_ands); go_simp; (try with_reducible rfl)) hHeld ?_
          try simp only [Act.put, List.setIfInBounds_toArray, List.set_cons_zero, List.set_cons_succ]
          refine take_in (i := 9) _ (some 76) (by kernel_rfl) (by kernel_rfl) (by kernel_rfl) (by kernel_rfl) (fun _ _ _ h => h) (by rfl) (fun o ho w hSw => by cases ho; (try dsimp only at hSw); (try go_split_ands); go_simp; (try with_reducible rfl)) hHeld ?_
          try simp only [Act.put, List.setIfInBounds_toArray, List.set_cons_zero, List.set_cons_succ]
          refine wpAnyH_ready (rs := [10]) (by kernel_rfl) (by simp) ?_
          refine AllReadyH.cons (o := _) rfl (fun K hK => ?_) AllReadyH.nil
          go_simp
          go_at_call 17
          with_reducible refine HC.out.mono ?_
          rintro e w3 ⟨rfl, hb3⟩
          have HBD3 := Lib.hid (below3 HBD.out hb3)
          have HBW3 := Lib.hid (below3 HBW.out hb3)
          have HS3 := Lib.hid (HSW.out _ hb3)
          clear hb3
          refine hK.out _ _ HS3.out (fun hHeld => ?_)
          clear hK K
          try simp only [Act.put, List.setIfInBounds_toArray, List.set_cons_zero, List.set_cons_succ]
          refine take_in (i := 11) _ (some 78) (by kernel_rfl) (by kernel_rfl) (by kernel_rfl) (by kernel_rfl) (fun _ _ _ h => h) (by rfl) (fun o ho w hSw => by cases ho; (try dsimp only at hSw); (try go_split_ands); go_simp; (try with_reducible rfl)) hHeld ?_
          try simp only [Act.put, List.setIfInBounds_toArray, List.set_cons_zero, List.set_cons_succ]
          refine wpAnyH_done (by kernel_rfl) ?_ _
          refine NoPanic.normal ?_
          clear HC HSW HS3
          cases eb with
          | false =>
            have HF : Hid (sameF es es' gs gs' ls ls' bs bs' ns ns' = false) := sameF_g (map_ne_of grK HXK.out HYK.out (of_decide_eq_false HEB.out))
            go_wp2
            go_ret
            exact ⟨ret_bool HF.out.symm, HBW3.out⟩
          | true =>
            have HN := Lib.hid (step_eq hall.out HXK.out HYK.out (of_decide_eq_true HEB.out))
            obtain ⟨hq1, hq2, hq3, hq4⟩ := HTN.out
            go_wp2
            go_roundw
            case rel => exact ⟨k2 + 1, by omega, by go_num, HN, HBD3⟩
            case measure => simp [intOf]; omega
        case neg =>
          obtain rfl : k2 = gn := by omega
          have HA2 : Hid (gs.map grK = gs'.map grK) := map_eq_of grK HLG.out.1 HLG.out.2 hall.out
          have fa := HFQ.out.cell 2
          have ga := HGQ2.out.cell 2
          simp only [List.getElem?_cons_zero, List.getElem?_cons_succ] at fa ga
          have hfa := HFQ.out.lt
          have hga := HGQ2.out.lt
          have HI3 : Hid (EqI id w1 ls ls' ln (.int .i64 (0 : Nat)) wq2) := ⟨0, Nat.zero_le _, rfl, Lib.hid (fun j p q hj => absurd hj (by omega)), hb⟩
          clear hall
          go_wp2
          go_loopw [83] (fun iv wr => EqI id w1 ls ls' ln iv wr) (fun iv _ => ln - (intOf iv).toNat)
          case atStart => exact HI3.out
          case round =>
            obtain ⟨k3, hk, rfl, hall, hb⟩ := hrel
            clear HI3 fa ga hfa hga
            obtain ⟨wq3, rfl⟩ : ∃ wq3, wq3 = wr := ⟨_, rfl⟩
            have HBQ3 := Lib.hid (below3 HB1.out hb.out)
            have HFQ := Lib.hid (HF1.out.keep hb.out)
            have HGQ2 := Lib.hid (HG1.out.keep hb.out)
            by_cases hlt : k3 < ln
            case pos =>
              obtain ⟨wD, hwD⟩ : ∃ wD, wq3.drew = wD := ⟨_, rfl⟩
              have hbD : Below wq3.heap.size wq3 wD := by rw [← hwD]; exact (Below.refl _ _).drew
              have HBD := Lib.hid (below3 hb.out hbD)
              have HBW := Lib.hid (below3 HBQ3.out hbD)
              have g0 : wD.cell? ⟨w.heap.size, 2, none⟩ = some (.slice lA ln lc) := (HFQ.out.keep hbD).cell 2
              have g1 : wD.cell? ⟨w.heap.size + 1, 2, none⟩ = some (.slice lB ln ld) := (HGQ2.out.keep hbD).cell 2
              have hlF := (HFQ.out.keep hbD).lt
              have hlG := (HGQ2.out.keep hbD).lt
              obtain ⟨b, o, x, hbA, hbN, c0, HX⟩ := (HXW.out _ HBW.out).l.cell hlt
              obtain ⟨b', o', y, hbA', hbM, e0, HY⟩ := (HYW.out _ HBW.out).l.cell hlt
              subst hbA hbA'
              have HXK : Hid (ls[k3]? = some x) := by
                show _ = _
                have h := HX.out
                rw [List.getD_eq_getElem?_getD, List.getElem?_eq_getElem (by rw [HLL.out.1]; exact hlt)] at h
                rw [List.getElem?_eq_getElem (by rw [HLL.out.1]; exact hlt)]
                exact congrArg some h
              have HYK : Hid (ls'[k3]? = some y) := by
                show _ = _
                have h := HY.out
                rw [List.getD_eq_getElem?_getD, List.getElem?_eq_getElem (by rw [HLL.out.2]; exact hlt)] at h
                rw [List.getElem?_eq_getElem (by rw [HLL.out.2]; exact hlt)]
                exact congrArg some h
              obtain ⟨eb, heb⟩ : ∃ eb, decide (id x = id y) = eb := ⟨_, rfl⟩
              have HEB := Lib.hid heb
              have HNE : Hid ((x != y) = !eb) := by
                show _ = _
                rw [← heb, Bool.eq_iff_iff]
                simp
              have HSD : Hid ((wD.cell? ⟨w.heap.size, 2, none⟩ = some (.slice (some ⟨b, o, none⟩) ln lc) ∧ wD.cell? ⟨w.heap.size + 1, 2, none⟩ = some (.slice (some ⟨b', o', none⟩) ln ld)) ∧ wD.cell? ⟨b, o + k3, none⟩ = some (.int .u32 x) ∧ wD.cell? ⟨b', o' + k3, none⟩ = some (.int .u32 y)) := ⟨⟨g0, g1⟩, c0, e0⟩
              clear c0 e0 g0 g1 hbD heb
              go_upto_region 18 with fail
              refine wp_region_noPanic ?_
              refine wp_region_held_drew (S := fun V => (V.cell? ⟨w.heap.size, 2, none⟩ = some (.slice (some ⟨b, o, none⟩) ln lc) ∧ V.cell? ⟨w.heap.size + 1, 2, none⟩ = some (.slice (some ⟨b', o', none⟩) ln ld)) ∧ V.cell? ⟨b, o + k3, none⟩ = some (.int .u32 x) ∧ V.cell? ⟨b', o' + k3, none⟩ = some (.int .u32 y)) (by kernel_rfl) (by rw [hwD]; exact HSD.out) (fun hHeld => ?_)
              rw [hwD] at hHeld ⊢
              clear hwD
              refine take_in (i := 0) _ (some 86) (by kernel_rfl) (by kernel_rfl) (by kernel_rfl) (by kernel_rfl) (fun _ _ _ h => h) (by rfl) (fun o ho w hSw => by cases ho; (try dsimp only at hSw); (try go_split_ands); go_simp; (try with_reducible rfl)) hHeld ?_
              try simp only [Act.put, List.setIfInBounds_toArray, List.set_cons_zero, List.set_cons_succ]
              refine take_in (i := 1) _ (some 87) (by kernel_rfl) (by kernel_rfl) (by kernel_rfl) (by kernel_rfl) (fun _ _ _ h => h) (by rfl) (fun o ho w hSw => by cases ho; (try dsimp only at hSw); (try go_split_ands); go_simp; (try with_reducible rfl)) hHeld ?_
              try simp only [Act.put, List.setIfInBounds_toArray, List.set_cons_zero, List.set_cons_succ]
              refine take_in (i := 2) _ (some 88) (by kernel_rfl) (by kernel_rfl) (by kernel_rfl) (by kernel_rfl) (fun _ _ _ h => h) (by rfl) (fun o ho w hSw => by cases ho; (try dsimp only at hSw); (try go_split_ands); go_simp; (try with_reducible rfl)) hHeld ?_
              try simp only [Act.put, List.setIfInBounds_toArray, List.set_cons_zero, List.set_cons_succ]
              refine take_in (i := 3) _ (some 89) (by kernel_rfl) (by kernel_rfl) (by kernel_rfl) (by kernel_rfl) (fun _ _ _ h => h) (by rfl) (fun o ho w hSw => by cases ho; (try dsimp only at hSw); (try go_split_ands); go_simp; (try with_reducible rfl)) hHeld ?_
              try simp only [Act.put, List.setIfInBounds_toArray, List.set_cons_zero, List.set_cons_succ]
              refine take_in (i := 4) _ (some 90) (by kernel_rfl) (by kernel_rfl) (by kernel_rfl) (by kernel_rfl) (fun _ _ _ h => h) (by rfl) (fun o ho w hSw => by cases ho; (try dsimp only at hSw); (try go_split_ands); go_simp; (try with_reducible rfl)) hHeld ?_
              try simp only [Act.put, List.setIfInBounds_toArray, List.set_cons_zero, List.set_cons_succ]
              refine take_in (i := 5) _ (some 91) (by kernel_rfl) (by kernel_rfl) (by kernel_rfl) (by kernel_rfl) (fun _ _ _ h => h) (by rfl) (fun o ho w hSw => by cases ho; (try dsimp only at hSw); (try go_split_ands); go_simp; (try with_reducible rfl)) hHeld ?_
              try simp only [Act.put, List.setIfInBounds_toArray, List.set_cons_zero, List.set_cons_succ]
              refine take_in (i := 6) _ (some 92) (by kernel_rfl) (by kernel_rfl) (by kernel_rfl) (by kernel_rfl) (fun _ _ _ h => h) (by rfl) (fun o ho w hSw => by cases ho; (try dsimp only at hSw); (try go_split_ands); go_simp; (try with_reducible rfl)) hHeld ?_
              try simp only [Act.put, List.setIfInBounds_toArray, List.set_cons_zero, List.set_cons_succ]
              refine take_in (i := 7) _ (some 93) (by kernel_rfl) (by kernel_rfl) (by kernel_rfl) (by kernel_rfl) (fun _ _ _ h => h) (by rfl) (fun o ho w hSw => by cases ho; (try dsimp only at hSw); (try go_split_ands); go_simp; (try with_reducible rfl)) hHeld ?_
              try simp only [Act.put, List.setIfInBounds_toArray, List.set_cons_zero, List.set_cons_succ]
              refine take_in (i := 8) _ (some 94) (by kernel_rfl) (by kernel_rfl) (by kernel_rfl) (by kernel_rfl) (fun _ _ _ h => h) (by rfl) (fun o ho w hSw => by cases ho; (try dsimp only at hSw); (try go_split_ands); go_simp; (try with_reducible rfl)) hHeld ?_
              try simp only [Act.put, List.setIfInBounds_toArray, List.set_cons_zero, List.set_cons_succ]
              refine take_in (i := 9) _ (some 95) (by kernel_rfl) (by kernel_rfl) (by kernel_rfl) (by kernel_rfl) (fun _ _ _ h => h) (by rfl) (fun o ho w hSw => by cases ho; (try dsimp only at hSw); (try go_split_ands); go_simp; (try with_reducible rfl)) hHeld ?_
              try simp only [Act.put, List.setIfInBounds_toArray, List.set_cons_zero, List.set_cons_succ]
              refine take_in (i := 10) _ (some 96) (by kernel_rfl) (by kernel_rfl) (by kernel_rfl) (by kernel_rfl) (fun _ _ _ h => h) (by rfl) (fun o ho w hSw => by cases ho; (try dsimp only at hSw); (try go_split_ands); go_simp; (try with_reducible rfl)) hHeld ?_
              try simp only [Act.put, List.setIfInBounds_toArray, List.set_cons_zero, List.set_cons_succ]
              refine wpAnyH_done (by kernel_rfl) ?_ _
              refine NoPanic.normal ?_
              rw [HNE.out]
              cases eb with
              | false =>
                have HF : Hid (sameF es es' gs gs' ls ls' bs bs' ns ns' = false) := sameF_l (fun e => (map_ne_of id HXK.out HYK.out (of_decide_eq_false HEB.out)) (by rw [e]))
                go_wp2
                go_ret
                exact ⟨ret_bool HF.out.symm, HBW.out⟩
              | true =>
                have HN := Lib.hid (step_eq hall.out HXK.out HYK.out (of_decide_eq_true HEB.out))
                obtain ⟨hq1, hq2, hq3, hq4⟩ := HTN.out
                go_wp2
                go_roundw
                case rel => exact ⟨k3 + 1, by omega, by go_num, HN, HBD⟩
                case measure => simp [intOf]; omega
            case neg =>
              obtain rfl : k3 = ln := by omega
              have HA3 : Hid (ls = ls') := ints_ext HLL.out.1 HLL.out.2 (map_eq_of id HLL.out.1 HLL.out.2 hall.out)
              have fa := HFQ.out.cell 4
              have ga := HGQ2.out.cell 4
              simp only [List.getElem?_cons_zero, List.getElem?_cons_succ] at fa ga
              have hfa := HFQ.out.lt
              have hga := HGQ2.out.lt
              have HI4 : Hid (EqI nhK w1 ns ns' nn (.int .i64 (0 : Nat)) wq3) := ⟨0, Nat.zero_le _, rfl, Lib.hid (fun j p q hj => absurd hj (by omega)), hb⟩
              clear hall
              go_wp2
              go_loopw [101] (fun iv wr => EqI nhK w1 ns ns' nn iv wr) (fun iv _ => nn - (intOf iv).toNat)
              case atStart => exact HI4.out
              case round =>
                obtain ⟨k4, hk, rfl, hall, hb⟩ := hrel
                clear HI4 fa ga hfa hga
                obtain ⟨wq4, rfl⟩ : ∃ wq4, wq4 = wr := ⟨_, rfl⟩
                have HBQ4 := Lib.hid (below3 HB1.out hb.out)
                have HFQ := Lib.hid (HF1.out.keep hb.out)
                have HGQ2 := Lib.hid (HG1.out.keep hb.out)
                by_cases hlt : k4 < nn
                case pos =>
                  obtain ⟨wD, hwD⟩ : ∃ wD, wq4.drew = wD := ⟨_, rfl⟩
                  have hbD : Below wq4.heap.size wq4 wD := by rw [← hwD]; exact (Below.refl _ _).drew
                  have HBD := Lib.hid (below3 hb.out hbD)
                  have HBW := Lib.hid (below3 HBQ4.out hbD)
                  have g0 : wD.cell? ⟨w.heap.size, 4, none⟩ = some (.slice nA nn nc) := (HFQ.out.keep hbD).cell 4
                  have g1 : wD.cell? ⟨w.heap.size + 1, 4, none⟩ = some (.slice nB nn nd) := (HGQ2.out.keep hbD).cell 4
                  have hlF := (HFQ.out.keep hbD).lt
                  have hlG := (HGQ2.out.keep hbD).lt
                  obtain ⟨b, o, x, hbA, hbN, hxk, c0, c1, c2⟩ := (HXW.out _ HBW.out).n.get hlt
                  obtain ⟨b', o', y, hbA', hbM, hyk, e0, e1, e2⟩ := (HYW.out _ HBW.out).n.get hlt
                  subst hbA hbA'
                  have HXK := Lib.hid hxk
                  have HYK := Lib.hid hyk
                  obtain ⟨eb, heb⟩ : ∃ eb, decide (nhK x = nhK y) = eb := ⟨_, rfl⟩
                  have HEB := Lib.hid heb
                  obtain ⟨x0, hx0⟩ : ∃ q : Int, (x.iface : Int) = q := ⟨_, rfl⟩
                  rw [hx0] at c0
                  obtain ⟨x1, hx1⟩ : ∃ q : Int, (x.addr : Int) = q := ⟨_, rfl⟩
                  rw [hx1] at c1
                  obtain ⟨x2, hx2⟩ : ∃ q : Int, (x.router : Int) = q := ⟨_, rfl⟩
                  rw [hx2] at c2
                  obtain ⟨y0, hy0⟩ : ∃ q : Int, (y.iface : Int) = q := ⟨_, rfl⟩
                  rw [hy0] at e0
                  obtain ⟨y1, hy1⟩ : ∃ q : Int, (y.addr : Int) = q := ⟨_, rfl⟩
                  rw [hy1] at e1
                  obtain ⟨y2, hy2⟩ : ∃ q : Int, (y.router : Int) = q := ⟨_, rfl⟩
                  rw [hy2] at e2
                  have HNE : Hid ((!(decide (x0 = y0) && (decide (x1 = y1) && decide (x2 = y2)))) = !eb) := by
                    show _ = _
                    rw [← heb, ← hx0, ← hx1, ← hx2, ← hy0, ← hy1, ← hy2, Bool.eq_iff_iff]
                    simp [nhK]
                  have HSD : Hid ((wD.cell? ⟨w.heap.size, 4, none⟩ = some (.slice (some ⟨b, o, none⟩) nn nc) ∧ wD.cell? ⟨w.heap.size + 1, 4, none⟩ = some (.slice (some ⟨b', o', none⟩) nn nd)) ∧ (wD.cell? ⟨b, o + k4 * 3, none⟩ = some (.int .i64 x0) ∧ wD.cell? ⟨b, o + k4 * 3 + 1, none⟩ = some (.int .u32 x1) ∧ wD.cell? ⟨b, o + k4 * 3 + 2, none⟩ = some (.int .u32 x2)) ∧ wD.cell? ⟨b', o' + k4 * 3, none⟩ = some (.int .i64 y0) ∧ wD.cell? ⟨b', o' + k4 * 3 + 1, none⟩ = some (.int .u32 y1) ∧ wD.cell? ⟨b', o' + k4 * 3 + 2, none⟩ = some (.int .u32 y2)) := ⟨⟨g0, g1⟩, ⟨c0, c1, c2⟩, e0, e1, e2⟩
                  clear c0 c1 c2 e0 e1 e2 g0 g1 hbD hxk hyk heb hx0 hx1 hx2 hy0 hy1 hy2
                  go_upto_region 24 with fail
                  refine wp_region_noPanic ?_
                  refine wp_region_held_drew (S := fun V => (V.cell? ⟨w.heap.size, 4, none⟩ = some (.slice (some ⟨b, o, none⟩) nn nc) ∧ V.cell? ⟨w.heap.size + 1, 4, none⟩ = some (.slice (some ⟨b', o', none⟩) nn nd)) ∧ (V.cell? ⟨b, o + k4 * 3, none⟩ = some (.int .i64 x0) ∧ V.cell? ⟨b, o + k4 * 3 + 1, none⟩ = some (.int .u32 x1) ∧ V.cell? ⟨b, o + k4 * 3 + 2, none⟩ = some (.int .u32 x2)) ∧ V.cell? ⟨b', o' + k4 * 3, none⟩ = some (.int .i64 y0) ∧ V.cell? ⟨b', o' + k4 * 3 + 1, none⟩ = some (.int .u32 y1) ∧ V.cell? ⟨b', o' + k4 * 3 + 2, none⟩ = some (.int .u32 y2)) (by kernel_rfl) (by rw [hwD]; exact HSD.out) (fun hHeld => ?_)
                  rw [hwD] at hHeld ⊢
                  clear hwD
                  refine take_in (i := 0) _ (some 104) (by kernel_rfl) (by kernel_rfl) (by kernel_rfl) (by kernel_rfl) (fun _ _ _ h => h) (by rfl) (fun o ho w hSw => by cases ho; (try dsimp only at hSw); (try go_split_ands); go_simp; (try with_reducible rfl)) hHeld ?_
                  try simp only [Act.put, List.setIfInBounds_toArray, List.set_cons_zero, List.set_cons_succ]
                  refine take_in (i := 1) _ (some 105) (by kernel_rfl) (by kernel_rfl) (by kernel_rfl) (by kernel_rfl) (fun _ _ _ h => h) (by rfl) (fun o ho w hSw => by cases ho; (try dsimp only at hSw); (try go_split_ands); go_simp; (try with_reducible rfl)) hHeld ?_
                  try simp only [Act.put, List.setIfInBounds_toArray, List.set_cons_zero, List.set_cons_succ]
                  refine take_in (i := 2) _ (some 106) (by kernel_rfl) (by kernel_rfl) (by kernel_rfl) (by kernel_rfl) (fun _ _ _ h => h) (by rfl) (fun o ho w hSw => by cases ho; (try dsimp only at hSw); (try go_split_ands); go_simp; (try with_reducible rfl)) hHeld ?_
                  try simp only [Act.put, List.setIfInBounds_toArray, List.set_cons_zero, List.set_cons_succ]
                  refine take_in (i := 3) _ (some 107) (by kernel_rfl) (by kernel_rfl) (by kernel_rfl) (by kernel_rfl) (fun _ _ _ h => h) (by rfl) (fun o ho w hSw => by cases ho; (try dsimp only at hSw); (try go_split_ands); go_simp; (try with_reducible rfl)) hHeld ?_
                  try simp only [Act.put, List.setIfInBounds_toArray, List.set_cons_zero, List.set_cons_succ]
                  refine take_in (i := 4) _ (some 108) (by kernel_rfl) (by kernel_rfl) (by kernel_rfl) (by kernel_rfl) (fun _ _ _ h => h) (by rfl) (fun o ho w hSw => by cases ho; (try dsimp only at hSw); (try go_split_ands); go_simp; (try with_reducible rfl)) hHeld ?_
                  try simp only [Act.put, List.setIfInBounds_toArray, List.set_cons_zero, List.set_cons_succ]
                  refine take_in (i := 5) _ (some 109) (by kernel_rfl) (by kernel_rfl) (by kernel_rfl) (by kernel_rfl) (fun _ _ _ h => h) (by rfl) (fun o ho w hSw => by cases ho; (try dsimp only at hSw); (try go_split_ands); go_simp; (try with_reducible rfl)) hHeld ?_
                  try simp only [Act.put, List.setIfInBounds_toArray, List.set_cons_zero, List.set_cons_succ]
                  refine take_in (i := 6) _ (some 110) (by kernel_rfl) (by kernel_rfl) (by kernel_rfl) (by kernel_rfl) (fun _ _ _ h => h) (by rfl) (fun o ho w hSw => by cases ho; (try dsimp only at hSw); (try go_split_ands); go_simp; (try with_reducible rfl)) hHeld ?_
                  try simp only [Act.put, List.setIfInBounds_toArray, List.set_cons_zero, List.set_cons_succ]
                  refine take_in (i := 7) _ (some 111) (by kernel_rfl) (by kernel_rfl) (by kernel_rfl) (by kernel_rfl) (fun _ _ _ h => h) (by rfl) (fun o ho w hSw => by cases ho; (try dsimp only at hSw); (try go_split_ands); go_simp; (try with_reducible rfl)) hHeld ?_
                  try simp only [Act.put, List.setIfInBounds_toArray, List.set_cons_zero, List.set_cons_succ]
                  refine take_in (i := 8) _ (some 112) (by kernel_rfl) (by kernel_rfl) (by kernel_rfl) (by kernel_rfl) (fun _ _ _ h => h) (by rfl) (fun o ho w hSw => by cases ho; (try dsimp only at hSw); (try go_split_ands); go_simp; (try with_reducible rfl)) hHeld ?_
                  try simp only [Act.put, List.setIfInBounds_toArray, List.set_cons_zero, List.set_cons_succ]
                  refine take_in (i := 9) _ (some 113) (by kernel_rfl) (by kernel_rfl) (by kernel_rfl) (by kernel_rfl) (fun _ _ _ h => h) (by rfl) (fun o ho w hSw => by cases ho; (try dsimp only at hSw); (try go_split_ands); go_simp; (try with_reducible rfl)) hHeld ?_
                  try simp only [Act.put, List.setIfInBounds_toArray, List.set_cons_zero, List.set_cons_succ]
                  refine take_in (i := 10) _ (some 114) (by kernel_rfl) (by kernel_rfl) (by kernel_rfl) (by kernel_rfl) (fun _ _ _ h => h) (by rfl) (fun o ho w hSw => by cases ho; (try dsimp only at hSw); (try go_split_ands); go_simp; exact ne3w) hHeld ?_
                  try simp only [Act.put, List.setIfInBounds_toArray, List.set_cons_zero, List.set_cons_succ]
                  refine wpAnyH_done (by kernel_rfl) ?_ _
                  refine NoPanic.normal ?_
                  rw [HNE.out]
                  cases eb with
                  | false =>
                    have HF : Hid (sameF es es' gs gs' ls ls' bs bs' ns ns' = false) := sameF_n (map_ne_of nhK HXK.out HYK.out (of_decide_eq_false HEB.out))
                    go_wp2
                    go_ret
                    exact ⟨ret_bool HF.out.symm, HBW.out⟩
                  | true =>
                    have HN := Lib.hid (step_eq hall.out HXK.out HYK.out (of_decide_eq_true HEB.out))
                    obtain ⟨hq1, hq2, hq3, hq4⟩ := HTN.out
                    go_wp2
                    go_roundw
                    case rel => exact ⟨k4 + 1, by omega, by go_num, HN, HBD⟩
                    case measure => simp [intOf]; omega
                case neg =>
                  obtain rfl : k4 = nn := by omega
                  have HA4 : Hid (ns.map nhK = ns'.map nhK) := map_eq_of nhK HLN.out.1 HLN.out.2 hall.out
                  have fa := HFQ.out.cell 3
                  have ga := HGQ2.out.cell 3
                  simp only [List.getElem?_cons_zero, List.getElem?_cons_succ] at fa ga
                  have hfa := HFQ.out.lt
                  have hga := HGQ2.out.lt
                  have HXb := HXW.out _ HBQ4.out
                  have HYb := HYW.out _ HBQ4.out
                  have HC := Lib.hid (sameLabels52_any bA bB bn bc bm bd N bs bs' wq4 HXb.b HYb.b (HBN.out _ HBQ4.out) HXb.bn HYb.bn HXb.bp HYb.bp)
                  have HF := Lib.hid (sameF_b (bs := bs) (bs' := bs') HA1.out HA2.out HA3.out HA4.out)
                  obtain ⟨z, hz⟩ : ∃ z, decide (bs.map evK = bs'.map evK) = z := ⟨_, rfl⟩
                  rw [hz] at HC HF
                  clear HXb HYb hall hz
                  go_wp2_with fail
                  refine HC.out.mono ?_
                  rintro e w5 ⟨rfl, hb5⟩
                  have HB5 := Lib.hid (below3 HBQ4.out hb5)
                  clear hb5 HC
                  go_wp2
                  go_ret
                  exact ⟨ret_bool HF.out.symm, HB5.out⟩
end Go.Proofs.YtplppbgkkfjknaaGreatDoor
