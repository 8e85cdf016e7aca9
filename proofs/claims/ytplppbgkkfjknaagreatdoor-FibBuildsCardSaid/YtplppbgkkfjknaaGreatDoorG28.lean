/- The document's comparison of lists, paths and groups. The document's comparison of groups. -/
import Derived.Test.YtplppbgkkfjknaaGreatDoorG20
namespace Go.Proofs.YtplppbgkkfjknaaGreatDoor
open Go.RowKit

set_option linter.unusedVariables false
set_option linter.unusedSimpArgs false
theorem eq_each52 {xs ys : List Int} {n : Nat} (h1 : xs.length = n) (h2 : ys.length = n) (h : ∀ j, j < n → xs.getD j 0 = ys.getD j 0) : xs = ys := by
  refine List.ext_getElem (by omega) fun j h3 h4 => ?_
  have := h j (by omega)
  rw [List.getD_eq_getElem?_getD, List.getD_eq_getElem?_getD, List.getElem?_eq_getElem h3, List.getElem?_eq_getElem h4] at this
  exact this
def IntsI (w : World) (xs ys : List Int) (n : Nat) (iv : Value) (W : World) : Prop :=
  ∃ k : Nat, k ≤ n ∧ iv = .int .i64 k ∧ Hid (∀ j, j < k → xs.getD j 0 = ys.getD j 0) ∧ Hid (Below w.heap.size w W)
set_option maxHeartbeats 4000000 in
theorem ints52_any (A B : Option Addr) (n c m d N M : Nat) (xs ys : List Int) (w : World) (hx : Ints w N .i64 A n c xs) (hy : Ints w M .i64 B m d ys) (hN : N ≤ w.heap.size) (hM : M ≤ w.heap.size) (hn : n ≤ 17592186044416) (hm : m ≤ 17592186044416) :
    Calls Tryz.prog 42 #[.slice A n c, .slice B m d] w fun e w' => e = .returned (.bool (decide (xs = ys))) ∧ Below w.heap.size w w' := by
  have hl1 := hx.len
  have hl2 := hy.len
  have HXW : Hid (∀ W, Below w.heap.size w W → Ints W N .i64 A n c xs) := fun W h => hx.below (h.mono hN)
  have HYW : Hid (∀ W, Below w.heap.size w W → Ints W M .i64 B m d ys) := fun W h => hy.below (h.mono hM)
  have HB0 : Hid (Below w.heap.size w w) := Below.refl _ _
  clear hx hy
  by_cases hnm : n = m
  · subst hnm
    have HL := Lib.hid (show xs.length = n ∧ ys.length = n from ⟨hl1, hl2⟩)
    clear hl1 hl2
    go_enter Tryz.func42, Tryz.ntmps42
    go_wp2
    go_loopw [13] (fun iv wr => IntsI w xs ys n iv wr) (fun iv _ => n - (intOf iv).toNat)
    case atStart => exact ⟨0, Nat.zero_le _, rfl, fun j hj => absurd hj (by omega), HB0⟩
    case round =>
      obtain ⟨q, hq, rfl, hall, hb⟩ := hrel
      by_cases hlt : q < n
      case neg =>
        obtain rfl : q = n := by omega
        have HF : Hid (decide (xs = ys) = true) := decide_eq_true (eq_each52 HL.out.1 HL.out.2 hall.out)
        go_wp2
        go_ret
        exact ⟨ret_bool HF.out.symm, hb.out⟩
      obtain ⟨wD, hwD⟩ : ∃ wD, wr.drew = wD := ⟨_, rfl⟩
      have hbD : Below wr.heap.size wr wD := by rw [← hwD]; exact (Below.refl _ _).drew
      have HBD := Lib.hid (below3 hb.out hbD)
      obtain ⟨b, o, x, rfl, hbN, hc, HX⟩ := (HXW.out _ HBD.out).cell hlt
      obtain ⟨b', o', y, rfl, hbM, hc', HY⟩ := (HYW.out _ HBD.out).cell hlt
      have HS : Hid (wD.cell? ⟨b, o + q, none⟩ = some (.int .i64 x) ∧ wD.cell? ⟨b', o' + q, none⟩ = some (.int .i64 y)) := ⟨hc, hc'⟩
      obtain ⟨eb, heb⟩ : ∃ eb, (x != y) = eb := ⟨_, rfl⟩
      have HEB : Hid ((x != y) = eb) := heb
      clear hc hc' hbD
      go_upto_region 6 with fail
      refine wp_region_noPanic ?_
      refine wp_region_held_drew (S := fun V => V.cell? ⟨b, o + q, none⟩ = some (.int .i64 x) ∧ V.cell? ⟨b', o' + q, none⟩ = some (.int .i64 y)) (by kernel_rfl) (by rw [hwD]; exact HS.out) (fun hHeld => ?_)
      rw [hwD] at hHeld ⊢
      clear hwD heb
      refine take_in (i := 0) _ (some 16) (by kernel_rfl) (by kernel_rfl) (by kernel_rfl) (by kernel_rfl) (fun _ _ _ h => h) (by rfl) (fun o ho w hSw => by cases ho; (try dsimp only at hSw); (try go_split_ands); go_simp; (try with_reducible rfl)) hHeld ?_
      try simp only [Act.put, List.setIfInBounds_toArray, List.set_cons_zero, List.set_cons_succ]
      refine take_in (i := 1) _ (some 17) (by kernel_rfl) (by kernel_rfl) (by kernel_rfl) (by kernel_rfl) (fun _ _ _ h => h) (by rfl) (fun o ho w hSw => by cases ho; (try dsimp only at hSw); (try go_split_ands); go_simp; (try with_reducible rfl)) hHeld ?_
      try simp only [Act.put, List.setIfInBounds_toArray, List.set_cons_zero, List.set_cons_succ]
      refine take_in (i := 2) _ (some 18) (by kernel_rfl) (by kernel_rfl) (by kernel_rfl) (by kernel_rfl) (fun _ _ _ h => h) (by rfl) (fun o ho w hSw => by cases ho; (try dsimp only at hSw); (try go_split_ands); go_simp; (try with_reducible rfl)) hHeld ?_
      try simp only [Act.put, List.setIfInBounds_toArray, List.set_cons_zero, List.set_cons_succ]
      refine take_in (i := 3) _ (some 19) (by kernel_rfl) (by kernel_rfl) (by kernel_rfl) (by kernel_rfl) (fun _ _ _ h => h) (by rfl) (fun o ho w hSw => by cases ho; (try dsimp only at hSw); (try go_split_ands); go_simp; (try with_reducible rfl)) hHeld ?_
      try simp only [Act.put, List.setIfInBounds_toArray, List.set_cons_zero, List.set_cons_succ]
      refine take_in (i := 4) _ (some 20) (by kernel_rfl) (by kernel_rfl) (by kernel_rfl) (by kernel_rfl) (fun _ _ _ h => h) (by rfl) (fun o ho w hSw => by cases ho; (try dsimp only at hSw); (try go_split_ands); go_simp; (try with_reducible rfl)) hHeld ?_
      try simp only [Act.put, List.setIfInBounds_toArray, List.set_cons_zero, List.set_cons_succ]
      refine take_in (i := 5) _ (some 21) (by kernel_rfl) (by kernel_rfl) (by kernel_rfl) (by kernel_rfl) (fun _ _ _ h => h) (by rfl) (fun o ho w hSw => by cases ho; (try dsimp only at hSw); (try go_split_ands); go_simp; (try with_reducible rfl)) hHeld ?_
      try simp only [Act.put, List.setIfInBounds_toArray, List.set_cons_zero, List.set_cons_succ]
      refine take_in (i := 6) _ (some 22) (by kernel_rfl) (by kernel_rfl) (by kernel_rfl) (by kernel_rfl) (fun _ _ _ h => h) (by rfl) (fun o ho w hSw => by cases ho; (try dsimp only at hSw); (try go_split_ands); go_simp; (try with_reducible rfl)) hHeld ?_
      try simp only [Act.put, List.setIfInBounds_toArray, List.set_cons_zero, List.set_cons_succ]
      refine take_in (i := 7) _ (some 23) (by kernel_rfl) (by kernel_rfl) (by kernel_rfl) (by kernel_rfl) (fun _ _ _ h => h) (by rfl) (fun o ho w hSw => by cases ho; (try dsimp only at hSw); (try go_split_ands); go_simp; (try with_reducible rfl)) hHeld ?_
      try simp only [Act.put, List.setIfInBounds_toArray, List.set_cons_zero, List.set_cons_succ]
      refine take_in (i := 8) _ (some 24) (by kernel_rfl) (by kernel_rfl) (by kernel_rfl) (by kernel_rfl) (fun _ _ _ h => h) (by rfl) (fun o ho w hSw => by cases ho; (try dsimp only at hSw); (try go_split_ands); go_simp; (try with_reducible rfl)) hHeld ?_
      try simp only [Act.put, List.setIfInBounds_toArray, List.set_cons_zero, List.set_cons_succ]
      refine wpAnyH_done (by kernel_rfl) ?_ _
      refine NoPanic.normal ?_
      rw [HEB.out]
      cases eb with
      | true =>
        have HF : Hid (decide (xs = ys) = false) := by
          refine decide_eq_false fun h => ?_
          have h1 := HX.out
          have h2 := HY.out
          rw [h, h2] at h1
          have h3 := HEB.out
          rw [h1] at h3
          simp at h3
        go_wp2
        go_ret
        exact ⟨ret_bool HF.out.symm, HBD.out⟩
      | false =>
        have HN : Hid (∀ j, j < q + 1 → xs.getD j 0 = ys.getD j 0) := by
          intro j hj
          rcases Nat.lt_or_ge j q with h | h
          · exact hall.out j h
          · obtain rfl : j = q := by omega
            rw [HX.out, HY.out]
            simpa using HEB.out
        go_wp2
        go_roundw
        case rel => exact ⟨q + 1, by omega, by go_num, HN, HBD⟩
        case measure => simp [intOf]; omega
  · have d0 : ((n : Int) != (m : Int)) = true := by simp; omega
    have HF : Hid (decide (xs = ys) = false) := decide_eq_false fun h => hnm (by rw [← hl1, ← hl2, h])
    clear hl1 hl2 hnm
    go_enter Tryz.func42, Tryz.ntmps42
    go_wp2
    go_ret
    exact ⟨ret_bool HF.out.symm, HB0.out⟩
def sameP (p q : PV) : Bool := decide (keyP p = keyP q)
def same6 (a b c d e f : Prop) [Decidable a] [Decidable b] [Decidable c] [Decidable d] [Decidable e] [Decidable f] : Bool := decide a && (decide b && (decide c && (decide d && (decide e && decide f))))
theorem sameP_six (p q : PV) : sameP p q = same6 (p.iface = q.iface) (p.addr = q.addr) (p.router = q.router) (p.weight = q.weight) (p.backup = q.backup) (p.ls = q.ls) := by
  unfold sameP same6
  rw [Bool.eq_iff_iff]
  simp only [Bool.and_eq_true, decide_eq_true_eq]
  constructor
  · intro h
    simp only [keyP, List.cons_append, List.nil_append, List.cons.injEq] at h
    obtain ⟨h1, h2, h3, h4, h5, h6, h7⟩ := h
    exact ⟨h1, h2, h3, h4, h5, h7⟩
  · rintro ⟨h1, h2, h3, h4, h5, h6⟩
    unfold keyP
    rw [h1, h2, h3, h4, h5, h6]
set_option maxRecDepth 100000 in
set_option maxHeartbeats 4000000 in
theorem samePath52_any (p q : PV) (N : Nat) (w : World) (hp : Ints w N .i64 p.A p.ln p.lc p.ls) (hq : Ints w N .i64 q.A q.ln q.lc q.ls) (hN : N ≤ w.heap.size) (h1 : p.ln ≤ 17592186044416) (h2 : q.ln ≤ 17592186044416) :
    Calls Tryz.prog 21 #[.agg #[.int .i64 p.iface, .int .u32 p.addr, .int .u32 p.router, .int .i64 p.weight, .slice p.A p.ln p.lc, .int .i64 p.backup], .agg #[.int .i64 q.iface, .int .u32 q.addr, .int .u32 q.router, .int .i64 q.weight, .slice q.A q.ln q.lc, .int .i64 q.backup]] w fun e w' => e = .returned (.bool (sameP p q)) ∧ Below w.heap.size w w' := by
  rw [sameP_six]
  obtain ⟨pi, pa, pr, pw, pA, pn, pc, pl, pb⟩ := p
  obtain ⟨qi, qa, qr, qw, qA, qn, qc, ql, qb⟩ := q
  dsimp only at hp hq h1 h2 ⊢
  obtain ⟨w1, hw1⟩ : ∃ w1, (w.alloc (.cells #[.int .i64 pi, .int .u32 pa, .int .u32 pr, .int .i64 pw, .slice pA pn pc, .int .i64 pb] 57)).alloc (.cells #[.int .i64 qi, .int .u32 qa, .int .u32 qr, .int .i64 qw, .slice qA qn qc, .int .i64 qb] 57) = w1 := ⟨_, rfl⟩
  have HP1 : Hid (Blk w1 w.heap.size 57 [.int .i64 pi, .int .u32 pa, .int .u32 pr, .int .i64 pw, .slice pA pn pc, .int .i64 pb]) := by show Blk _ _ _ _; rw [← hw1]; exact (Blk.new w _ _).keep (belowA _ _)
  have HQ1 : Hid (Blk w1 (w.heap.size + 1) 57 [.int .i64 qi, .int .u32 qa, .int .u32 qr, .int .i64 qw, .slice qA qn qc, .int .i64 qb]) := by show Blk _ _ _ _; rw [← hw1]; exact Blk.new2 w _ _ _
  have HB1 : Hid (Below w.heap.size w w1) := by show Below _ _ _; rw [← hw1]; exact below3 (belowA _ _) (belowA _ _)
  have HC := Lib.hid (ints52_any pA qA pn pc qn qc N N pl ql w1 (hp.below (HB1.out.mono hN)) (hq.below (HB1.out.mono hN)) (by have := HB1.out.size; omega) (by have := HB1.out.size; omega) h1 h2)
  have a0 := HP1.out.cell 0
  have a1 := HP1.out.cell 1
  have a2 := HP1.out.cell 2
  have a3 := HP1.out.cell 3
  have a4 := HP1.out.cell 4
  have a5 := HP1.out.cell 5
  have b0 := HQ1.out.cell 0
  have b1 := HQ1.out.cell 1
  have b2 := HQ1.out.cell 2
  have b3 := HQ1.out.cell 3
  have b4 := HQ1.out.cell 4
  have b5 := HQ1.out.cell 5
  simp only [List.getElem?_cons_zero, List.getElem?_cons_succ] at a0 a1 a2 a3 a4 a5 b0 b1 b2 b3 b4 b5
  have hl1 := HQ1.out.lt
  have hl0 : w.heap.size < w1.heap.size := by omega
  clear hp hq h1 h2
  obtain ⟨z, hz⟩ : ∃ z, decide (pl = ql) = z := ⟨_, rfl⟩
  rw [hz] at HC
  unfold same6
  rw [hz]
  clear hz
  by_cases hi : pi = qi
  case neg =>
    have di : (pi == qi) = false := by simp [hi]
    rw [decide_eq_false hi]
    clear hi HC
    go_enter Tryz.func21, Tryz.ntmps21
    go_wp2
    go_ret
    exact ⟨by simp, HB1.out⟩
  subst hi
  rw [decide_eq_true (show pi = pi from rfl)]
  by_cases ha : pa = qa
  case neg =>
    have da : (pa == qa) = false := by simp [ha]
    rw [decide_eq_false ha]
    clear ha HC
    go_enter Tryz.func21, Tryz.ntmps21
    go_wp2
    go_ret
    exact ⟨by simp, HB1.out⟩
  subst ha
  rw [decide_eq_true (show pa = pa from rfl)]
  by_cases hr : pr = qr
  case neg =>
    have dr : (pr == qr) = false := by simp [hr]
    rw [decide_eq_false hr]
    clear hr HC
    go_enter Tryz.func21, Tryz.ntmps21
    go_wp2
    go_ret
    exact ⟨by simp, HB1.out⟩
  subst hr
  rw [decide_eq_true (show pr = pr from rfl)]
  by_cases hw : pw = qw
  case neg =>
    have dw : (pw == qw) = false := by simp [hw]
    rw [decide_eq_false hw]
    clear hw HC
    go_enter Tryz.func21, Tryz.ntmps21
    go_wp2
    go_ret
    exact ⟨by simp, HB1.out⟩
  subst hw
  rw [decide_eq_true (show pw = pw from rfl)]
  by_cases hb : pb = qb
  case neg =>
    have db : (pb == qb) = false := by simp [hb]
    rw [decide_eq_false hb]
    clear hb HC
    go_enter Tryz.func21, Tryz.ntmps21
    go_wp2
    go_ret
    exact ⟨by simp, HB1.out⟩
  subst hb
  rw [decide_eq_true (show pb = pb from rfl)]
  go_enter Tryz.func21, Tryz.ntmps21
  go_wp2_with fail
  refine HC.out.mono ?_
  rintro e w2 ⟨rfl, hb2⟩
  have HB2 := Lib.hid (below3 HB1.out hb2)
  clear hb2 HC
  go_wp2
  go_ret
  exact ⟨by simp, HB2.out⟩
end Go.Proofs.YtplppbgkkfjknaaGreatDoor
namespace Go.Proofs.YtplppbgkkfjknaaGreatDoor
open Go.RowKit

set_option linter.unusedVariables false
set_option linter.unusedSimpArgs false
def sameG (g h : GE) : Bool := decide (g.act = h.act) && decide (g.ps.map keyP = h.ps.map keyP)
theorem sameG_dat {g h : GE} (hs : sameG g h = true) : g.dat = h.dat := by
  unfold sameG at hs
  simp only [Bool.and_eq_true, decide_eq_true_eq] at hs
  unfold GE.dat
  rw [hs.1, map_key_dat hs.2]
def SgI (w : World) (xa ya : Int) (xA yA : Option Addr) (n xc yc : Nat) (xs ys : List PV) (iv : Value) (W : World) : Prop :=
  ∃ k : Nat, k ≤ n ∧ iv = .int .i64 k ∧ Hid (∀ (j : Nat) (p q : PV), j < k → xs[j]? = some p → ys[j]? = some q → sameP p q = true) ∧ Hid (Blk W w.heap.size 47 [.int .i64 xa, .slice xA n xc]) ∧ Hid (Blk W (w.heap.size + 1) 47 [.int .i64 ya, .slice yA n yc]) ∧ Hid (Below w.heap.size w W)
set_option maxRecDepth 100000 in
set_option maxHeartbeats 4000000 in
theorem sameGroup52_any (x y : GE) (N : Nat) (w : World) (hx : Paths w N x.A x.n x.c x.ps) (hy : Paths w N y.A y.n y.c y.ps) (hN : N ≤ w.heap.size) (h1 : x.n ≤ 140737488355328) (h2 : y.n ≤ 140737488355328) (hs : Short x.ps) (ht : Short y.ps) :
    Calls Tryz.prog 17 #[.agg #[.int .i64 x.act, .slice x.A x.n x.c], .agg #[.int .i64 y.act, .slice y.A y.n y.c]] w fun e w' => e = .returned (.bool (sameG x y)) ∧ Below w.heap.size w w' := by
  obtain ⟨xa, xA, n, xc, xs⟩ := x
  obtain ⟨ya, yA, m, yc, ys⟩ := y
  dsimp only at hx hy h1 h2 hs ht ⊢
  obtain ⟨w1, hw1⟩ : ∃ w1, (w.alloc (.cells #[.int .i64 xa, .slice xA n xc] 47)).alloc (.cells #[.int .i64 ya, .slice yA m yc] 47) = w1 := ⟨_, rfl⟩
  have HP1 : Hid (Blk w1 w.heap.size 47 [.int .i64 xa, .slice xA n xc]) := by show Blk _ _ _ _; rw [← hw1]; exact (Blk.new w _ _).keep (belowA _ _)
  have HQ1 : Hid (Blk w1 (w.heap.size + 1) 47 [.int .i64 ya, .slice yA m yc]) := by show Blk _ _ _ _; rw [← hw1]; exact Blk.new2 w _ _ _
  have HB1 : Hid (Below w.heap.size w w1) := by show Below _ _ _; rw [← hw1]; exact below3 (belowA _ _) (belowA _ _)
  have HXW : Hid (∀ W, Below w.heap.size w W → Paths W N xA n xc xs) := fun W h => hx.below (h.mono hN)
  have HYW : Hid (∀ W, Below w.heap.size w W → Paths W N yA m yc ys) := fun W h => hy.below (h.mono hN)
  have HS := Lib.hid hs
  have HT := Lib.hid ht
  have hxl : xs.length = n := hx.1.2
  have hyl : ys.length = m := hy.1.2
  have a0 := HP1.out.cell 0
  have a1 := HP1.out.cell 1
  have b0 := HQ1.out.cell 0
  have b1 := HQ1.out.cell 1
  simp only [List.getElem?_cons_zero, List.getElem?_cons_succ] at a0 a1 b0 b1
  have hl1 := HQ1.out.lt
  have hl0 : w.heap.size < w1.heap.size := by omega
  clear hx hy hs ht
  by_cases ha : xa = ya
  case neg =>
    have d1 : (xa != ya) = true := by simp [ha]
    have HF : Hid (sameG ⟨xa, xA, n, xc, xs⟩ ⟨ya, yA, m, yc, ys⟩ = false) := by
      show _ = _
      unfold sameG
      rw [decide_eq_false (show ¬ xa = ya from ha)]
      rfl
    clear ha hxl hyl
    go_enter Tryz.func17, Tryz.ntmps17
    go_wp2
    go_ret
    exact ⟨by rw [HF.out]; rfl, HB1.out⟩
  subst ha
  by_cases hnm : n = m
  case neg =>
    have d1 : ((n : Int) != (m : Int)) = true := by simp; omega
    have HF : Hid (sameG ⟨xa, xA, n, xc, xs⟩ ⟨xa, yA, m, yc, ys⟩ = false) := by
      show _ = _
      unfold sameG
      rw [decide_eq_false (show ¬ xs.map keyP = ys.map keyP from fun h => hnm (by
        have := congrArg List.length h
        rw [List.length_map, List.length_map] at this
        omega))]
      simp
    clear hnm hxl hyl
    go_enter Tryz.func17, Tryz.ntmps17
    go_wp2
    go_ret
    exact ⟨by rw [HF.out]; rfl, HB1.out⟩
  subst hnm
  have HXL := Lib.hid hxl
  have HYL := Lib.hid hyl
  have HI0 : Hid (SgI w xa xa xA yA n xc yc xs ys (.int .i64 (0 : Nat)) w1) := ⟨0, Nat.zero_le _, rfl, Lib.hid (fun j p q h => absurd h (by omega)), HP1, HQ1, HB1⟩
  clear hxl hyl
  go_enter Tryz.func17, Tryz.ntmps17
  go_wp2
  go_loopw [23] (fun iv wr => SgI w xa xa xA yA n xc yc xs ys iv wr) (fun iv _ => n - (intOf iv).toNat)
  case atStart => exact HI0.out
  case round =>
    obtain ⟨k, hk, rfl, hall, hP, hQ, hB⟩ := hrel
    clear HI0 a0 a1 b0 b1 hw1 HP1 HQ1 HB1 hl1 hl0
    by_cases hlt : k < n
    case neg =>
      obtain rfl : k = n := by omega
      have hme : xs.map keyP = ys.map keyP := by
        have h3 := HXL.out
        have h4 := HYL.out
        refine List.ext_getElem? fun j => ?_
        rw [List.getElem?_map, List.getElem?_map]
        rcases Nat.lt_or_ge j k with h | h
        · have h5 := hall.out j _ _ h (List.getElem?_eq_getElem (by omega)) (List.getElem?_eq_getElem (by omega))
          rw [List.getElem?_eq_getElem (by omega), List.getElem?_eq_getElem (by omega)]
          unfold sameP at h5
          exact congrArg some (of_decide_eq_true h5)
        · rw [List.getElem?_eq_none (by omega), List.getElem?_eq_none (by omega)]
      have HF : Hid (sameG ⟨xa, xA, k, xc, xs⟩ ⟨xa, yA, k, yc, ys⟩ = true) := by
        show _ = _
        unfold sameG
        rw [decide_eq_true (show xa = xa from rfl), decide_eq_true (show xs.map keyP = ys.map keyP from hme)]
        rfl
      go_wp2
      go_ret
      exact ⟨by rw [HF.out]; rfl, hB.out⟩
    obtain ⟨wD, hwD⟩ : ∃ wD, wr.drew = wD := ⟨_, rfl⟩
    have hbD : Below wr.heap.size wr wD := by rw [← hwD]; exact (Below.refl _ _).drew
    have HBD := Lib.hid (below3 hB.out hbD)
    have HPD := Lib.hid (hP.out.keep hbD)
    have HQD := Lib.hid (hQ.out.keep hbD)
    obtain ⟨b, o, p, rfl, hbN, hpk, hpl, c0, c1, c2, c3, c4, c5⟩ := (HXW.out _ HBD.out).get hlt
    obtain ⟨b', o', q, rfl, hbM, hqk, hql, e0, e1, e2, e3, e4, e5⟩ := (HYW.out _ HBD.out).get hlt
    have HPK := Lib.hid hpk
    have HQK := Lib.hid hqk
    have HC := Lib.hid (samePath52_any p q N wD hpl hql (by have := HBD.out.size; omega) (HS.out p (List.mem_of_getElem? hpk)) (HT.out q (List.mem_of_getElem? hqk)))
    obtain ⟨eb, heb⟩ : ∃ eb, sameP p q = eb := ⟨_, rfl⟩
    have HEB := Lib.hid heb
    rw [heb] at HC
    obtain ⟨pi, pa, pr, pw, pA, pn, pc, pl, pb⟩ := p
    obtain ⟨qi, qa, qr, qw, qA, qn, qc, ql, qb⟩ := q
    dsimp only at c0 c1 c2 c3 c4 c5 e0 e1 e2 e3 e4 e5 HC
    have g1 : wD.cell? ⟨w.heap.size, 1, none⟩ = some (.slice (some ⟨b, o, none⟩) n xc) := HPD.out.cell 1
    have k1 : wD.cell? ⟨w.heap.size + 1, 1, none⟩ = some (.slice (some ⟨b', o', none⟩) n yc) := HQD.out.cell 1
    have HSD : Hid ((wD.cell? ⟨w.heap.size, 1, none⟩ = some (.slice (some ⟨b, o, none⟩) n xc) ∧ wD.cell? ⟨w.heap.size + 1, 1, none⟩ = some (.slice (some ⟨b', o', none⟩) n yc)) ∧ (wD.cell? ⟨b, o + k * 6, none⟩ = some (.int .i64 pi) ∧ wD.cell? ⟨b, o + k * 6 + 1, none⟩ = some (.int .u32 pa) ∧ wD.cell? ⟨b, o + k * 6 + 2, none⟩ = some (.int .u32 pr) ∧ wD.cell? ⟨b, o + k * 6 + 3, none⟩ = some (.int .i64 pw) ∧ wD.cell? ⟨b, o + k * 6 + 4, none⟩ = some (.slice pA pn pc) ∧ wD.cell? ⟨b, o + k * 6 + 5, none⟩ = some (.int .i64 pb)) ∧ wD.cell? ⟨b', o' + k * 6, none⟩ = some (.int .i64 qi) ∧ wD.cell? ⟨b', o' + k * 6 + 1, none⟩ = some (.int .u32 qa) ∧ wD.cell? ⟨b', o' + k * 6 + 2, none⟩ = some (.int .u32 qr) ∧ wD.cell? ⟨b', o' + k * 6 + 3, none⟩ = some (.int .i64 qw) ∧ wD.cell? ⟨b', o' + k * 6 + 4, none⟩ = some (.slice qA qn qc) ∧ wD.cell? ⟨b', o' + k * 6 + 5, none⟩ = some (.int .i64 qb)) := ⟨⟨g1, k1⟩, ⟨c0, c1, c2, c3, c4, c5⟩, e0, e1, e2, e3, e4, e5⟩
    have HSW : Hid (∀ V, Below wD.heap.size wD V → (V.cell? ⟨w.heap.size, 1, none⟩ = some (.slice (some ⟨b, o, none⟩) n xc) ∧ V.cell? ⟨w.heap.size + 1, 1, none⟩ = some (.slice (some ⟨b', o', none⟩) n yc)) ∧ (V.cell? ⟨b, o + k * 6, none⟩ = some (.int .i64 pi) ∧ V.cell? ⟨b, o + k * 6 + 1, none⟩ = some (.int .u32 pa) ∧ V.cell? ⟨b, o + k * 6 + 2, none⟩ = some (.int .u32 pr) ∧ V.cell? ⟨b, o + k * 6 + 3, none⟩ = some (.int .i64 pw) ∧ V.cell? ⟨b, o + k * 6 + 4, none⟩ = some (.slice pA pn pc) ∧ V.cell? ⟨b, o + k * 6 + 5, none⟩ = some (.int .i64 pb)) ∧ V.cell? ⟨b', o' + k * 6, none⟩ = some (.int .i64 qi) ∧ V.cell? ⟨b', o' + k * 6 + 1, none⟩ = some (.int .u32 qa) ∧ V.cell? ⟨b', o' + k * 6 + 2, none⟩ = some (.int .u32 qr) ∧ V.cell? ⟨b', o' + k * 6 + 3, none⟩ = some (.int .i64 qw) ∧ V.cell? ⟨b', o' + k * 6 + 4, none⟩ = some (.slice qA qn qc) ∧ V.cell? ⟨b', o' + k * 6 + 5, none⟩ = some (.int .i64 qb)) := by
      intro V hV
      have hbb : b < wD.heap.size := by have := HBD.out.size; omega
      have hbb' : b' < wD.heap.size := by have := HBD.out.size; omega
      exact ⟨⟨(hV.cell (p := ⟨_, _, none⟩) HPD.out.lt).trans g1, (hV.cell (p := ⟨_, _, none⟩) HQD.out.lt).trans k1⟩, ⟨(hV.cell (p := ⟨b, _, none⟩) hbb).trans c0, (hV.cell (p := ⟨b, _, none⟩) hbb).trans c1, (hV.cell (p := ⟨b, _, none⟩) hbb).trans c2, (hV.cell (p := ⟨b, _, none⟩) hbb).trans c3, (hV.cell (p := ⟨b, _, none⟩) hbb).trans c4, (hV.cell (p := ⟨b, _, none⟩) hbb).trans c5⟩,
        (hV.cell (p := ⟨b', _, none⟩) hbb').trans e0, (hV.cell (p := ⟨b', _, none⟩) hbb').trans e1, (hV.cell (p := ⟨b', _, none⟩) hbb').trans e2, (hV.cell (p := ⟨b', _, none⟩) hbb').trans e3, (hV.cell (p := ⟨b', _, none⟩) hbb').trans e4, (hV.cell (p := ⟨b', _, none⟩) hbb').trans e5⟩
    clear hbD hpk hqk hpl hql heb c0 c1 c2 c3 c4 c5 e0 e1 e2 e3 e4 e5 g1 k1
    go_upto_region 6 with fail
    refine wp_region_noPanic ?_
    refine wp_region_held_drew (S := fun V => (V.cell? ⟨w.heap.size, 1, none⟩ = some (.slice (some ⟨b, o, none⟩) n xc) ∧ V.cell? ⟨w.heap.size + 1, 1, none⟩ = some (.slice (some ⟨b', o', none⟩) n yc)) ∧ (V.cell? ⟨b, o + k * 6, none⟩ = some (.int .i64 pi) ∧ V.cell? ⟨b, o + k * 6 + 1, none⟩ = some (.int .u32 pa) ∧ V.cell? ⟨b, o + k * 6 + 2, none⟩ = some (.int .u32 pr) ∧ V.cell? ⟨b, o + k * 6 + 3, none⟩ = some (.int .i64 pw) ∧ V.cell? ⟨b, o + k * 6 + 4, none⟩ = some (.slice pA pn pc) ∧ V.cell? ⟨b, o + k * 6 + 5, none⟩ = some (.int .i64 pb)) ∧ V.cell? ⟨b', o' + k * 6, none⟩ = some (.int .i64 qi) ∧ V.cell? ⟨b', o' + k * 6 + 1, none⟩ = some (.int .u32 qa) ∧ V.cell? ⟨b', o' + k * 6 + 2, none⟩ = some (.int .u32 qr) ∧ V.cell? ⟨b', o' + k * 6 + 3, none⟩ = some (.int .i64 qw) ∧ V.cell? ⟨b', o' + k * 6 + 4, none⟩ = some (.slice qA qn qc) ∧ V.cell? ⟨b', o' + k * 6 + 5, none⟩ = some (.int .i64 qb)) (by kernel_rfl) (by rw [hwD]; exact HSD.out) (fun hHeld => ?_)
    rw [hwD] at hHeld ⊢
    clear hwD
    refine take_in (i := 0) _ (some 26) (by kernel_rfl) (by kernel_rfl) (by kernel_rfl) (by kernel_rfl) (fun _ _ _ h => h) (by rfl) (fun o ho w hSw => by cases ho; (try dsimp only at hSw); (try go_split_ands); go_simp; (try with_reducible rfl)) hHeld ?_
    try simp only [Act.put, List.setIfInBounds_toArray, List.set_cons_zero, List.set_cons_succ]
    refine take_in (i := 1) _ (some 27) (by kernel_rfl) (by kernel_rfl) (by kernel_rfl) (by kernel_rfl) (fun _ _ _ h => h) (by rfl) (fun o ho w hSw => by cases ho; (try dsimp only at hSw); (try go_split_ands); go_simp; (try with_reducible rfl)) hHeld ?_
    try simp only [Act.put, List.setIfInBounds_toArray, List.set_cons_zero, List.set_cons_succ]
    refine take_in (i := 2) _ (some 28) (by kernel_rfl) (by kernel_rfl) (by kernel_rfl) (by kernel_rfl) (fun _ _ _ h => h) (by rfl) (fun o ho w hSw => by cases ho; (try dsimp only at hSw); (try go_split_ands); go_simp; (try with_reducible rfl)) hHeld ?_
    try simp only [Act.put, List.setIfInBounds_toArray, List.set_cons_zero, List.set_cons_succ]
    refine take_in (i := 3) _ (some 29) (by kernel_rfl) (by kernel_rfl) (by kernel_rfl) (by kernel_rfl) (fun _ _ _ h => h) (by rfl) (fun o ho w hSw => by cases ho; (try dsimp only at hSw); (try go_split_ands); go_simp; (try with_reducible rfl)) hHeld ?_
    try simp only [Act.put, List.setIfInBounds_toArray, List.set_cons_zero, List.set_cons_succ]
    refine take_in (i := 4) _ (some 30) (by kernel_rfl) (by kernel_rfl) (by kernel_rfl) (by kernel_rfl) (fun _ _ _ h => h) (by rfl) (fun o ho w hSw => by cases ho; (try dsimp only at hSw); (try go_split_ands); go_simp; (try with_reducible rfl)) hHeld ?_
    try simp only [Act.put, List.setIfInBounds_toArray, List.set_cons_zero, List.set_cons_succ]
    refine take_in (i := 5) _ (some 31) (by kernel_rfl) (by kernel_rfl) (by kernel_rfl) (by kernel_rfl) (fun _ _ _ h => h) (by rfl) (fun o ho w hSw => by cases ho; (try dsimp only at hSw); (try go_split_ands); go_simp; (try with_reducible rfl)) hHeld ?_
    try simp only [Act.put, List.setIfInBounds_toArray, List.set_cons_zero, List.set_cons_succ]
    refine take_in (i := 6) _ (some 32) (by kernel_rfl) (by kernel_rfl) (by kernel_rfl) (by kernel_rfl) (fun _ _ _ h => h) (by rfl) (fun o ho w hSw => by cases ho; (try dsimp only at hSw); (try go_split_ands); go_simp; (try with_reducible rfl)) hHeld ?_
    try simp only [Act.put, List.setIfInBounds_toArray, List.set_cons_zero, List.set_cons_succ]
    refine take_in (i := 7) _ (some 33) (by kernel_rfl) (by kernel_rfl) (by kernel_rfl) (by kernel_rfl) (fun _ _ _ h => h) (by rfl) (fun o ho w hSw => by cases ho; (try dsimp only at hSw); (try go_split_ands); go_simp; (try with_reducible rfl)) hHeld ?_
    try simp only [Act.put, List.setIfInBounds_toArray, List.set_cons_zero, List.set_cons_succ]
    refine take_in (i := 8) _ (some 34) (by kernel_rfl) (by kernel_rfl) (by kernel_rfl) (by kernel_rfl) (fun _ _ _ h => h) (by rfl) (fun o ho w hSw => by cases ho; (try dsimp only at hSw); (try go_split_ands); go_simp; (try with_reducible rfl)) hHeld ?_
    try simp only [Act.put, List.setIfInBounds_toArray, List.set_cons_zero, List.set_cons_succ]
    refine take_in (i := 9) _ (some 35) (by kernel_rfl) (by kernel_rfl) (by kernel_rfl) (by kernel_rfl) (fun _ _ _ h => h) (by rfl) (fun o ho w hSw => by cases ho; (try dsimp only at hSw); (try go_split_ands); go_simp; (try with_reducible rfl)) hHeld ?_
    try simp only [Act.put, List.setIfInBounds_toArray, List.set_cons_zero, List.set_cons_succ]
    refine wpAnyH_ready (rs := [10]) (by kernel_rfl) (by simp) ?_
    refine AllReadyH.cons (o := _) rfl (fun K hK => ?_) AllReadyH.nil
    go_simp
    go_at_call 21
    with_reducible refine HC.out.mono ?_
    rintro e w3 ⟨rfl, hb3⟩
    have HB3 := Lib.hid (below3 HBD.out hb3)
    have HP3 := Lib.hid (HPD.out.keep hb3)
    have HQ3 := Lib.hid (HQD.out.keep hb3)
    have HS3 := Lib.hid (HSW.out _ hb3)
    clear hb3
    refine hK.out _ _ HS3.out (fun hHeld => ?_)
    clear hK K
    try simp only [Act.put, List.setIfInBounds_toArray, List.set_cons_zero, List.set_cons_succ]
    refine take_in (i := 11) _ (some 37) (by kernel_rfl) (by kernel_rfl) (by kernel_rfl) (by kernel_rfl) (fun _ _ _ h => h) (by rfl) (fun o ho w hSw => by cases ho; (try dsimp only at hSw); (try go_split_ands); go_simp; (try with_reducible rfl)) hHeld ?_
    try simp only [Act.put, List.setIfInBounds_toArray, List.set_cons_zero, List.set_cons_succ]
    refine wpAnyH_done (by kernel_rfl) ?_ _
    refine NoPanic.normal ?_
    clear HSD HSW HC HS3
    cases eb with
    | true =>
      have HN : Hid (∀ (j : Nat) (p q : PV), j < k + 1 → xs[j]? = some p → ys[j]? = some q → sameP p q = true) := by
        intro j p q hj hp hq
        rcases Nat.lt_or_ge j k with h | h
        · exact hall.out j p q h hp hq
        · obtain rfl : j = k := by omega
          rw [HPK.out] at hp
          rw [HQK.out] at hq
          obtain rfl := Option.some.inj hp
          obtain rfl := Option.some.inj hq
          exact HEB.out
      go_wp2
      go_roundw
      case rel => exact ⟨k + 1, by omega, by go_num, HN, HP3, HQ3, HB3⟩
      case measure => simp [intOf]; omega
    | false =>
      have HF : Hid (sameG ⟨xa, some ⟨b, o, none⟩, n, xc, xs⟩ ⟨xa, some ⟨b', o', none⟩, n, yc, ys⟩ = false) := by
        show _ = _
        unfold sameG
        rw [decide_eq_false (show ¬ xs.map keyP = ys.map keyP from fun h => ?_)]
        · simp
        have h3 := congrArg (fun l => l[k]?) h
        try dsimp only at h3
        rw [List.getElem?_map, List.getElem?_map, HPK.out, HQK.out] at h3
        have h4 := HEB.out
        unfold sameP at h4
        exact absurd (Option.some.inj h3) (of_decide_eq_false h4)
      go_wp2
      go_ret
      exact ⟨by rw [HF.out]; rfl, HB3.out⟩
end Go.Proofs.YtplppbgkkfjknaaGreatDoor
