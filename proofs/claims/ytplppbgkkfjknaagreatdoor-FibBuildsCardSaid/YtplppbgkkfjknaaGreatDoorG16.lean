/- label: the labels for a prefix and a router. backup: the first backup for a hop. The paths of a group as they grow: append of one path. isDown, neighbor; slices.Contains over addresses. neighbor. -/
import Derived.Test.YtplppbgkkfjknaaGreatDoorG15
namespace Go.Proofs.YtplppbgkkfjknaaGreatDoor
open Go.RowKit

set_option linter.unusedVariables false
set_option linter.unusedSimpArgs false
def Outs (w : World) (B : Nat) (A : Option Addr) (n c : Nat) (os : List LO) : Prop := Recs w B 3 A n c LO.vals os ∧ ∀ o ∈ os, o.n ≤ 140737488355328 ∧ Hops w B o.A o.n o.c o.hs
theorem Outs.below {w w' : World} {B n c : Nat} {A : Option Addr} {os : List LO} (h : Outs w B A n c os) (hb : Below B w w') : Outs w' B A n c os := ⟨h.1.below hb, fun r hr => ⟨(h.2 r hr).1, Recs.below (h.2 r hr).2 hb⟩⟩
def samePre (a : Nat) (l : Int) (o : LO) : Bool := decide (o.a = a) && decide (o.l = l)
def hopLab (r : Int) : List HV → List Int
  | [] => []
  | h :: t => if h.router = r then (if h.label = -1 then [] else [h.label]) else hopLab r t
def labelR (a : Nat) (l r : Int) : List LO → List Int
  | [] => []
  | o :: t => if samePre a l o = true then hopLab r o.hs else labelR a l r t
theorem eqNat (a b : Nat) : ((a : Int) == (b : Int)) = decide (a = b) := eqInt a b
set_option maxHeartbeats 1000000 in
theorem samePre_any (a : Nat) (l : Int) (q : Nat) (x : LO) (w : World) (h0 : w.cell? ⟨q, 0, none⟩ = some (.int .u32 a)) (h1 : w.cell? ⟨q, 1, none⟩ = some (.int .i64 l)) (hq : q < w.heap.size) :
    Calls Tryz.prog 116 #[.agg #[.int .u32 x.a, .int .i64 x.l, .slice x.A x.n x.c], .pointer (some ⟨q, 0, none⟩)] w fun e w' => e = .returned (.bool (samePre a l x)) ∧ Below w.heap.size w w' := by
  obtain ⟨xa, xl, xA, xn, xc, xh⟩ := x
  obtain ⟨b, hb⟩ : ∃ b, samePre a l ⟨xa, xl, xA, xn, xc, xh⟩ = b := ⟨_, rfl⟩
  have HQ : Hid ((decide (xa = a) && decide (xl = l)) = b) := hb
  rw [hb]
  clear hb
  dsimp only
  go_enter Tryz.func116, Tryz.ntmps116
  go_wp2
  all_goals
    go_ret
    refine ⟨?_, belowA _ _⟩
    rw [← HQ.out]
    (try simp_all)
    all_goals (intros; omega)
theorem idx_labelR (a : Nat) (l r : Int) : ∀ os : List LO, labelR a l r os = if idxQ (samePre a l) os < 0 then [] else hopLab r (((os[(idxQ (samePre a l) os).toNat]?).getD ⟨0, 0, none, 0, 0, []⟩).hs)
  | [] => by simp [labelR, idxQ]
  | o :: t => by
    have ih := idx_labelR a l r t
    rw [labelR, idxQ]
    by_cases h : samePre a l o = true
    · rw [if_pos h, if_pos h, if_neg (by omega)]
      rfl
    · rw [if_neg h, if_neg h, ih]
      by_cases h2 : idxQ (samePre a l) t < 0
      · rw [if_pos h2, if_pos h2, if_pos (by omega)]
      · rw [if_neg h2, if_neg h2, if_neg (by omega)]
        obtain ⟨k, hk⟩ : ∃ k : Nat, idxQ (samePre a l) t = k := ⟨_, (Int.toNat_of_nonneg (by omega)).symm⟩
        rw [hk, show ((k : Int) + 1).toNat = k + 1 by omega, Int.toNat_natCast]
        rfl
theorem idxQ_lt {α : Type} {P : α → Bool} : ∀ (l : List α), idxQ P l < l.length
  | [] => by simp [idxQ]
  | x :: r => by
    have := idxQ_lt (P := P) r
    rw [idxQ, List.length_cons]
    split
    · omega
    · split <;> omega
theorem idxQ_ge {α : Type} {P : α → Bool} : ∀ (l : List α), -1 ≤ idxQ P l
  | [] => by simp [idxQ]
  | x :: r => by
    have := idxQ_ge (P := P) r
    rw [idxQ]
    split
    · omega
    · split <;> omega
theorem hopLab_skip {r : Int} : ∀ {hs : List HV} {k : Nat}, (∀ j, j < k → ∀ x, hs[j]? = some x → x.router ≠ r) → hopLab r hs = hopLab r (hs.drop k)
  | hs, 0, _ => by simp
  | [], k + 1, _ => by simp
  | x :: t, k + 1, h => by
    rw [hopLab, if_neg (h 0 (by omega) x rfl), List.drop_succ_cons]
    exact hopLab_skip fun j hj y hy => h (j + 1) (by omega) y (by simpa using hy)
def GivesLab (xs : List Int) (w : World) (e : Ending) (w' : World) : Prop :=
  ∃ (A : Option Addr) (c : Nat), e = .returned (.slice A xs.length c) ∧ Own w' w.heap.size 3 .i64 (.slice A xs.length c) xs.length xs ∧ Below w.heap.size w w'
set_option maxRecDepth 100000 in
set_option maxHeartbeats 4000000 in
theorem label_fib_any (bb : Nat) (oA : Option Addr) (on oc B : Nat) (os : List LO) (a : Nat) (l r : Int) (w : World) (hx : Outs w B oA on oc os) (hB : B ≤ w.heap.size) (hn : on ≤ 140737488355328) (hbb : bb < w.heap.size) (hb1 : w.cell? ⟨bb, 1, none⟩ = some (.slice oA on oc)) :
    Calls Tryz.prog 91 #[.pointer (some ⟨bb, 0, none⟩), .agg #[.int .u32 a, .int .i64 l], .int .u32 r] w (GivesLab (labelR a l r os) w) := by
  obtain ⟨w1, hw1⟩ : ∃ w1, w.alloc (.cells #[.int .u32 a, .int .i64 l] 65) = w1 := ⟨_, rfl⟩
  have hbA : Blk w1 w.heap.size 65 [.int .u32 a, .int .i64 l] := by rw [← hw1]; exact Blk.new w _ _
  have HB1 : Hid (Below w.heap.size w w1) := by show Below _ _ _; rw [← hw1]; exact belowA _ _
  have hlt1 := hbA.lt
  have b1 : w1.cell? ⟨bb, 1, none⟩ = some (.slice oA on oc) := (HB1.out.cell (p := ⟨bb, 1, none⟩) hbb).trans hb1
  have hbb1 : bb < w1.heap.size := by omega
  have HXW : Hid (∀ W, Below w.heap.size w W → Outs W B oA on oc os) := fun W h => hx.below (h.mono hB)
  have HC := Lib.hid (idxOut_any (samePre a l) w.heap.size oA on oc B os w1 (HXW.out _ HB1.out).1 (by omega) hn fun x W hW => samePre_any a l w.heap.size x W ((hbA.keep hW).cell 0) ((hbA.keep hW).cell 1) (hbA.keep hW).lt)
  have HI := Lib.hid (idx_labelR a l r os)
  have HLT := idxQ_lt (P := samePre a l) os
  have HGE := idxQ_ge (P := samePre a l) os
  obtain ⟨i, hi⟩ : ∃ i, idxQ (samePre a l) os = i := ⟨_, rfl⟩
  rw [hi] at HC HI HLT HGE
  have hol : os.length = on := hx.1.2
  rw [hol] at HLT
  clear hx hi hol hbA
  go_enter Tryz.func91, Tryz.ntmps91
  go_wp2_with fail
  refine HC.out.mono ?_
  rintro e w2 ⟨rfl, hb2⟩
  have HB2 := Lib.hid (below3 HB1.out hb2)
  have b2 : w2.cell? ⟨bb, 1, none⟩ = some (.slice oA on oc) := (HB2.out.cell (p := ⟨bb, 1, none⟩) hbb).trans hb1
  have hbb2 : bb < w2.heap.size := by have := hb2.size; omega
  clear HC hb2 hw1 b1 hbb1 HB1 hlt1
  by_cases hneg : i < 0
  · have HF : Hid (labelR a l r os = []) := by show _ = _; rw [HI.out, if_pos hneg]
    go_wp2
    go_ret
    rw [HF.out]
    exact ⟨none, 0, rfl, Own.nil _ _ _ _, HB2.out⟩
  obtain ⟨k, rfl⟩ : ∃ k : Nat, i = k := ⟨i.toNat, by omega⟩
  have hk : k < on := by omega
  obtain ⟨b, o, x, rfl, hbB, hxk, c0, c1, c2⟩ := LO.get (HXW.out _ HB2.out).1 hk
  have hbw : b < w2.heap.size := by have := HB2.out.size; omega
  obtain ⟨hxn, hxh⟩ := (HXW.out _ HB2.out).2 x (List.mem_of_getElem? hxk)
  have HF : Hid (labelR a l r os = hopLab r x.hs) := by
    show _ = _
    rw [HI.out, if_neg hneg, Int.toNat_natCast, hxk]
    rfl
  obtain ⟨xa, xl, xA, xn, xc, hs⟩ := x
  dsimp only at hxn hxh c0 c1 c2 HF
  have HXH : Hid (∀ W, Below w2.heap.size w2 W → Hops W B xA xn xc hs) := fun W h => hxh.below (h.mono (by have := HB2.out.size; omega))
  have HHL := Lib.hid hxh.len
  have HI0 : Hid (∃ j : Nat, j ≤ xn ∧ (Value.int .i64 (0 : Nat)) = .int .i64 j ∧ Hid (∀ i, i < j → ∀ y, hs[i]? = some y → y.router ≠ r) ∧ Hid (Below w2.heap.size w2 w2)) := ⟨0, Nat.zero_le _, rfl, Lib.hid (fun i h => absurd h (by omega)), Lib.hid (Below.refl _ _)⟩
  clear hxk hxh HI HLT HGE
  go_wp2
  go_loopw [27] (fun iv wr => ∃ j : Nat, j ≤ xn ∧ iv = .int .i64 j ∧ Hid (∀ i, i < j → ∀ y, hs[i]? = some y → y.router ≠ r) ∧ Hid (Below w2.heap.size w2 wr)) (fun iv _ => xn - (intOf iv).toNat)
  case atStart => exact HI0.out
  case round =>
    obtain ⟨j, hj, rfl, hno, hB3⟩ := hrel
    clear HI0 b2 c0 c1 c2
    have HBW := Lib.hid (below3 HB2.out hB3.out)
    by_cases hlt : j < xn
    case neg =>
      have HE : Hid (labelR a l r os = []) := by
        show _ = _
        rw [HF.out, hopLab_skip (k := j) hno.out, List.drop_eq_nil_of_le (by rw [HHL.out]; omega)]
        rfl
      go_wp2
      go_ret
      rw [HE.out]
      exact ⟨none, 0, rfl, Own.nil _ _ _ _, HBW.out⟩
    obtain ⟨b4, o4, y, rfl, hb4, hyj, y0, y1⟩ := (HXH.out _ hB3.out).get hlt
    have hb4w : b4 < wr.heap.size := by have := HBW.out.size; omega
    have HY := Lib.hid hyj
    have HD : Hid (labelR a l r os = if y.router = r then (if y.label = -1 then [] else [y.label]) else hopLab r (hs.drop (j + 1))) := by
      show _ = _
      rw [HF.out, hopLab_skip (k := j) hno.out, List.drop_eq_getElem_cons (by rw [HHL.out]; exact hlt)]
      rw [hopLab]
      have e : hs[j]'(by rw [HHL.out]; exact hlt) = y := by
        have h := List.getElem?_eq_getElem (l := hs) (i := j) (by rw [HHL.out]; exact hlt)
        rw [hyj] at h
        exact (Option.some.inj h).symm
      rw [e]
    obtain ⟨yr, yl⟩ := y
    dsimp only at y0 y1 HD
    obtain ⟨wa, hwa⟩ : ∃ wa, wr.alloc (.cells #[.int .u32 yr, .int .i64 yl] 105) = wa := ⟨_, rfl⟩
    have hya : Blk wa wr.heap.size 105 [.int .u32 yr, .int .i64 yl] := by rw [← hwa]; exact Blk.new wr _ _
    have HBA := Lib.hid (show Below wr.heap.size wr wa by rw [← hwa]; exact belowA _ _)
    have HB5 := Lib.hid (below3 HBW.out HBA.out)
    have HB6 := Lib.hid (below3 hB3.out HBA.out)
    have e0 := hya.cell 0
    have e1 := hya.cell 1
    simp only [List.getElem?_cons_zero, List.getElem?_cons_succ] at e0 e1
    have hlta := hya.lt
    clear hyj hya
    by_cases hr : yr = r
    · subst hr
      by_cases hl1 : yl = -1
      · subst hl1
        have HE : Hid (labelR a l yr os = []) := by show _ = _; rw [HD.out, if_pos rfl, if_pos rfl]
        go_wp2
        go_ret
        rw [HE.out]
        exact ⟨none, 0, rfl, Own.nil _ _ _ _, HB5.out⟩
      · have HE : Hid (labelR a l yr os = [yl]) := by show _ = _; rw [HD.out, if_pos rfl, if_neg hl1]
        have d1 : (yl == -1) = false := by simp [hl1]
        have HO : Hid (Own (wa.alloc (.cells #[.int .i64 yl] 3)) w.heap.size 3 .i64 (.slice (some ⟨wa.heap.size, 0, none⟩) 1 1) 1 [yl]) := by
          show Own _ _ _ _ _ _ _
          exact World.ownsRow_lit (base := w.heap.size) (size := 1) wa #[.int .i64 yl] 1 HB5.out.size (by simp [maxLen]) rfl
        clear hl1
        go_wp2
        go_ret
        rw [HE.out]
        exact ⟨some ⟨wa.heap.size, 0, none⟩, 1, rfl, HO.out, below3 HB5.out (belowA _ _)⟩
    · have d1 : (yr == r) = false := by simp [hr]
      have HN : Hid (∀ i, i < j + 1 → ∀ y, hs[i]? = some y → y.router ≠ r) := by
        intro i hi y hy
        rcases Nat.lt_or_ge i j with h | h
        · exact hno.out i h y hy
        · obtain rfl : i = j := by omega
          rw [HY.out] at hy
          obtain rfl := Option.some.inj hy
          exact hr
      go_wp2
      go_roundw
      case rel => exact ⟨j + 1, by omega, by go_num, HN, HB6⟩
      case measure => simp [intOf]; omega
end Go.Proofs.YtplppbgkkfjknaaGreatDoor
namespace Go.Proofs.YtplppbgkkfjknaaGreatDoor
open Go.RowKit

set_option linter.unusedVariables false
set_option linter.unusedSimpArgs false
def forHop (a : Nat) (l r : Int) (x : BK) : Bool := decide (x.a = a) && decide (x.l = l) && decide (x.prim = r)
set_option maxHeartbeats 1000000 in
theorem forHop_any (h : XH) (q : Nat) (x : BK) (w : World) (h0 : Blk w q 73 h.vals) :
    Calls Tryz.prog 118 #[.agg #[.int .u32 x.a, .int .i64 x.l, .int .u32 x.prim, .int .i64 x.p.iface, .int .u32 x.p.addr, .int .u32 x.p.router, .int .i64 x.p.weight, .slice x.p.A x.p.ln x.p.lc, .int .i64 x.p.backup], .pointer (some ⟨q, 0, none⟩)] w fun e w' => e = .returned (.bool (forHop h.va h.vl h.router x)) ∧ Below w.heap.size w w' := by
  obtain ⟨xa, xl, xp, ⟨p0, p1, p2, p3, pA, pn, pc, pl, p4⟩⟩ := x
  obtain ⟨ha, hi, hr, hw, hva, hvl⟩ := h
  have c2 : w.cell? ⟨q, 2, none⟩ = some (.int .u32 hr) := h0.cell 2
  have c4 : w.cell? ⟨q, 4, none⟩ = some (.int .u32 hva) := h0.cell 4
  have c5 : w.cell? ⟨q, 5, none⟩ = some (.int .i64 hvl) := h0.cell 5
  have hq := h0.lt
  obtain ⟨b, hb⟩ : ∃ b, forHop hva hvl hr ⟨xa, xl, xp, ⟨p0, p1, p2, p3, pA, pn, pc, pl, p4⟩⟩ = b := ⟨_, rfl⟩
  have HQ : Hid ((decide (xa = hva) && decide (xl = hvl) && decide (xp = hr)) = b) := hb
  dsimp only
  rw [hb]
  clear hb h0
  go_enter Tryz.func118, Tryz.ntmps118
  go_wp2
  all_goals
    go_ret
    refine ⟨?_, belowA _ _⟩
    rw [← HQ.out]
    (try simp_all)
    all_goals first | (intros; omega) | (rename_i h1 h2; have e1 : xa = hva := by omega
                                         subst e1; simp; by_cases e : xp = hr <;> simp [e])
def backR (a : Nat) (l r : Int) (bs : List BK) : Option PV := if idxQ (forHop a l r) bs < 0 then none else (bs[(idxQ (forHop a l r) bs).toNat]?).map (·.p)
def GivesBack (o : Option PV) : Ending := match o with
  | some p => .returned (.tuple #[.agg #[.int .i64 p.iface, .int .u32 p.addr, .int .u32 p.router, .int .i64 p.weight, .slice p.A p.ln p.lc, .int .i64 p.backup], .bool true])
  | none => .returned (.tuple #[.agg #[.int .i64 0, .int .u32 0, .int .u32 0, .int .i64 0, .slice none 0 0, .int .i64 0], .bool false])
set_option maxRecDepth 100000 in
set_option maxHeartbeats 4000000 in
theorem backup_fib_any (bb : Nat) (kA : Option Addr) (kn kc B : Nat) (bs : List BK) (h : XH) (w : World) (hx : Recs w B 9 kA kn kc BK.vals bs) (hB : B ≤ w.heap.size) (hn : kn ≤ 140737488355328) (hbb : bb < w.heap.size) (hb0 : w.cell? ⟨bb, 0, none⟩ = some (.slice kA kn kc)) :
    Calls Tryz.prog 92 #[.pointer (some ⟨bb, 0, none⟩), .agg #[.int .u32 h.addr, .int .i64 h.iface, .int .u32 h.router, .int .i64 h.weight, .int .u32 h.va, .int .i64 h.vl]] w fun e w' => e = GivesBack (backR h.va h.vl h.router bs) ∧ Below w.heap.size w w' := by
  obtain ⟨w1, hw1⟩ : ∃ w1, (w.alloc (.cells #[.int .u32 h.addr, .int .i64 h.iface, .int .u32 h.router, .int .i64 h.weight, .int .u32 h.va, .int .i64 h.vl] 73)).alloc (.cells #[.int .i64 0, .int .u32 0, .int .u32 0, .int .i64 0, .slice none 0 0, .int .i64 0] 57) = w1 := ⟨_, rfl⟩
  have hbA : Blk w1 w.heap.size 73 h.vals := by rw [← hw1]; exact (Blk.new w _ _).keep (belowA _ _)
  have HBR : Hid (Blk w1 (w.heap.size + 1) 57 [.int .i64 0, .int .u32 0, .int .u32 0, .int .i64 0, .slice none 0 0, .int .i64 0]) := by show Blk _ _ _ _; rw [← hw1]; exact Blk.new2 w _ _ _
  have HB1 : Hid (Below w.heap.size w w1) := by show Below _ _ _; rw [← hw1]; exact below3 (belowA _ _) (belowA _ _)
  have hlt1 := HBR.out.lt
  have b0 : w1.cell? ⟨bb, 0, none⟩ = some (.slice kA kn kc) := (HB1.out.cell (p := ⟨bb, 0, none⟩) hbb).trans hb0
  have hbb1 : bb < w1.heap.size := by omega
  have HXW : Hid (∀ W, Below w.heap.size w W → Recs W B 9 kA kn kc BK.vals bs) := fun W h => Recs.below hx (h.mono hB)
  have HC := Lib.hid (idxBak_any (forHop h.va h.vl h.router) w.heap.size kA kn kc B bs w1 (HXW.out _ HB1.out) (by omega) hn fun x W hW => forHop_any h w.heap.size x W (hbA.keep hW))
  have HLT := idxQ_lt (P := forHop h.va h.vl h.router) bs
  have HGE := idxQ_ge (P := forHop h.va h.vl h.router) bs
  have HR : Hid (backR h.va h.vl h.router bs = if idxQ (forHop h.va h.vl h.router) bs < 0 then none else (bs[(idxQ (forHop h.va h.vl h.router) bs).toNat]?).map (·.p)) := rfl
  obtain ⟨i, hi⟩ : ∃ i, idxQ (forHop h.va h.vl h.router) bs = i := ⟨_, rfl⟩
  rw [hi] at HC HR HLT HGE
  have hol : bs.length = kn := hx.2
  rw [hol] at HLT
  clear hx hi hol hbA
  obtain ⟨R, hR⟩ : ∃ R, backR h.va h.vl h.router bs = R := ⟨_, rfl⟩
  rw [hR] at HR ⊢
  clear hR
  go_enter Tryz.func92, Tryz.ntmps92
  go_wp2_with fail
  refine HC.out.mono ?_
  rintro e w2 ⟨rfl, hb2⟩
  have HB2 := Lib.hid (below3 HB1.out hb2)
  have b2 : w2.cell? ⟨bb, 0, none⟩ = some (.slice kA kn kc) := (HB2.out.cell (p := ⟨bb, 0, none⟩) hbb).trans hb0
  have HBR2 := Lib.hid (HBR.out.keep hb2)
  have hbb2 : bb < w2.heap.size := by have := hb2.size; omega
  have hres : w.heap.size + 1 < w2.heap.size := by have := hb2.size; omega
  clear HC hb2 hw1 b0 hbb1 HB1 hlt1 HBR
  by_cases hneg : i < 0
  · have HF : Hid (R = none) := by show _ = _; rw [HR.out, if_pos hneg]
    obtain ⟨w3, hw3⟩ : ∃ w3, w2.setRow (w.heap.size + 1) #[.int .i64 0, .int .u32 0, .int .u32 0, .int .i64 0, .slice none 0 0, .int .i64 0] = w3 := ⟨_, rfl⟩
    have HB3 : Hid (Blk w3 (w.heap.size + 1) 57 [.int .i64 0, .int .u32 0, .int .u32 0, .int .i64 0, .slice none 0 0, .int .i64 0]) := by show Blk _ _ _ _; rw [← hw3]; exact HBR2.out.row _
    have HL3 : Hid (Below w.heap.size w w3) := by show Below _ _ _; rw [← hw3]; exact HB2.out.trans ((Save.row (w.heap.size + 1) w2 _).below (by omega) HB2.out.size)
    go_wp2_with (refine wpList_store_blk rfl 57 _ _ rfl (w.heap.size + 1) rfl rfl HBR2.out (by kernel_rfl) rfl (by kernel_rfl) ?_)
    try rw [hw3]
    refine bodyPost_ret (results_cell_row2 rfl _ (w.heap.size + 1) _ rfl HB3.out Tryz.underlying57 rfl (by kernel_rfl)) rfl ⟨by rw [HF.out]; rfl, HL3.out⟩
  obtain ⟨k, rfl⟩ : ∃ k : Nat, i = k := ⟨i.toNat, by omega⟩
  have hk : k < kn := by omega
  obtain ⟨b, o, x, rfl, hbB, hxk, c0, c1, c2, c3, c4, c5, c6, c7, c8⟩ := BK.get (HXW.out _ HB2.out) hk
  have hbw : b < w2.heap.size := by have := HB2.out.size; omega
  have HF : Hid (R = some x.p) := by
    show _ = _
    rw [HR.out, if_neg hneg, Int.toNat_natCast, hxk]
    rfl
  obtain ⟨xa, xl, xp, ⟨p0, p1, p2, p3, pA, pn, pc, pl, p4⟩⟩ := x
  dsimp only at c0 c1 c2 c3 c4 c5 c6 c7 c8 HF
  obtain ⟨w3, hw3⟩ : ∃ w3, w2.setRow (w.heap.size + 1) #[.int .i64 p0, .int .u32 p1, .int .u32 p2, .int .i64 p3, .slice pA pn pc, .int .i64 p4] = w3 := ⟨_, rfl⟩
  have HB3 : Hid (Blk w3 (w.heap.size + 1) 57 [.int .i64 p0, .int .u32 p1, .int .u32 p2, .int .i64 p3, .slice pA pn pc, .int .i64 p4]) := by show Blk _ _ _ _; rw [← hw3]; exact HBR2.out.row _
  have HL3 : Hid (Below w.heap.size w w3) := by show Below _ _ _; rw [← hw3]; exact HB2.out.trans ((Save.row (w.heap.size + 1) w2 _).below (by omega) HB2.out.size)
  clear hxk HLT HGE
  go_wp2_with (refine wpList_store_blk rfl 57 _ _ rfl (w.heap.size + 1) rfl rfl HBR2.out (by kernel_rfl) rfl (by kernel_rfl) ?_)
  try rw [hw3]
  refine bodyPost_ret (results_cell_row2 rfl _ (w.heap.size + 1) _ rfl HB3.out Tryz.underlying57 rfl (by kernel_rfl)) rfl ⟨by rw [HF.out]; rfl, HL3.out⟩
end Go.Proofs.YtplppbgkkfjknaaGreatDoor
namespace Go.Proofs.YtplppbgkkfjknaaGreatDoor
open Go.RowKit

set_option linter.unusedVariables false
set_option linter.unusedSimpArgs false
/-- a row of paths of the call's own at a value, with labels of the call's own that lie elsewhere -/
structure PRow (w : World) (base : Nat) (v : Value) (n : Nat) (ps : List PV) : Prop where
  row : w.ownsRow base 57 6 v n (ps.flatMap PV.vals)
  len : ps.length = n
  labs : ∀ p ∈ ps, Ints w w.heap.size .i64 p.A p.ln p.lc p.ls ∧ (0 < p.ln → ∀ ad, p.A = some ad → base ≤ ad.block ∧ v.ownBlock ≠ some ad.block)
theorem PRow.below {w w' : World} {base n : Nat} {v : Value} {ps : List PV} (h : PRow w base v n ps) (hb : Below w.heap.size w w') : PRow w' base v n ps :=
  ⟨row_below h.row hb, h.len, fun p hp => ⟨((h.labs p hp).1.below hb).more hb.size, (h.labs p hp).2⟩⟩
theorem PRow.nil (w : World) (base : Nat) : PRow w base (.slice none 0 0) 0 [] := ⟨World.ownsRow_nil _ _ _ _, rfl, fun p hp => by cases hp⟩
theorem ints_far {w w' : World} {k : IntKind} {A : Option Addr} {n c B : Nat} {xs : List Int} (h : Ints w w.heap.size k A n c xs) (hs : B ≤ w'.heap.size) (hB : w.heap.size ≤ B)
    (hf : 0 < n → ∀ ad, A = some ad → w'.heap[ad.block]? = w.heap[ad.block]?) : Ints w' w'.heap.size k A n c xs := by
  refine ⟨h.1, h.2.1, h.2.2.1, fun hn => ?_⟩
  obtain ⟨b, o, e, hbb, hc⟩ := h.2.2.2 hn
  have hne := hf (by omega) _ e
  refine ⟨b, o, e, by omega, fun j hj => ?_⟩
  rw [← hc j hj]
  dsimp only at hne
  simp only [World.cell?, hne]
theorem path_push {w : World} {base n N : Nat} {v : Value} {ps : List PV} (h : PRow w base v n ps) (p : PV) (hp : Ints w w.heap.size .i64 p.A p.ln p.lc p.ls) (ha : 0 < p.ln → ∀ ad, p.A = some ad → base ≤ ad.block ∧ v.ownBlock ≠ some ad.block)
    (hN : N = w.heap.size) (hbase : base ≤ w.heap.size) (hn : n ≤ 1000000) :
    ∃ A' c' w', (Builtin.append_ #[45, 45] 45 #[v, .slice (some ⟨N, 0, none⟩) 1 1]).run Tryz.prog (w.alloc (.cells #[.int .i64 p.iface, .int .u32 p.addr, .int .u32 p.router, .int .i64 p.weight, .slice p.A p.ln p.lc, .int .i64 p.backup] 57)) = .ok (.slice A' (n + 1) c') w' ∧
      PRow w' base (.slice A' (n + 1) c') (n + 1) (ps ++ [p]) ∧ Below base w w' ∧ ∀ k, k < w.heap.size → v.ownBlock ≠ some k → w'.heap[k]? = w.heap[k]? := by
  subst hN
  have hbel := belowA w (.cells #[.int .i64 p.iface, .int .u32 p.addr, .int .u32 p.router, .int .i64 p.weight, .slice p.A p.ln p.lc, .int .i64 p.backup] 57)
  obtain ⟨W, hW⟩ : ∃ W, w.alloc (.cells #[.int .i64 p.iface, .int .u32 p.addr, .int .u32 p.router, .int .i64 p.weight, .slice p.A p.ln p.lc, .int .i64 p.backup] 57) = W := ⟨_, rfl⟩
  have hWs : W.heap.size = w.heap.size + 1 := by rw [← hW]; simp
  have hlit : Cells W W.heap.size 6 (some ⟨w.heap.size, 0, none⟩) 1 1 p.vals := by
    rw [← hW]
    exact Cells.of_own (World.ownsRow_lit (base := w.heap.size) (size := 6) w #[.int .i64 p.iface, .int .u32 p.addr, .int .u32 p.router, .int .i64 p.weight, .slice p.A p.ln p.lc, .int .i64 p.backup] 1 (Nat.le_refl _) (by simp [maxLen]) rfl)
  rw [hW] at hbel ⊢
  obtain ⟨v', w', k1, k2, k3, k4⟩ := Cells.append (P := Tryz.prog) (t := 45) (ty := 45) Tryz.underlying45 path_info rfl (by omega) (row_below h.row hbel) hlit (by
    intro u hu
    unfold PV.vals at hu
    simp only [List.mem_cons, List.not_mem_nil, or_false] at hu
    rcases hu with rfl | rfl | rfl | rfl | rfl | rfl <;> rfl) (by simp only [maxLen]; omega) (by omega) (by omega)
  obtain ⟨A', c', rfl⟩ := own_form k2
  have hfar : ∀ k, k < w.heap.size → v.ownBlock ≠ some k → w'.heap[k]? = w.heap[k]? := fun k hk hne => (k3.block k (by omega) (fun e => hne e.symm)).trans (hbel.block k hk)
  have hsz : w.heap.size + 1 ≤ w'.heap.size := by have := k3.size; omega
  have key : ∀ q : PV, Ints w w.heap.size .i64 q.A q.ln q.lc q.ls → (0 < q.ln → ∀ ad, q.A = some ad → base ≤ ad.block ∧ v.ownBlock ≠ some ad.block) →
      Ints w' w'.heap.size .i64 q.A q.ln q.lc q.ls ∧ (0 < q.ln → ∀ ad, q.A = some ad → base ≤ ad.block ∧ (Value.slice A' (n + 1) c').ownBlock ≠ some ad.block) := by
    intro q h1 h2
    have hlt : 0 < q.ln → ∀ ad, q.A = some ad → ad.block < w.heap.size := by
      intro hq ad e
      obtain ⟨b, o, e2, hb, _⟩ := h1.2.2.2 (by omega)
      rw [e] at e2
      injection e2 with e2
      subst e2
      exact hb
    refine ⟨ints_far (B := w.heap.size) h1 (by omega) (Nat.le_refl _) fun hq ad e => hfar _ (hlt hq ad e) (h2 hq ad e).2, fun hq ad e => ⟨(h2 hq ad e).1, ?_⟩⟩
    rcases k4 with k4 | k4
    · rw [k4]; exact (h2 hq ad e).2
    · rw [k4]
      intro hc
      have h3 := hlt hq ad e
      have h4 : W.heap.size = ad.block := Option.some.inj hc
      omega
  refine ⟨A', c', w', k1, ⟨by rw [List.flatMap_append]; simpa using k2, by rw [List.length_append, h.len]; rfl, fun q hq => ?_⟩, (hbel.mono hbase).grown k3 (by omega) (fun k hk => (World.ownsRow.lt h.row k hk).1), hfar⟩
  rcases List.mem_append.1 hq with hq | hq
  · exact key q (h.labs q hq).1 (h.labs q hq).2
  · obtain rfl : q = p := by simpa using hq
    exact key q hp ha
end Go.Proofs.YtplppbgkkfjknaaGreatDoor
namespace Go.Proofs.YtplppbgkkfjknaaGreatDoor
open Go.RowKit

set_option linter.unusedVariables false
set_option linter.unusedSimpArgs false
def Bls (w : World) (B : Nat) (A : Option Addr) (n c : Nat) (ds : List Bool) : Prop := Recs w B 1 A n c (fun b : Bool => [Value.bool b]) ds
theorem Bls.get {w : World} {B n c : Nat} {A : Option Addr} {ds : List Bool} (h : Bls w B A n c ds) {j : Nat} (hj : j < n) :
    ∃ b o x, A = some ⟨b, o, none⟩ ∧ b < B ∧ ds[j]? = some x ∧ w.cell? ⟨b, o + j, none⟩ = some (.bool x) := by
  obtain ⟨b, o, e, hA, hb, he, hc⟩ := Recs.get (f := fun b : Bool => [Value.bool b]) (size := 1) (fun _ => rfl) h hj
  have h0 := hc 0 (by omega)
  rw [Nat.mul_one, Nat.add_zero] at h0
  exact ⟨b, o, e, hA, hb, he, h0⟩
def downB (ds : List Bool) (i : Int) : Bool := if 0 ≤ i then ds.getD i.toNat false else false
set_option maxHeartbeats 1000000 in
theorem isDown_any (A : Option Addr) (n c B : Nat) (ds : List Bool) (i : Int) (w : World) (hx : Bls w B A n c ds) (hB : B ≤ w.heap.size) : Calls Tryz.prog 73 #[.slice A n c, .int .i64 i] w fun e w' => e = .returned (.bool (downB ds i)) ∧ w = w' := by
  have hl : ds.length = n := hx.2
  by_cases h0 : i < 0
  · have HF : Hid (downB ds i = false) := by show _ = _; unfold downB; rw [if_neg (by omega)]
    have d0 : decide (i ≥ 0) = false := decide_eq_false (by omega)
    have d0' : decide (0 ≤ i) = false := decide_eq_false (by omega)
    clear hx hl h0
    go_enter Tryz.func73, Tryz.ntmps73
    go_wp2
    go_ret
    exact ⟨by rw [HF.out]; rfl, rfl⟩
  obtain ⟨k, rfl⟩ : ∃ k : Nat, i = k := ⟨i.toNat, by omega⟩
  by_cases hk : k < n
  · obtain ⟨b, o, x, rfl, hb, hxk, c0⟩ := hx.get hk
    have hbw : b < w.heap.size := by omega
    have HF : Hid (downB ds k = x) := by
      show _ = _
      unfold downB
      rw [if_pos (by omega), Int.toNat_natCast, List.getD_eq_getElem?_getD, hxk]
      rfl
    clear hx hl h0 hxk
    go_enter Tryz.func73, Tryz.ntmps73
    go_wp2
    all_goals
      go_ret
      exact ⟨by rw [HF.out]; first | rfl | simp, rfl⟩
  · have HF : Hid (downB ds k = false) := by
      show _ = _
      unfold downB
      rw [if_pos (by omega), Int.toNat_natCast, List.getD_eq_getElem?_getD, List.getElem?_eq_none (by omega)]
      rfl
    clear hx hl h0
    go_enter Tryz.func73, Tryz.ntmps73
    go_wp2
    go_ret
    exact ⟨by rw [HF.out]; rfl, rfl⟩
def isAt (v y : Int) : Bool := decide (v = y)
set_option maxHeartbeats 2000000 in
theorem idxAddr_any (A : Option Addr) (n c B : Nat) (p : List Int) (v : Int) (w : World) (hx : Ints w B .u32 A n c p) (hB : B ≤ w.heap.size) (hn : n ≤ 140737488355328) :
    Calls Tryz.prog 105 #[.slice A n c, .int .u32 v] w fun e w' => e = .returned (.int .i64 (idxQ (isAt v) p)) ∧ w = w' := by
  have HX := Lib.hid hx
  have HL : Hid (p.length = n) := hx.len
  clear hx
  go_enter Tryz.func105, Tryz.ntmps105
  go_wp2
  go_loopw [8] (fun i wr => wr = w ∧ ∃ k : Nat, k ≤ n ∧ i = .int .i64 k ∧ Hid (∀ (j : Nat) (t : Int), j < k → p[j]? = some t → isAt v t = false)) (fun i _ => n - (intOf i).toNat)
  case atStart => exact ⟨rfl, 0, Nat.zero_le _, rfl, fun j t hj => absurd hj (by omega)⟩
  case round =>
    obtain ⟨rfl, k, hk, rfl, hno⟩ := hrel
    by_cases hlt : k < n
    case neg =>
      obtain rfl : k = n := by omega
      have HR : Hid (idxQ (isAt v) p = -1) := idxQ_none fun j t hj ht => hno.out j t (by rw [← HL.out]; exact hj) ht
      go_wp2
      go_ret
      exact ⟨by rw [HR.out]; rfl, rfl⟩
    obtain ⟨b, o, g, rfl, hbB, c0, hg⟩ := HX.out.cell hlt
    have hbw : b < wr.heap.size := by omega
    have HG : Hid (p[k]? = some g) := by
      show _ = _
      have h := hg.out
      rw [List.getD_eq_getElem?_getD, List.getElem?_eq_getElem (by rw [HL.out]; exact hlt)] at h
      rw [List.getElem?_eq_getElem (by rw [HL.out]; exact hlt)]
      exact congrArg some h
    by_cases hy : v = g
    · subst hy
      have HR : Hid (idxQ (isAt v) p = (k : Int)) := idxQ_at HG.out (by simp [isAt]) hno.out
      go_wp2
      go_ret
      exact ⟨by rw [HR.out]; rfl, rfl⟩
    · have HN : Hid (∀ (j : Nat) (t : Int), j < k + 1 → p[j]? = some t → isAt v t = false) := by
        intro j t hj ht
        rcases Nat.lt_or_ge j k with h | h
        · exact hno.out j t h ht
        · obtain rfl : j = k := by omega
          rw [HG.out] at ht
          obtain rfl := Option.some.inj ht
          exact decide_eq_false hy
      have d1 : (v == g) = false := by simp [hy]
      clear hy
      go_wp2
      go_roundw
      case rel => exact ⟨trivial, k + 1, by omega, by go_num, HN⟩
      case measure => simp [intOf]; omega
set_option maxHeartbeats 1000000 in
theorem hasAddr_any (A : Option Addr) (n c B : Nat) (p : List Int) (v : Int) (w : World) (hx : Ints w B .u32 A n c p) (hB : B ≤ w.heap.size) (hn : n ≤ 140737488355328) :
    Calls Tryz.prog 74 #[.slice A n c, .int .u32 v] w fun e w' => e = .returned (.bool (p.any (isAt v))) ∧ w = w' := by
  have HC := Lib.hid (idxAddr_any A n c B p v w hx hB hn)
  have HQ := Lib.hid (idxQ_any (P := isAt v) p)
  obtain ⟨i, hi⟩ : ∃ i, idxQ (isAt v) p = i := ⟨_, rfl⟩
  rw [hi] at HC HQ
  clear hx hi
  go_enter Tryz.func74, Tryz.ntmps74
  go_wp2_with fail
  refine HC.out.mono ?_
  rintro e w2 ⟨rfl, rfl⟩
  go_wp2
  go_ret
  exact ⟨by rw [← HQ.out]; rfl, rfl⟩
end Go.Proofs.YtplppbgkkfjknaaGreatDoor
namespace Go.Proofs.YtplppbgkkfjknaaGreatDoor
open Go.RowKit

set_option linter.unusedVariables false
set_option linter.unusedSimpArgs false
def upTo (r : Int) (ds : List Bool) (h : NH) : Bool := decide (h.router = r) && !downB ds h.iface
/-- the neighbor of a router by an interface that is up -/
def nearR (r : Int) (ds : List Bool) (ns : List NH) : Option NH := ns.find? (upTo r ds)
def GivesNear (o : Option NH) : Ending := match o with
  | some h => .returned (.tuple #[.agg #[.int .i64 h.iface, .int .u32 h.addr, .int .u32 h.router, .int .i64 1, .slice none 0 0, .int .i64 (-1)], .bool true])
  | none => .returned (.tuple #[.agg #[.int .i64 0, .int .u32 0, .int .u32 0, .int .i64 0, .slice none 0 0, .int .i64 0], .bool false])
theorem find_skip {α : Type} {P : α → Bool} : ∀ {l : List α} {k : Nat}, (∀ j, j < k → ∀ x, l[j]? = some x → P x = false) → l.find? P = (l.drop k).find? P
  | l, 0, _ => by simp
  | [], k + 1, _ => by simp
  | x :: t, k + 1, h => by
    rw [List.find?_cons, h 0 (by omega) x rfl, List.drop_succ_cons]
    exact find_skip fun j hj y hy => h (j + 1) (by omega) y (by simpa using hy)
theorem find_at {α : Type} {P : α → Bool} {l : List α} {k : Nat} {x : α} (hx : l[k]? = some x) (hp : P x = true) (h : ∀ j, j < k → ∀ x, l[j]? = some x → P x = false) : l.find? P = some x := by
  obtain ⟨hk, he⟩ := List.getElem?_eq_some_iff.1 hx
  rw [find_skip h, List.drop_eq_getElem_cons hk, List.find?_cons, he, hp]
set_option maxRecDepth 100000 in
set_option maxHeartbeats 4000000 in
theorem neighbor_any (tA gA lA bA nA : Option Addr) (tn tc gn gc ln lc bn bc nn nc : Nat) (dA : Option Addr) (dn dc B : Nat) (ns : List NH) (ds : List Bool) (r : Int) (w : World) (hx : Nears w B nA nn nc ns) (hd : Bls w B dA dn dc ds) (hB : B ≤ w.heap.size) (hnn : nn ≤ 140737488355328) :
    Calls Tryz.prog 38 #[.agg #[.slice tA tn tc, .slice gA gn gc, .slice lA ln lc, .slice bA bn bc, .slice nA nn nc], .int .u32 r, .slice dA dn dc] w fun e w' => e = GivesNear (nearR r ds ns) ∧ Below w.heap.size w w' := by
  obtain ⟨w1, hw1⟩ : ∃ w1, (w.alloc (.cells #[.slice tA tn tc, .slice gA gn gc, .slice lA ln lc, .slice bA bn bc, .slice nA nn nc] 35)).alloc (.cells #[.int .i64 0, .int .u32 0, .int .u32 0, .int .i64 0, .slice none 0 0, .int .i64 0] 57) = w1 := ⟨_, rfl⟩
  have HF1 : Hid (Blk w1 w.heap.size 35 [.slice tA tn tc, .slice gA gn gc, .slice lA ln lc, .slice bA bn bc, .slice nA nn nc]) := by show Blk _ _ _ _; rw [← hw1]; exact (Blk.new w _ _).keep (belowA _ _)
  have HP1 : Hid (Blk w1 (w.heap.size + 1) 57 [.int .i64 0, .int .u32 0, .int .u32 0, .int .i64 0, .slice none 0 0, .int .i64 0]) := by show Blk _ _ _ _; rw [← hw1]; exact Blk.new2 w _ _ _
  have HB1 : Hid (Below w.heap.size w w1) := by show Below _ _ _; rw [← hw1]; exact below3 (belowA _ _) (belowA _ _)
  have hlt1 := HP1.out.lt
  have hlt0 : w.heap.size < w1.heap.size := by omega
  have f4 := HF1.out.cell 4
  simp only [List.getElem?_cons_zero, List.getElem?_cons_succ] at f4
  have HXW : Hid (∀ W, Below w.heap.size w W → Nears W B nA nn nc ns) := fun W h => Recs.below hx (h.mono hB)
  have HDW : Hid (∀ W, Below w.heap.size w W → Bls W B dA dn dc ds) := fun W h => Recs.below hd (h.mono hB)
  have HL : Hid (ns.length = nn) := hx.2
  obtain ⟨R, hR⟩ : ∃ R, nearR r ds ns = R := ⟨_, rfl⟩
  have HR : Hid (ns.find? (upTo r ds) = R) := hR
  rw [hR]
  have HI0 : Hid (∃ k : Nat, k ≤ nn ∧ (Value.int .i64 (0 : Nat)) = .int .i64 k ∧ Hid (∀ j, j < k → ∀ x, ns[j]? = some x → upTo r ds x = false) ∧ Hid (Blk w1 (w.heap.size + 1) 57 [.int .i64 0, .int .u32 0, .int .u32 0, .int .i64 0, .slice none 0 0, .int .i64 0]) ∧ Hid (Below w.heap.size w w1)) := ⟨0, Nat.zero_le _, rfl, Lib.hid (fun j h => absurd h (by omega)), HP1, HB1⟩
  clear hx hd hR
  go_enter Tryz.func38, Tryz.ntmps38
  go_wp2
  go_loopw [13] (fun iv wr => ∃ k : Nat, k ≤ nn ∧ iv = .int .i64 k ∧ Hid (∀ j, j < k → ∀ x, ns[j]? = some x → upTo r ds x = false) ∧ Hid (Blk wr (w.heap.size + 1) 57 [.int .i64 0, .int .u32 0, .int .u32 0, .int .i64 0, .slice none 0 0, .int .i64 0]) ∧ Hid (Below w.heap.size w wr)) (fun iv _ => nn - (intOf iv).toNat)
  case atStart => exact HI0.out
  case round =>
    obtain ⟨k, hk, rfl, hno, hP, hB2⟩ := hrel
    clear HI0 f4 hw1 HF1 HP1 HB1 hlt1 hlt0
    have hPl := hP.out.lt
    by_cases hlt : k < nn
    case neg =>
      have HF : Hid (R = none) := by
        show _ = _
        rw [← HR.out, find_skip (k := k) hno.out, List.drop_eq_nil_of_le (by rw [HL.out]; omega)]
        rfl
      obtain ⟨w3, hw3⟩ : ∃ w3, wr.setRow (w.heap.size + 1) #[.int .i64 0, .int .u32 0, .int .u32 0, .int .i64 0, .slice none 0 0, .int .i64 0] = w3 := ⟨_, rfl⟩
      have HB3 : Hid (Blk w3 (w.heap.size + 1) 57 [.int .i64 0, .int .u32 0, .int .u32 0, .int .i64 0, .slice none 0 0, .int .i64 0]) := by show Blk _ _ _ _; rw [← hw3]; exact hP.out.row _
      have HL3 : Hid (Below w.heap.size w w3) := by show Below _ _ _; rw [← hw3]; exact hB2.out.trans ((Save.row (w.heap.size + 1) wr _).below (by omega) hB2.out.size)
      go_wp2_with (refine wpList_store_blk rfl 57 _ _ rfl (w.heap.size + 1) rfl rfl hP.out (by kernel_rfl) rfl (by kernel_rfl) ?_)
      try rw [hw3]
      refine bodyPost_ret (results_cell_row2 rfl _ (w.heap.size + 1) _ rfl HB3.out Tryz.underlying57 rfl (by kernel_rfl)) rfl ⟨by rw [HF.out]; rfl, HL3.out⟩
    obtain ⟨b, o, x, rfl, hbB, hxk, c0, c1, c2⟩ := (HXW.out _ hB2.out).get hlt
    have hbw : b < wr.heap.size := by have := hB2.out.size; omega
    have HK := Lib.hid hxk
    obtain ⟨xi, xa, xr⟩ := x
    dsimp only at c0 c1 c2
    obtain ⟨wa, hwa⟩ : ∃ wa, wr.alloc (.cells #[.int .i64 xi, .int .u32 xa, .int .u32 xr] 81) = wa := ⟨_, rfl⟩
    have HXB : Hid (Blk wa wr.heap.size 81 [.int .i64 xi, .int .u32 xa, .int .u32 xr]) := by show Blk _ _ _ _; rw [← hwa]; exact Blk.new wr _ _
    have hba : Below wr.heap.size wr wa := by rw [← hwa]; exact belowA _ _
    have HB3 := Lib.hid (below3 hB2.out hba)
    have HP3 := Lib.hid (hP.out.keep hba)
    have e0 := HXB.out.cell 0
    have e1 := HXB.out.cell 1
    have e2 := HXB.out.cell 2
    simp only [List.getElem?_cons_zero, List.getElem?_cons_succ] at e0 e1 e2
    have hlta := HXB.out.lt
    have HDn := Lib.hid (isDown_any dA dn dc B ds xi wa (HDW.out _ HB3.out) (by have := HB3.out.size; omega))
    obtain ⟨q, hq⟩ : ∃ q, downB ds xi = q := ⟨_, rfl⟩
    rw [hq] at HDn
    have HU : Hid (upTo r ds ⟨xi, xa, xr⟩ = (decide (xr = r) && !q)) := by show _ = _; unfold upTo; rw [← hq]
    have HN : Hid (upTo r ds ⟨xi, xa, xr⟩ = false → ∀ j, j < k + 1 → ∀ x, ns[j]? = some x → upTo r ds x = false) := by
      intro hf j hj y hy
      rcases Nat.lt_or_ge j k with h | h
      · exact hno.out j h y hy
      · obtain rfl : j = k := by omega
        rw [HK.out] at hy
        obtain rfl := Option.some.inj hy
        exact hf
    clear hxk hq hba
    by_cases hr : xr = r
    case neg =>
      have d1 : (xr == r) = false := by simp [hr]
      have HN2 := Lib.hid (HN.out (by rw [HU.out, decide_eq_false hr]; rfl))
      clear hr HDn
      go_wp2
      go_roundw
      case rel => exact ⟨k + 1, by omega, by go_num, HN2, HP3, HB3⟩
      case measure => simp [intOf]; omega
    subst hr
    cases q
    case true =>
      have HN2 := Lib.hid (HN.out (by rw [HU.out]; simp))
      go_wp2_with fail
      refine HDn.out.mono ?_
      rintro e w4 ⟨rfl, rfl⟩
      go_wp2
      go_roundw
      case rel => exact ⟨k + 1, by omega, by go_num, HN2, HP3, HB3⟩
      case measure => simp [intOf]; omega
    case false =>
      have HF : Hid (R = some ⟨xi, xa, xr⟩) := by
        show _ = _
        rw [← HR.out]
        exact find_at HK.out (by rw [HU.out]; simp) hno.out
      go_wp2_with fail
      refine HDn.out.mono ?_
      rintro e w4 ⟨rfl, rfl⟩
      obtain ⟨w3, hw3⟩ : ∃ w3, wa.setRow (w.heap.size + 1) #[.int .i64 xi, .int .u32 xa, .int .u32 xr, .int .i64 1, .slice none 0 0, .int .i64 (-1)] = w3 := ⟨_, rfl⟩
      have HB4 : Hid (Blk w3 (w.heap.size + 1) 57 [.int .i64 xi, .int .u32 xa, .int .u32 xr, .int .i64 1, .slice none 0 0, .int .i64 (-1)]) := by show Blk _ _ _ _; rw [← hw3]; exact HP3.out.row _
      have HL3 : Hid (Below w.heap.size w w3) := by show Below _ _ _; rw [← hw3]; exact HB3.out.trans ((Save.row (w.heap.size + 1) wa _).below (by omega) HB3.out.size)
      go_wp2_with (refine wpList_store_blk rfl 57 _ _ rfl (w.heap.size + 1) rfl rfl HP3.out (by kernel_rfl) rfl (by kernel_rfl) ?_)
      try rw [hw3]
      refine bodyPost_ret (results_cell_row2 rfl _ (w.heap.size + 1) _ rfl HB4.out Tryz.underlying57 rfl (by kernel_rfl)) rfl ⟨by rw [HF.out]; rfl, HL3.out⟩
end Go.Proofs.YtplppbgkkfjknaaGreatDoor
