/- What a forwarding table is built from: as an argument; the law's small and build. The law's small and build. -/
import Derived.Test.YtplppbgkkfjknaaGreatDoorG25
namespace Go.Proofs.YtplppbgkkfjknaaGreatDoor
open Go.ChangeShapes Go.WideShapes Go.ChangeAt Go.RowKit

set_option linter.unusedVariables false
set_option linter.unusedSimpArgs false
section
variable {H : Type} {enc : TypeId × Value → H} {W : World} {cs : List Value}
theorem open_xh (h : Arg enc Tryz.prog W 73 cs) : ∃ x : XH, cs = x.vals ∧ WHop x := by
  have hl := (h.struct Tryz.underlying73).1
  have h6 : cs.length = 6 := hl.trans (by kernel_rfl)
  have hf := h.fields Tryz.underlying73 [(42, 0, 1), (3, 1, 1), (41, 2, 1), (3, 3, 1), (65, 4, 2)] (by kernel_rfl)
  match cs, h6 with
  | [c0, c1, c2, c3, c4, c5], _ =>
    have g0 := hf 0 _ _ _ rfl
    have g1 := hf 1 _ _ _ rfl
    have g2 := hf 2 _ _ _ rfl
    have g3 := hf 3 _ _ _ rfl
    have g4 := hf 4 _ _ _ rfl
    simp only [List.drop_succ_cons, List.drop_zero, List.take_succ_cons, List.take_zero] at g0 g1 g2 g3 g4
    obtain ⟨a0, e0, w0⟩ := Arg.int Tryz.underlying42 g0
    obtain ⟨a1, e1, w1⟩ := Arg.int Tryz.underlying3 g1
    obtain ⟨a2, e2, w2⟩ := Arg.int Tryz.underlying41 g2
    obtain ⟨a3, e3, w3⟩ := Arg.int Tryz.underlying3 g3
    obtain ⟨a, l, e4, ha⟩ := open_pre g4
    simp only [List.cons.injEq, and_true] at e0 e1 e2 e3 e4
    obtain ⟨e4, e5⟩ := e4
    subst e0 e1 e2 e3 e4 e5
    exact ⟨⟨a0, a1, a2, a3, a, l⟩, rfl, wf_i64 w1, wf_u32 w0, wf_u32 w2, wf_i64 w3⟩
theorem open_route (h : Arg enc Tryz.prog W 68 cs) : ∃ r : RT, cs = r.vals ∧ (r.a < 4294967296 ∧ r.n ≤ 140737488355328 ∧ XHops W W.heap.size r.A r.n r.c r.hs) ∧ ∀ x ∈ r.hs, WHop x := by
  have hl := (h.struct Tryz.underlying68).1
  have h7 : cs.length = 7 := hl.trans (by kernel_rfl)
  have hf := h.fields Tryz.underlying68 [(65, 0, 2), (3, 2, 1), (3, 3, 1), (3, 4, 1), (3, 5, 1), (66, 6, 1)] (by kernel_rfl)
  have kp : Tryz.prog.cellsOf 73 = 6 := by kernel_rfl
  have kb : Tryz.prog.bytesOf 73 = 48 := by kernel_rfl
  match cs, h7 with
  | [c0, c1, c2, c3, c4, c5, c6], _ =>
    have g0 := hf 0 _ _ _ rfl
    have g1 := hf 1 _ _ _ rfl
    have g2 := hf 2 _ _ _ rfl
    have g3 := hf 3 _ _ _ rfl
    have g4 := hf 4 _ _ _ rfl
    have g5 := hf 5 _ _ _ rfl
    simp only [List.drop_succ_cons, List.drop_zero, List.take_succ_cons, List.take_zero] at g0 g1 g2 g3 g4 g5
    obtain ⟨a, l, e0, ha⟩ := open_pre g0
    obtain ⟨a1, e1, _⟩ := Arg.int Tryz.underlying3 g1
    obtain ⟨a2, e2, _⟩ := Arg.int Tryz.underlying3 g2
    obtain ⟨a3, e3, _⟩ := Arg.int Tryz.underlying3 g3
    obtain ⟨a4, e4, _⟩ := Arg.int Tryz.underlying3 g4
    obtain ⟨A, n, c, hs, e5, hr, hb, hq⟩ := Arg.recs (f := XH.vals) Tryz.underlying66 kp (by omega) XH.vals_len (fun vs hvs => open_xh hvs) g5
    simp only [List.cons.injEq, and_true] at e0 e1 e2 e3 e4 e5
    obtain ⟨e0, e6⟩ := e0
    subst e0 e1 e2 e3 e4 e5 e6
    rw [kb] at hb
    exact ⟨⟨a, l, a1, a2, a3, a4, A, n, c, hs⟩, rfl, ⟨ha, by have := hr.1.1; show n ≤ _; omega, hr⟩, hq⟩
theorem open_backup (h : Arg enc Tryz.prog W 75 cs) : ∃ k : BK, cs = k.vals ∧ W64 k.p.iface ∧ W32 k.p.addr ∧ W32 k.p.router := by
  have hl := (h.struct Tryz.underlying75).1
  have h9 : cs.length = 9 := hl.trans (by kernel_rfl)
  have hf := h.fields Tryz.underlying75 [(65, 0, 2), (41, 2, 1), (57, 3, 6)] (by kernel_rfl)
  match cs, h9 with
  | [c0, c1, c2, c3, c4, c5, c6, c7, c8], _ =>
    have g0 := hf 0 _ _ _ rfl
    have g1 := hf 1 _ _ _ rfl
    have g2 := hf 2 _ _ _ rfl
    simp only [List.drop_succ_cons, List.drop_zero, List.take_succ_cons, List.take_zero] at g0 g1 g2
    obtain ⟨a, l, e0, ha⟩ := open_pre g0
    obtain ⟨a1, e1, _⟩ := Arg.int Tryz.underlying41 g1
    obtain ⟨p, e2, _, q0, q1, q2, _⟩ := open_path g2
    simp only [PV.vals, List.cons.injEq, and_true] at e0 e1 e2
    obtain ⟨e0, e3⟩ := e0
    obtain ⟨e4, e5, e6, e7, e8, e9⟩ := e2
    subst e0 e1 e3 e4 e5 e6 e7 e8 e9
    exact ⟨⟨a, l, a1, p⟩, rfl, q0, q1, q2⟩
theorem open_lout (h : Arg enc Tryz.prog W 71 cs) : ∃ o : LO, cs = o.vals ∧ (o.n ≤ 140737488355328 ∧ Hops W W.heap.size o.A o.n o.c o.hs) ∧ ∀ x ∈ o.hs, W64 x.label := by
  have hl := (h.struct Tryz.underlying71).1
  have h3 : cs.length = 3 := hl.trans (by kernel_rfl)
  have hf := h.fields Tryz.underlying71 [(65, 0, 2), (69, 2, 1)] (by kernel_rfl)
  match cs, h3 with
  | [c0, c1, c2], _ =>
    have g0 := hf 0 _ _ _ rfl
    have g1 := hf 1 _ _ _ rfl
    simp only [List.drop_succ_cons, List.drop_zero, List.take_succ_cons, List.take_zero] at g0 g1
    obtain ⟨a, l, e0, ha⟩ := open_pre g0
    obtain ⟨A, n, c, hs, e1, hh, hn, hw⟩ := open_lhops g1
    simp only [List.cons.injEq, and_true] at e0 e1
    obtain ⟨e0, e2⟩ := e0
    subst e0 e1 e2
    exact ⟨⟨a, l, A, n, c, hs⟩, rfl, ⟨hn, hh⟩, hw⟩
theorem open_routes (h : Arg enc Tryz.prog W 22 cs) : ∃ A n c rs, cs = [.slice A n c] ∧ Rts W W.heap.size A n c rs ∧ n ≤ 140737488355328 ∧ ∀ r ∈ rs, ∀ x ∈ r.hs, WHop x := by
  have kp : Tryz.prog.cellsOf 68 = 7 := by kernel_rfl
  have kb : Tryz.prog.bytesOf 68 = 72 := by kernel_rfl
  obtain ⟨A, n, c, rs, e, hr, hb, hq⟩ := Arg.recs (f := RT.vals) Tryz.underlying22 kp (by omega) RT.vals_len (fun vs hvs => open_route hvs) h
  rw [kb] at hb
  exact ⟨A, n, c, rs, e, ⟨hr, fun r hx => (hq r hx).1⟩, by have := hr.1.1; omega, fun r hx => (hq r hx).2⟩
theorem open_backups (h : Arg enc Tryz.prog W 24 cs) : ∃ A n c ks, cs = [.slice A n c] ∧ Recs W W.heap.size 9 A n c BK.vals ks ∧ n ≤ 140737488355328 ∧ ∀ k ∈ ks, W64 k.p.iface ∧ W32 k.p.addr ∧ W32 k.p.router := by
  have kp : Tryz.prog.cellsOf 75 = 9 := by kernel_rfl
  have kb : Tryz.prog.bytesOf 75 = 80 := by kernel_rfl
  obtain ⟨A, n, c, ks, e, hr, hb, hq⟩ := Arg.recs (f := BK.vals) Tryz.underlying24 kp (by omega) BK.vals_len (fun vs hvs => open_backup hvs) h
  rw [kb] at hb
  exact ⟨A, n, c, ks, e, hr, by have := hr.1.1; omega, hq⟩
theorem open_louts (h : Arg enc Tryz.prog W 26 cs) : ∃ A n c os, cs = [.slice A n c] ∧ Outs W W.heap.size A n c os ∧ n ≤ 140737488355328 ∧ ∀ o ∈ os, ∀ x ∈ o.hs, W64 x.label := by
  have kp : Tryz.prog.cellsOf 71 = 3 := by kernel_rfl
  have kb : Tryz.prog.bytesOf 71 = 40 := by kernel_rfl
  obtain ⟨A, n, c, os, e, hr, hb, hq⟩ := Arg.recs (f := LO.vals) Tryz.underlying26 kp (by omega) LO.vals_len (fun vs hvs => open_lout hvs) h
  rw [kb] at hb
  exact ⟨A, n, c, os, e, ⟨hr, fun r hx => (hq r hx).1⟩, by have := hr.1.1; omega, fun r hx => (hq r hx).2⟩
end
set_option maxRecDepth 100000 in
/-- a plan in memory -/
structure PlanAt (w : World) (B : Nat) (rA lA kA bA oA nA : Option Addr) (rn rc ln lc kn kc bn bc on oc nn nc : Nat) (rs : List RT) (ls : List Int) (ks : List BK) (bs : List EV) (os : List LO) (ns : List NH) : Prop where
  r : Rts w B rA rn rc rs
  l : Ints w B .u32 lA ln lc ls
  k : Recs w B 9 kA kn kc BK.vals ks
  b : Tab w B bA bn bc bs
  o : Outs w B oA on oc os
  n : Nears w B nA nn nc ns
  rn : rn ≤ 140737488355328
  ln : ln ≤ 140737488355328
  kn : kn ≤ 140737488355328
  bn : bn ≤ 140737488355328
  on : on ≤ 140737488355328
  nn : nn ≤ 140737488355328
  bp : ∀ e ∈ bs, e.n ≤ 140737488355328
  wide : WIn rs ks os
set_option maxRecDepth 100000 in
theorem PlanAt.below {w w' : World} {B : Nat} {rA lA kA bA oA nA : Option Addr} {rn rc ln lc kn kc bn bc on oc nn nc : Nat} {rs : List RT} {ls : List Int} {ks : List BK} {bs : List EV} {os : List LO} {ns : List NH}
    (h : PlanAt w B rA lA kA bA oA nA rn rc ln lc kn kc bn bc on oc nn nc rs ls ks bs os ns) (hb : Below B w w') : PlanAt w' B rA lA kA bA oA nA rn rc ln lc kn kc bn bc on oc nn nc rs ls ks bs os ns :=
  ⟨h.r.below hb, h.l.below hb, Recs.below h.k hb, h.b.below hb, h.o.below hb, Recs.below h.n hb, h.rn, h.ln, h.kn, h.bn, h.on, h.nn, h.bp, h.wide⟩
set_option maxRecDepth 100000 in
def PlanIn (W : World) (v : Value) : Prop := ∃ (rA lA kA bA oA nA : Option Addr) (rn rc ln lc kn kc bn bc on oc nn nc : Nat) (rs : List RT) (ls : List Int) (ks : List BK) (bs : List EV) (os : List LO) (ns : List NH),
  v = .agg #[.slice rA rn rc, .slice lA ln lc, .slice kA kn kc, .slice bA bn bc, .slice oA on oc, .slice nA nn nc] ∧ PlanAt W W.heap.size rA lA kA bA oA nA rn rc ln lc kn kc bn bc on oc nn nc rs ls ks bs os ns
set_option maxRecDepth 100000 in
theorem open_plan {H : Type} {enc : TypeId × Value → H} {W : World} {r : Reach} {b0 : Nat} {v : Value} (hv : Value.okWide Tryz.prog W r b0 29 v) (h : Arg enc Tryz.prog W 29 v.cells.toList) : PlanIn W v := by
  obtain ⟨cs, rfl, hsz⟩ := okWide_struct Tryz.underlying29 hv
  have h6 : cs.size = 6 := hsz.trans (by kernel_rfl)
  obtain ⟨l⟩ := cs
  match l, h6 with
  | [c0, c1, c2, c3, c4, c5], _ =>
    have h' : Arg enc Tryz.prog W 29 [c0, c1, c2, c3, c4, c5] := h
    have hf := h'.fields Tryz.underlying29 [(22, 0, 1), (23, 1, 1), (24, 2, 1), (25, 3, 1), (26, 4, 1), (27, 5, 1)] (by kernel_rfl)
    have g0 := hf 0 _ _ _ rfl
    have g1 := hf 1 _ _ _ rfl
    have g2 := hf 2 _ _ _ rfl
    have g3 := hf 3 _ _ _ rfl
    have g4 := hf 4 _ _ _ rfl
    have g5 := hf 5 _ _ _ rfl
    simp only [List.drop_succ_cons, List.drop_zero, List.take_succ_cons, List.take_zero] at g0 g1 g2 g3 g4 g5
    obtain ⟨rA, rn, rc, rs, e0, hr, hrn, hrw⟩ := open_routes g0
    obtain ⟨lA, ln, lc, ls, e1, hl, hln⟩ := open_addrs g1
    obtain ⟨kA, kn, kc, ks, e2, hk, hkn, hkw⟩ := open_backups g2
    obtain ⟨bA, bn, bc, bs, e3, hb, hbn, hbp⟩ := open_tab g3
    obtain ⟨oA, on, oc, os, e4, ho, hon, how⟩ := open_louts g4
    obtain ⟨nA, nn, nc, ns, e5, hn, hnn⟩ := open_hopsN g5
    simp only [List.cons.injEq, and_true] at e0 e1 e2 e3 e4 e5
    subst e0 e1 e2 e3 e4 e5
    exact ⟨rA, lA, kA, bA, oA, nA, rn, rc, ln, lc, kn, kc, bn, bc, on, oc, nn, nc, rs, ls, ks, bs, os, ns, rfl, hr, hl, hk, hb, ho, hn, hrn, hln, hkn, hbn, hon, hnn, hbp, ⟨hrw, hkw, how⟩⟩
end Go.Proofs.YtplppbgkkfjknaaGreatDoor
namespace Go.Proofs.YtplppbgkkfjknaaGreatDoor
open Go.RowKit

set_option linter.unusedVariables false
set_option linter.unusedSimpArgs false
structure SmallP (rn ln kn bn on nn : Nat) (rs : List RT) (bs : List EV) (os : List LO) : Prop where
  r : rn ≤ 40
  l : ln ≤ 60
  k : kn ≤ 60
  b : bn ≤ 60
  o : on ≤ 60
  n : nn ≤ 60
  rs : ∀ r ∈ rs, r.n ≤ 80
  os : ∀ o ∈ os, o.n ≤ 80
  bs : ∀ e ∈ bs, e.n ≤ 80
def PlnI (w : World) (n : Nat) (P : Nat → Prop) (fv : List Value) (iv : Value) (W : World) : Prop :=
  ∃ k : Nat, k ≤ n ∧ iv = .int .i64 k ∧ Hid (∀ j, j < k → P j) ∧ Hid (Blk W w.heap.size 29 fv) ∧ Hid (Below w.heap.size w W)
theorem louts_get {w : World} {B n c : Nat} {A : Option Addr} {l : List LO} (h : Outs w B A n c l) {j : Nat} (hj : j < n) :
    ∃ b o x, A = some ⟨b, o, none⟩ ∧ b < B ∧ l[j]? = some x ∧ w.cell? ⟨b, o + j * 3 + 2, none⟩ = some (.slice x.A x.n x.c) := by
  obtain ⟨b, o, x, hA, hb, he, hc⟩ := Recs.get LO.vals_len h.1 hj
  exact ⟨b, o, x, hA, hb, he, hc 2 (by omega)⟩
set_option maxRecDepth 100000 in
set_option maxHeartbeats 8000000 in
theorem small_any (rA lA kA bA oA nA : Option Addr) (rn rc ln lc kn kc bn bc on oc nn nc : Nat) (B : Nat) (rs : List RT) (ls : List Int) (ks : List BK) (bs : List EV) (os : List LO) (ns : List NH) (w : World) (hx : PlanAt w B rA lA kA bA oA nA rn rc ln lc kn kc bn bc on oc nn nc rs ls ks bs os ns) (hB : B ≤ w.heap.size) :
    Calls Tryz.prog 8 #[.agg #[.slice rA rn rc, .slice lA ln lc, .slice kA kn kc, .slice bA bn bc, .slice oA on oc, .slice nA nn nc]] w (GivesFew (SmallP rn ln kn bn on nn rs bs os) w) := by
  obtain ⟨w1, hw1⟩ : ∃ w1, w.alloc (.cells #[.slice rA rn rc, .slice lA ln lc, .slice kA kn kc, .slice bA bn bc, .slice oA on oc, .slice nA nn nc] 29) = w1 := ⟨_, rfl⟩
  have HF1 : Hid (Blk w1 w.heap.size 29 [.slice rA rn rc, .slice lA ln lc, .slice kA kn kc, .slice bA bn bc, .slice oA on oc, .slice nA nn nc]) := by show Blk _ _ _ _; rw [← hw1]; exact Blk.new w _ _
  have HB1 : Hid (Below w.heap.size w w1) := by show Below _ _ _; rw [← hw1]; exact belowA _ _
  have hlt1 : w.heap.size < w1.heap.size := HF1.out.lt
  have f0 := HF1.out.cell 0
  have f1 := HF1.out.cell 1
  have f2 := HF1.out.cell 2
  have f3 := HF1.out.cell 3
  have f4 := HF1.out.cell 4
  have f5 := HF1.out.cell 5
  simp only [List.getElem?_cons_zero, List.getElem?_cons_succ] at f0 f1 f2 f3 f4 f5
  have HXW : Hid (∀ W, Below w.heap.size w W → PlanAt W B rA lA kA bA oA nA rn rc ln lc kn kc bn bc on oc nn nc rs ls ks bs os ns) := fun W h => hx.below (h.mono hB)
  have HRL : Hid (rs.length = rn) := hx.r.1.2
  have HOL : Hid (os.length = on) := hx.o.1.2
  have hq1 := hx.rn
  have hq5 := hx.on
  clear hx
  by_cases q1 : 40 < rn
  · go_enter Tryz.func8, Tryz.ntmps8
    go_wp2
    go_ret
    exact ⟨false, rfl, fun h => absurd h (by simp), HB1.out⟩
  by_cases q2 : 60 < kn
  · go_enter Tryz.func8, Tryz.ntmps8
    go_wp2
    go_ret
    exact ⟨false, rfl, fun h => absurd h (by simp), HB1.out⟩
  by_cases q3 : 60 < on
  · go_enter Tryz.func8, Tryz.ntmps8
    go_wp2
    go_ret
    exact ⟨false, rfl, fun h => absurd h (by simp), HB1.out⟩
  by_cases q4 : 60 < ln
  · go_enter Tryz.func8, Tryz.ntmps8
    go_wp2
    go_ret
    exact ⟨false, rfl, fun h => absurd h (by simp), HB1.out⟩
  by_cases q5 : 60 < bn
  · go_enter Tryz.func8, Tryz.ntmps8
    go_wp2
    go_ret
    exact ⟨false, rfl, fun h => absurd h (by simp), HB1.out⟩
  by_cases q6 : 60 < nn
  · go_enter Tryz.func8, Tryz.ntmps8
    go_wp2
    go_ret
    exact ⟨false, rfl, fun h => absurd h (by simp), HB1.out⟩
  have HI0 : Hid (PlnI w rn (fun j => ∀ x, rs[j]? = some x → x.n ≤ 80) [.slice rA rn rc, .slice lA ln lc, .slice kA kn kc, .slice bA bn bc, .slice oA on oc, .slice nA nn nc] (.int .i64 (0 : Nat)) w1) := ⟨0, Nat.zero_le _, rfl, Lib.hid (fun j h => absurd h (by omega)), HF1, HB1⟩
  go_enter Tryz.func8, Tryz.ntmps8
  go_wp2
  go_loopw [42] (fun iv wr => PlnI w rn (fun j => ∀ x, rs[j]? = some x → x.n ≤ 80) [.slice rA rn rc, .slice lA ln lc, .slice kA kn kc, .slice bA bn bc, .slice oA on oc, .slice nA nn nc] iv wr) (fun iv _ => rn - (intOf iv).toNat)
  case atStart => exact HI0.out
  case round =>
    obtain ⟨k, hk, rfl, h0, hF, hB3⟩ := hrel
    clear HI0 f0 f1 f2 f3 f4 f5 hw1 HF1 HB1 hlt1
    have f0 := hF.out.cell 0
    have f3 := hF.out.cell 3
    have f4 := hF.out.cell 4
    simp only [List.getElem?_cons_zero, List.getElem?_cons_succ] at f0 f3 f4
    have hNw := hF.out.lt
    by_cases hlt : k < rn
    case pos =>
      obtain ⟨b, o, x, rfl, hbB, hxk, _, _, _, _, _, _, _, c6⟩ := (HXW.out _ hB3.out).r.get hlt
      have hbw : b < wr.heap.size := by have := hB3.out.size; omega
      have HK := Lib.hid hxk
      clear hxk
      by_cases h80 : 80 < x.n
      · go_wp2
        go_ret
        exact ⟨false, rfl, fun h => absurd h (by simp), hB3.out⟩
      have HN : Hid (∀ j, j < k + 1 → ∀ q, rs[j]? = some q → q.n ≤ 80) := by
        intro j hj q hq
        rcases Nat.lt_or_ge j k with h | h
        · exact h0.out j h q hq
        · obtain rfl : j = k := by omega
          rw [HK.out] at hq
          obtain rfl := Option.some.inj hq
          omega
      go_wp2
      go_roundw
      case rel => exact ⟨k + 1, by omega, by go_num, HN, hF, hB3⟩
      case measure => simp [intOf]; omega
    case neg =>
      have HR2 : Hid (∀ r ∈ rs, r.n ≤ 80) := all_at HRL.out fun j hj x hx => h0.out j (by omega) x hx
      have HI1 : Hid (PlnI w on (fun j => ∀ x, os[j]? = some x → x.n ≤ 80) [.slice rA rn rc, .slice lA ln lc, .slice kA kn kc, .slice bA bn bc, .slice oA on oc, .slice nA nn nc] (.int .i64 (0 : Nat)) wr) := ⟨0, Nat.zero_le _, rfl, Lib.hid (fun j h => absurd h (by omega)), hF, hB3⟩
      obtain ⟨wq, rfl⟩ : ∃ wq, wq = wr := ⟨_, rfl⟩
      clear h0
      go_wp2
      go_loopw [57] (fun iv wr => PlnI w on (fun j => ∀ x, os[j]? = some x → x.n ≤ 80) [.slice rA rn rc, .slice lA ln lc, .slice kA kn kc, .slice bA bn bc, .slice oA on oc, .slice nA nn nc] iv wr) (fun iv _ => on - (intOf iv).toNat)
      case atStart => exact HI1.out
      case round =>
        clear HI1 f0 f3 f4 hNw hF hB3
        obtain ⟨i, hi, rfl, h0, hF, hB3⟩ := hrel
        have f3 := hF.out.cell 3
        have f4 := hF.out.cell 4
        simp only [List.getElem?_cons_zero, List.getElem?_cons_succ] at f3 f4
        have hNw := hF.out.lt
        by_cases hlt2 : i < on
        case pos =>
          obtain ⟨b, o, x, rfl, hbB, hxk, c2⟩ := louts_get (HXW.out _ hB3.out).o hlt2
          have hbw : b < wr.heap.size := by have := hB3.out.size; omega
          have HK := Lib.hid hxk
          clear hxk
          by_cases h80 : 80 < x.n
          · go_wp2
            go_ret
            exact ⟨false, rfl, fun h => absurd h (by simp), hB3.out⟩
          have HN : Hid (∀ j, j < i + 1 → ∀ q, os[j]? = some q → q.n ≤ 80) := by
            intro j hj q hq
            rcases Nat.lt_or_ge j i with h | h
            · exact h0.out j h q hq
            · obtain rfl : j = i := by omega
              rw [HK.out] at hq
              obtain rfl := Option.some.inj hq
              omega
          go_wp2
          go_roundw
          case rel => exact ⟨i + 1, by omega, by go_num, HN, hF, hB3⟩
          case measure => simp [intOf]; omega
        case neg =>
          have HO2 : Hid (∀ o ∈ os, o.n ≤ 80) := all_at HOL.out fun j hj x hx => h0.out j (by omega) x hx
          have HC := Lib.hid (few_any none none none bA none 0 0 0 0 0 0 bn bc 0 0 B [] [] [] bs [] wr ⟨⟨⟨by simp, by simp [maxLen], rfl, fun h => absurd h (by omega)⟩, rfl⟩, fun e he => by cases he⟩ (HXW.out _ hB3.out).b (by have := hB3.out.size; omega))
          clear h0
          go_wp2_with fail
          refine HC.out.mono ?_
          rintro e w5 ⟨b, rfl, hbf, hb5⟩
          have HB5 := Lib.hid (below3 hB3.out hb5)
          clear HC hb5
          go_wp2
          go_ret
          exact ⟨b, rfl, fun h => ⟨by omega, by omega, by omega, by omega, by omega, by omega, HR2.out, HO2.out, (hbf h).bs⟩, HB5.out⟩
/-- cells that hold no number -/
def NoInt (cs : List Value) : Prop := ∀ (i : Nat) (k : IntKind) (x : Int), cs[i]? ≠ some (.int k x)
theorem cells_off {w : World} {B size n c b : Nat} {A : Option Addr} {vs cs : List Value} {T : TypeId} {k : IntKind} {x : Int} (h : Cells w B size A n c vs) (hn : 0 < n) (hs : 0 < size) (hv : vs[0]? = some (.int k x)) (hb : Blk w b T cs) (hc : NoInt cs) : ∀ ad, A = some ad → ad.block ≠ b := by
  intro ad e hbb
  obtain ⟨g, o, e2, hg, hcell⟩ := h.2.2.2 (by omega)
  rw [e] at e2
  injection e2 with e2
  subst e2
  have h1 : g = b := hbb
  subst h1
  have h0 := hcell 0 (Nat.mul_pos hn hs)
  rw [hv, hb.cell (o + 0)] at h0
  exact hc _ _ _ h0
theorem FibAt.save {w w' : World} {B b : Nat} {T : TypeId} {cs : List Value} (tA gA lA bA nA : Option Addr) (tn tc gn gc ln lc bn bc nn nc : Nat) {es : List Ent} {gs : List GE} {ls : List Int} {bs : List EV} {ns : List NH}
    (h : FibAt w B tA gA lA bA nA tn tc gn gc ln lc bn bc nn nc es gs ls bs ns) (hs : Save b w w') (hB : B ≤ w.heap.size) (hb : Blk w b T cs) (hc : NoInt cs) : FibAt w' B tA gA lA bA nA tn tc gn gc ln lc bn bc nn nc es gs ls bs ns := by
  refine h.kp (P := (· ≠ b)) (Keep.save hs fun k h => h) hB (fun hn => ?_) (fun hn => ?_) (fun g hg => ⟨fun hn => ?_, fun p hp hn => ?_⟩) (fun hn => ?_) (fun hn => ?_) (fun e he hn => ?_) (fun hn => ?_)
  · cases es with
    | nil => have := h.t.len; simp at this; omega
    | cons x t => exact cells_off h.t.1.1 hn (by omega) rfl hb hc
  · cases gs with
    | nil => have := h.g.1.2; simp at this; omega
    | cons x t => exact cells_off h.g.1.1 hn (by omega) rfl hb hc
  · have hp := h.g.2 g hg
    cases hps : g.ps with
    | nil => have := hp.1.2; rw [hps] at this; simp at this; omega
    | cons x t => exact cells_off hp.1.1 hn (by omega) (by rw [hps]; rfl) hb hc
  · have hp := (h.g.2 g hg).2 p hp
    cases hps : p.ls with
    | nil => have := hp.len; rw [hps] at this; simp at this; omega
    | cons x t => exact cells_off hp hn (by omega) (by rw [hps]; rfl) hb hc
  · cases ls with
    | nil => have := h.l.len; simp at this; omega
    | cons x t => exact cells_off h.l hn (by omega) rfl hb hc
  · cases bs with
    | nil => have := h.b.1.2; simp at this; omega
    | cons x t => exact cells_off h.b.1.1 hn (by omega) rfl hb hc
  · have hp := h.b.2 e he
    cases hps : e.hs with
    | nil => have := hp.2; rw [hps] at this; simp at this; omega
    | cons x t => exact cells_off hp.1 hn (by omega) (by rw [hps]; rfl) hb hc
  · cases ns with
    | nil => have := h.n.2; simp at this; omega
    | cons x t => exact cells_off h.n.1 hn (by omega) rfl hb hc
theorem noint_zf : NoInt [.slice none 0 0, .slice none 0 0, .slice none 0 0, .slice none 0 0, .slice none 0 0] := by
  intro i k x h
  rcases i with _ | _ | _ | _ | _ | i <;> cases h
set_option maxRecDepth 100000 in
set_option maxHeartbeats 8000000 in
theorem build52_any (rA lA kA bA oA nA : Option Addr) (rn rc ln lc kn kc bn bc on oc nn nc : Nat) (B : Nat) (rs : List RT) (ls : List Int) (ks : List BK) (bs : List EV) (os : List LO) (ns : List NH) (w : World) (hx : PlanAt w B rA lA kA bA oA nA rn rc ln lc kn kc bn bc on oc nn nc rs ls ks bs os ns) (hB : B ≤ w.heap.size) (hs : SmallP rn ln kn bn on nn rs bs os) (henv : Env w) :
    Calls Tryz.prog 10 #[.agg #[.slice rA rn rc, .slice lA ln lc, .slice kA kn kc, .slice bA bn bc, .slice oA on oc, .slice nA nn nc]] w (GivesFIB (routesErr rs) rn ln bn nn (buildS ks os rs) ls (bs.map EV.dat) ns w) := by
  obtain ⟨w1, hw1⟩ : ∃ w1, (w.alloc (.cells #[.slice rA rn rc, .slice lA ln lc, .slice kA kn kc, .slice bA bn bc, .slice oA on oc, .slice nA nn nc] 29)).alloc (.cells #[.slice none 0 0, .slice none 0 0, .slice none 0 0, .slice none 0 0, .slice none 0 0] 35) = w1 := ⟨_, rfl⟩
  have HF1 : Hid (Blk w1 w.heap.size 29 [.slice rA rn rc, .slice lA ln lc, .slice kA kn kc, .slice bA bn bc, .slice oA on oc, .slice nA nn nc]) := by show Blk _ _ _ _; rw [← hw1]; exact (Blk.new w _ _).keep (belowA _ _)
  have HZ1 : Hid (Blk w1 (w.heap.size + 1) 35 [.slice none 0 0, .slice none 0 0, .slice none 0 0, .slice none 0 0, .slice none 0 0]) := by show Blk _ _ _ _; rw [← hw1]; exact Blk.new2 w _ _ _
  have HB1 : Hid (Below w.heap.size w w1) := by show Below _ _ _; rw [← hw1]; exact below3 (belowA _ _) (belowA _ _)
  have hx1 := hx.below (HB1.out.mono hB)
  have hlt1 := HZ1.out.lt
  have HC := Lib.hid (build_fib_any rA lA kA bA oA nA rn rc ln lc kn kc bn bc on oc nn nc B rs ls ks bs os ns w1 hx1.r hx1.l hx1.k hx1.b hx1.o hx1.n (by have := HB1.out.size; omega) (by have := hs.r; omega) (by have := hs.l; omega) hx1.kn (by have := hs.b; omega) hx1.on (by have := hs.n; omega) (fun r hr => by have := hs.rs r hr; omega) (fun e he => by have := hs.bs e he; omega) hx1.wide (henv.below HB1.out))
  have f0 := HF1.out.cell 0
  have f1 := HF1.out.cell 1
  have f2 := HF1.out.cell 2
  have f3 := HF1.out.cell 3
  have f4 := HF1.out.cell 4
  have f5 := HF1.out.cell 5
  simp only [List.getElem?_cons_zero, List.getElem?_cons_succ] at f0 f1 f2 f3 f4 f5
  have hlt0 : w.heap.size < w1.heap.size := HF1.out.lt
  obtain ⟨R, hR⟩ : ∃ R, routesErr rs = R := ⟨_, rfl⟩
  obtain ⟨Q, hQ⟩ : ∃ Q, buildS ks os rs = Q := ⟨_, rfl⟩
  rw [hR, hQ] at HC
  rw [hR, hQ]
  clear hx hx1 hs henv hR hQ
  go_enter Tryz.func10, Tryz.ntmps10
  go_wp2_with fail
  refine Calls.mono HC.out ?_
  rintro e w2 ⟨hb2, hor⟩
  have HB2 := Lib.hid (below3 HB1.out hb2)
  have HZ2 := Lib.hid (HZ1.out.keep hb2)
  have hsz2 := hb2.size
  have hl2 := HZ2.out.lt
  clear HC f0 f1 f2 f3 f4 f5 hw1 HF1 HZ1 HB1
  rcases hor with ⟨hR0, rfl⟩ | ⟨rfl, gs, bs2, hg, hbd, hg1, hb1, hor⟩
  · have HR0 := Lib.hid hR0
    clear hR0 hb2
    obtain ⟨w3, hw3⟩ : ∃ w3, w2.setRow (w.heap.size + 1) #[.slice none 0 0, .slice none 0 0, .slice none 0 0, .slice none 0 0, .slice none 0 0] = w3 := ⟨_, rfl⟩
    have HB3 : Hid (Blk w3 (w.heap.size + 1) 35 [.slice none 0 0, .slice none 0 0, .slice none 0 0, .slice none 0 0, .slice none 0 0]) := by show Blk _ _ _ _; rw [← hw3]; exact HZ2.out.row _
    have HL3 : Hid (Below w.heap.size w w3) := by show Below _ _ _; rw [← hw3]; exact HB2.out.trans ((Save.row (w.heap.size + 1) w2 _).below (by omega) HB2.out.size)
    go_wp2_with (refine wpList_store_blk rfl 35 _ _ rfl (w.heap.size + 1) rfl rfl HZ2.out (by kernel_rfl) rfl (by kernel_rfl) ?_)
    try rw [hw3]
    refine bodyPost_ret (results_cell_row2 rfl _ (w.heap.size + 1) _ rfl HB3.out Tryz.underlying35 rfl (by kernel_rfl)) rfl ?_
    exact ⟨HL3.out, .inl ⟨HR0.out, rfl⟩⟩
  rcases hor with ⟨hE, rfl⟩ | ⟨hE, tA, gA, lA2, bA2, nA2, tc, gc, lc2, bc2, nc2, rfl, hfa, hg3⟩
  · obtain ⟨E, hEE⟩ : ∃ E, fibErr Q.2 gs ls bs2 ns = E := ⟨_, rfl⟩
    have HEE := Lib.hid hEE
    rw [hEE] at hE ⊢
    have HE0 := Lib.hid hE
    have HG := Lib.hid hg
    have HBD := Lib.hid hbd
    have HG1 := Lib.hid hg1
    have HB1 := Lib.hid hb1
    clear hE hEE hg hbd hg1 hb1 hb2
    obtain ⟨w3, hw3⟩ : ∃ w3, w2.setRow (w.heap.size + 1) #[.slice none 0 0, .slice none 0 0, .slice none 0 0, .slice none 0 0, .slice none 0 0] = w3 := ⟨_, rfl⟩
    have HB3 : Hid (Blk w3 (w.heap.size + 1) 35 [.slice none 0 0, .slice none 0 0, .slice none 0 0, .slice none 0 0, .slice none 0 0]) := by show Blk _ _ _ _; rw [← hw3]; exact HZ2.out.row _
    have HL3 : Hid (Below w.heap.size w w3) := by show Below _ _ _; rw [← hw3]; exact HB2.out.trans ((Save.row (w.heap.size + 1) w2 _).below (by omega) HB2.out.size)
    go_wp2_with (refine wpList_store_blk rfl 35 _ _ rfl (w.heap.size + 1) rfl rfl HZ2.out (by kernel_rfl) rfl (by kernel_rfl) ?_)
    try rw [hw3]
    refine bodyPost_ret (results_cell_row2 rfl _ (w.heap.size + 1) _ rfl HB3.out Tryz.underlying35 rfl (by kernel_rfl)) rfl ?_
    exact ⟨HL3.out, .inr ⟨rfl, gs, bs2, HG.out, HBD.out, HG1.out, HB1.out, .inl ⟨by rw [HEE.out]; exact HE0.out, by rw [HEE.out]; rfl⟩⟩⟩
  · obtain ⟨gn, hgn⟩ : ∃ gn, gs.length = gn := ⟨_, rfl⟩
    rw [hgn] at hfa ⊢
    obtain ⟨w3, hw3⟩ : ∃ w3, w2.setRow (w.heap.size + 1) #[.slice tA rn tc, .slice gA gn gc, .slice lA2 ln lc2, .slice bA2 bn bc2, .slice nA2 nn nc2] = w3 := ⟨_, rfl⟩
    have hsv : Save (w.heap.size + 1) w2 w3 := by rw [← hw3]; exact Save.row _ _ _
    have HB3 : Hid (Blk w3 (w.heap.size + 1) 35 [.slice tA rn tc, .slice gA gn gc, .slice lA2 ln lc2, .slice bA2 bn bc2, .slice nA2 nn nc2]) := by show Blk _ _ _ _; rw [← hw3]; exact HZ2.out.row _
    have HL3 : Hid (Below w.heap.size w w3) := HB2.out.trans (hsv.below (by omega) HB2.out.size)
    have HFA : Hid (FibAt w3 w3.heap.size tA gA lA2 bA2 nA2 rn tc gn gc ln lc2 bn bc2 nn nc2 Q.2 gs ls bs2 ns) := (hfa.save _ _ _ _ _ _ _ _ _ _ _ _ _ _ _ hsv (Nat.le_refl _) HZ2.out noint_zf).more hsv.size
    have HE0 := Lib.hid hE
    have HG := Lib.hid hg
    have HBD := Lib.hid hbd
    have HG1 := Lib.hid hg1
    have HB1 := Lib.hid hb1
    have HG3 := Lib.hid hg3
    have HGN := Lib.hid hgn
    clear hE hg hbd hg1 hb1 hg3 hgn hfa hsv hb2
    go_wp2_with (refine wpList_store_blk rfl 35 _ _ rfl (w.heap.size + 1) rfl rfl HZ2.out (by kernel_rfl) rfl (by kernel_rfl) ?_)
    try rw [hw3]
    refine bodyPost_ret (results_cell_row2 rfl _ (w.heap.size + 1) _ rfl HB3.out Tryz.underlying35 rfl (by kernel_rfl)) rfl ?_
    exact ⟨HL3.out, .inr ⟨rfl, gs, bs2, HG.out, HBD.out, HG1.out, HB1.out, .inr ⟨HE0.out, tA, gA, lA2, bA2, nA2, tc, gc, lc2, bc2, nc2, by rw [HGN.out]; rfl, by rw [HGN.out]; exact HFA.out, HG3.out⟩⟩⟩
end Go.Proofs.YtplppbgkkfjknaaGreatDoor
