/- Routes and subjects as arguments. -/
import Derived.Test.YtojgohgeagbkbaaOpn
namespace Go.Proofs.Ytojgohgeagbkbaa
open Go.ChangeShapes Go.WideShapes Go.ChangeAt Go.RowKit

set_option linter.unusedVariables false
set_option linter.unusedSimpArgs false
/-- a route as an argument -/
def RouteIn (W : World) (v : Value) : Prop := ∃ (rpa rpl : Int) (og hop med pref aas aad ori : Int) (hm hp atm ha ho : Bool) (pA cA kA uA : Option Addr) (pn pc cn cc kn kc un uc : Nat) (p us : Path) (cm cl : List Int) (rpeer rkind rrtr : Int) (stale : Bool), v = .agg #[.int .u32 rpa, .int .i64 rpl, .int .i64 og, .slice pA pn pc, .int .u32 hop, .bool hm, .int .i64 med, .bool hp, .int .i64 pref, .bool atm, .bool ha, .int .i64 aas, .int .u32 aad, .slice cA cn cc, .bool ho, .int .u32 ori, .slice kA kn kc, .slice uA un uc, .int .i64 rpeer, .int .i64 rkind, .int .u32 rrtr, .bool stale] ∧ Lists W W.heap.size pA cA kA uA pn pc cn cc kn kc un uc p cm cl us ∧ (flat p).length ≤ 1048576 ∧ (flat us).length ≤ 1048576
/-- a subject as an argument -/
def SubjIn (W : World) (v : Value) : Prop := ∃ (spa spl spr shop spref smed smet stag : Int) (fA eA : Option Addr) (fn fc en ec : Nat) (fl cms : List Int), v = .agg #[.int .u32 spa, .int .i64 spl, .int .i64 spr, .int .u32 shop, .slice fA fn fc, .slice eA en ec, .int .i64 spref, .int .i64 smed, .int .i64 smet, .int .i64 stag] ∧ Ints W W.heap.size .i64 fA fn fc fl ∧ Ints W W.heap.size .u32 eA en ec cms ∧ fn ≤ 1048576 ∧ en ≤ 1048576
section
variable {H : Type} {enc : TypeId × Value → H} {W : World} {cs : List Value} {M : Nat}
set_option maxRecDepth 100000 in
theorem open_prefix (h : ArgB enc Try.prog W 47 cs M) : ∃ (spa spl : Int), cs = [.int .u32 spa, .int .i64 spl] := by
  obtain ⟨hl, ms, hml, hms, hf⟩ := h.fields Try.underlying47 [(36, 0, 1), (3, 1, 1)] (by kernel_rfl)
  have hl2 : cs.length = 2 := hl.trans (by kernel_rfl)
  match cs, hl2, ms, hml with
  | [c0, c1], _, [m0, m1], _ =>
    obtain ⟨x0, e0, g0⟩ := hf 0 _ _ _ rfl
    obtain ⟨x1, e1, g1⟩ := hf 1 _ _ _ rfl
    simp only [List.drop_succ_cons, List.drop_zero, List.take_succ_cons, List.take_zero, List.getElem?_cons_zero, List.getElem?_cons_succ, Option.some.injEq] at g0 e0 g1 e1
    subst e0 e1
    simp only [List.sum_cons, List.sum_nil] at hms
    obtain ⟨a0, q0, w0⟩ := g0.int Try.underlying36
    obtain ⟨a1, q1, w1⟩ := g1.int Try.underlying3
    simp only [List.cons.injEq, and_true] at q0 q1
    subst q0 q1
    exact ⟨a0, a1, rfl⟩
set_option maxRecDepth 100000 in
set_option maxHeartbeats 4000000 in
theorem open_route (h : ArgB enc Try.prog W 49 cs M) (hM : M ≤ 1048576) : ∃ (rpa rpl : Int) (og hop med pref aas aad ori : Int) (hm hp atm ha ho : Bool) (pA cA kA uA : Option Addr) (pn pc cn cc kn kc un uc : Nat) (p us : Path) (cm cl : List Int) (rpeer rkind rrtr : Int) (stale : Bool), cs = [.int .u32 rpa, .int .i64 rpl, .int .i64 og, .slice pA pn pc, .int .u32 hop, .bool hm, .int .i64 med, .bool hp, .int .i64 pref, .bool atm, .bool ha, .int .i64 aas, .int .u32 aad, .slice cA cn cc, .bool ho, .int .u32 ori, .slice kA kn kc, .slice uA un uc, .int .i64 rpeer, .int .i64 rkind, .int .u32 rrtr, .bool stale] ∧ Lists W W.heap.size pA cA kA uA pn pc cn cc kn kc un uc p cm cl us ∧ p.length + (flat p).length + cm.length + cl.length + us.length + (flat us).length ≤ M := by
  obtain ⟨hl, ms, hml, hms, hf⟩ := h.fields Try.underlying49 [(47, 0, 2), (40, 2, 16), (3, 18, 1), (3, 19, 1), (22, 20, 1), (4, 21, 1)] (by kernel_rfl)
  have hl2 : cs.length = 22 := hl.trans (by kernel_rfl)
  match cs, hl2, ms, hml with
  | [c0, c1, c2, c3, c4, c5, c6, c7, c8, c9, c10, c11, c12, c13, c14, c15, c16, c17, c18, c19, c20, c21], _, [m0, m1, m2, m3, m4, m5], _ =>
    obtain ⟨x0, e0, g0⟩ := hf 0 _ _ _ rfl
    obtain ⟨x1, e1, g1⟩ := hf 1 _ _ _ rfl
    obtain ⟨x2, e2, g2⟩ := hf 2 _ _ _ rfl
    obtain ⟨x3, e3, g3⟩ := hf 3 _ _ _ rfl
    obtain ⟨x4, e4, g4⟩ := hf 4 _ _ _ rfl
    obtain ⟨x5, e5, g5⟩ := hf 5 _ _ _ rfl
    simp only [List.drop_succ_cons, List.drop_zero, List.take_succ_cons, List.take_zero, List.getElem?_cons_zero, List.getElem?_cons_succ, Option.some.injEq] at g0 e0 g1 e1 g2 e2 g3 e3 g4 e4 g5 e5
    subst e0 e1 e2 e3 e4 e5
    simp only [List.sum_cons, List.sum_nil] at hms
    obtain ⟨rpa, rpl, q0⟩ := open_prefix g0
    obtain ⟨og, hop, med, pref, aas, aad, ori, hm, hp, atm, ha, ho, pA, cA, kA, uA, pn, pc, cn, cc, kn, kc, un, uc, p, us, cm, cl, q1, hL, hb⟩ := open_att g1 (by omega)
    obtain ⟨rpeer, q2, w2⟩ := g2.int Try.underlying3
    obtain ⟨rkind, q3, w3⟩ := g3.int Try.underlying3
    obtain ⟨rrtr, q4, w4⟩ := g4.int Try.underlying22
    obtain ⟨stale, q5⟩ := g5.bool Try.underlying4
    simp only [List.cons.injEq, and_true] at q0 q1 q2 q3 q4 q5
    obtain ⟨rfl, rfl⟩ := q0
    obtain ⟨rfl, rfl, rfl, rfl, rfl, rfl, rfl, rfl, rfl, rfl, rfl, rfl, rfl, rfl, rfl, rfl⟩ := q1
    subst q2 q3 q4 q5
    exact ⟨rpa, rpl, og, hop, med, pref, aas, aad, ori, hm, hp, atm, ha, ho, pA, cA, kA, uA, pn, pc, cn, cc, kn, kc, un, uc, p, us, cm, cl, rpeer, rkind, rrtr, stale, rfl, hL, by omega⟩
set_option maxRecDepth 100000 in
set_option maxHeartbeats 4000000 in
theorem open_subj (h : ArgB enc Try.prog W 54 cs M) : ∃ (spa spl spr shop spref smed smet stag : Int) (fA eA : Option Addr) (fn fc en ec : Nat) (fl cms : List Int), cs = [.int .u32 spa, .int .i64 spl, .int .i64 spr, .int .u32 shop, .slice fA fn fc, .slice eA en ec, .int .i64 spref, .int .i64 smed, .int .i64 smet, .int .i64 stag] ∧ Ints W W.heap.size .i64 fA fn fc fl ∧ Ints W W.heap.size .u32 eA en ec cms ∧ fn ≤ M ∧ en ≤ M := by
  obtain ⟨hl, ms, hml, hms, hf⟩ := h.fields Try.underlying54 [(47, 0, 2), (3, 2, 1), (36, 3, 1), (52, 4, 1), (37, 5, 1), (3, 6, 1), (3, 7, 1), (3, 8, 1), (3, 9, 1)] (by kernel_rfl)
  have hl2 : cs.length = 10 := hl.trans (by kernel_rfl)
  match cs, hl2, ms, hml with
  | [c0, c1, c2, c3, c4, c5, c6, c7, c8, c9], _, [m0, m1, m2, m3, m4, m5, m6, m7, m8], _ =>
    obtain ⟨x0, e0, g0⟩ := hf 0 _ _ _ rfl
    obtain ⟨x1, e1, g1⟩ := hf 1 _ _ _ rfl
    obtain ⟨x2, e2, g2⟩ := hf 2 _ _ _ rfl
    obtain ⟨x3, e3, g3⟩ := hf 3 _ _ _ rfl
    obtain ⟨x4, e4, g4⟩ := hf 4 _ _ _ rfl
    obtain ⟨x5, e5, g5⟩ := hf 5 _ _ _ rfl
    obtain ⟨x6, e6, g6⟩ := hf 6 _ _ _ rfl
    obtain ⟨x7, e7, g7⟩ := hf 7 _ _ _ rfl
    obtain ⟨x8, e8, g8⟩ := hf 8 _ _ _ rfl
    simp only [List.drop_succ_cons, List.drop_zero, List.take_succ_cons, List.take_zero, List.getElem?_cons_zero, List.getElem?_cons_succ, Option.some.injEq] at g0 e0 g1 e1 g2 e2 g3 e3 g4 e4 g5 e5 g6 e6 g7 e7 g8 e8
    subst e0 e1 e2 e3 e4 e5 e6 e7 e8
    simp only [List.sum_cons, List.sum_nil] at hms
    obtain ⟨spa, spl, q0⟩ := open_prefix g0
    obtain ⟨spr, q1, w1⟩ := g1.int Try.underlying3
    obtain ⟨shop, q2, w2⟩ := g2.int Try.underlying36
    obtain ⟨fA, fn, fc, fl, q3, h3, l3, w3⟩ := g3.ints Try.underlying52 Try.underlying3 (by kernel_rfl)
    obtain ⟨eA, en, ec, cms, q4, h4, l4, w4⟩ := g4.ints Try.underlying37 Try.underlying22 (by kernel_rfl)
    obtain ⟨spref, q5, w5⟩ := g5.int Try.underlying3
    obtain ⟨smed, q6, w6⟩ := g6.int Try.underlying3
    obtain ⟨smet, q7, w7⟩ := g7.int Try.underlying3
    obtain ⟨stag, q8, w8⟩ := g8.int Try.underlying3
    simp only [List.cons.injEq, and_true] at q0 q1 q2 q3 q4 q5 q6 q7 q8
    obtain ⟨rfl, rfl⟩ := q0
    subst q1 q2 q3 q4 q5 q6 q7 q8
    have n3 := h3.len
    have n4 := h4.len
    exact ⟨spa, spl, spr, shop, spref, smed, smet, stag, fA, eA, fn, fc, en, ec, fl, cms, rfl, h3, h4, by omega, by omega⟩
set_option maxRecDepth 100000 in
set_option maxHeartbeats 4000000 in
theorem open_route_arg {r : Reach} {b0 : Nat} {v : Value} {d : DataW H} {pl : List MemPlace} (hv : Value.okWide Try.prog W r b0 49 v) (h : DataW.Trod enc Try.prog W 0 (fun _ => true) true 49 v d pl) (hM : Rows.uptoBulk d ≤ 1048576) : RouteIn W v := by
  obtain ⟨⟨cs⟩, rfl, _⟩ := okWide_struct Try.underlying49 hv
  obtain ⟨rpa, rpl, og, hop, med, pref, aas, aad, ori, hm, hp, atm, ha, ho, pA, cA, kA, uA, pn, pc, cn, cc, kn, kc, un, uc, p, us, cm, cl, rpeer, rkind, rrtr, stale, e, h1, h2⟩ := open_route (ArgB.of h) hM
  exact ⟨rpa, rpl, og, hop, med, pref, aas, aad, ori, hm, hp, atm, ha, ho, pA, cA, kA, uA, pn, pc, cn, cc, kn, kc, un, uc, p, us, cm, cl, rpeer, rkind, rrtr, stale, congrArg (fun l => Value.agg l.toArray) e, h1, by omega, by omega⟩
set_option maxRecDepth 100000 in
set_option maxHeartbeats 4000000 in
theorem open_subj_arg {r : Reach} {b0 : Nat} {v : Value} {d : DataW H} {pl : List MemPlace} (hv : Value.okWide Try.prog W r b0 54 v) (h : DataW.Trod enc Try.prog W 0 (fun _ => true) true 54 v d pl) (hM : Rows.uptoBulk d ≤ 1048576) : SubjIn W v := by
  obtain ⟨⟨cs⟩, rfl, _⟩ := okWide_struct Try.underlying54 hv
  obtain ⟨spa, spl, spr, shop, spref, smed, smet, stag, fA, eA, fn, fc, en, ec, fl, cms, e, h1, h2, h3, h4⟩ := open_subj (ArgB.of h)
  exact ⟨spa, spl, spr, shop, spref, smed, smet, stag, fA, eA, fn, fc, en, ec, fl, cms, congrArg (fun l => Value.agg l.toArray) e, h1, h2, by omega, by omega⟩
end
end Go.Proofs.Ytojgohgeagbkbaa
