/- Forward: the program's. -/
import Derived.Test.YtkgfcekcjehkdaaStepWalk
namespace Go.Proofs.Ytkgfcekcjehkdaa
open Go.RowKit

/-- the two boxes, as one word -/
def Bx (w : World) (a0 a1 a2 a3 a4 b0 b1 b2 b3 b4 : Value) (W : World) : Prop :=
    (W.cell? ⟨w.heap.size, 0, none⟩ = some a0 ∧ W.cell? ⟨w.heap.size, 1, none⟩ = some a1 ∧ W.cell? ⟨w.heap.size, 2, none⟩ = some a2 ∧ W.cell? ⟨w.heap.size, 3, none⟩ = some a3 ∧ W.cell? ⟨w.heap.size, 4, none⟩ = some a4) ∧
    (W.cell? ⟨w.heap.size + 1, 0, none⟩ = some b0 ∧ W.cell? ⟨w.heap.size + 1, 1, none⟩ = some b1 ∧ W.cell? ⟨w.heap.size + 1, 2, none⟩ = some b2 ∧ W.cell? ⟨w.heap.size + 1, 3, none⟩ = some b3 ∧ W.cell? ⟨w.heap.size + 1, 4, none⟩ = some b4) ∧
    (∀ o, W.frozen? ⟨w.heap.size, o, none⟩ = false) ∧ (∀ o, W.frozen? ⟨w.heap.size + 1, o, none⟩ = false) ∧ w.heap.size < W.heap.size ∧ w.heap.size + 1 < W.heap.size
set_option linter.unusedSimpArgs false
set_option maxRecDepth 100000 in
set_option maxHeartbeats 4000000 in
theorem forward_any (T A : Option Addr) (tn tc n c : Nat) (es : List EV) (p : PD) (w : World) (ht : Tab w w.heap.size T tn tc es) (hlen : ∀ e ∈ es, e.n ≤ 140737488355328) (htn : tn ≤ 140737488355328) (hp : Ints w w.heap.size .i64 A n c p.ls) (hn : n ≤ 17592186044416)
    (hw : ∀ x ∈ p.ls, -9223372036854775808 ≤ x ∧ x ≤ 9223372036854775807) (hf : 0 ≤ p.flow ∧ p.flow < 4294967296) (httl : -9223372036854775808 ≤ p.ttl ∧ p.ttl ≤ 9223372036854775807) :
    Calls Try.prog 15 #[.slice T tn tc, .agg #[.int .u32 p.src, .int .u32 p.dst, .int .u32 p.flow, .int .i64 p.ttl, .slice A n c]] w (GivesP3 (fwd es p) w) := by
  obtain ⟨Z, hZ⟩ : ∃ Z, ((w.alloc (.cells #[.int .u32 p.src, .int .u32 p.dst, .int .u32 p.flow, .int .i64 p.ttl, .slice A n c] 27)).alloc (.cells #[.int .u32 0, .int .u32 0, .int .u32 0, .int .i64 0, .slice none 0 0] 27)) = Z := ⟨_, rfl⟩
  have HB0 : Hid (Below w.heap.size w Z) := by subst hZ; exact ((Below.refl _ _).alloc (Nat.le_refl _) _).alloc (by simp) _
  have HZS : Hid (w.heap.size + 2 ≤ Z.heap.size) := by subst hZ; show _ ≤ _; simp
  have HBX : Hid (∀ W, Below (w.heap.size + 2) Z W → Bx w (.int .u32 p.src) (.int .u32 p.dst) (.int .u32 p.flow) (.int .i64 p.ttl) (.slice A n c) (.int .u32 0) (.int .u32 0) (.int .u32 0) (.int .i64 0) (.slice none 0 0) W) := fun W h => by subst hZ; exact boxes h
  have HC := Lib.hid (check_any T tn tc w.heap.size es Z (ht.below HB0.out) HB0.out.size htn hlen)
  have hlp := hp.len
  have HF : Hid (fwd es p = if tabErr es ≠ 0 then (zeroPD, 0, tabErr es) else if n = 0 then (zeroPD, 0, 9) else stepR es p) := by show _ = _; unfold fwd; rw [hlp]
  have HST : Hid (∀ W, Below Z.heap.size Z W → tabErr es = 0 → 0 < n → Calls Try.prog 25 #[.slice T tn tc, .agg #[.int .u32 p.src, .int .u32 p.dst, .int .u32 p.flow, .int .i64 p.ttl, .slice A n c]] W (GivesP3 (stepR es p) W)) :=
    fun W h he h0 => step_any T A tn tc n c es p W ((ht.below (HB0.out.trans (h.mono HB0.out.size))).more (HB0.out.trans (h.mono HB0.out.size)).size) ((hp.below (HB0.out.trans (h.mono HB0.out.size))).more (HB0.out.trans (h.mono HB0.out.size)).size) he h0 hn hw hf httl
  obtain ⟨te, hte⟩ : ∃ te, tabErr es = te := ⟨_, rfl⟩
  rw [hte] at HC HF HST
  obtain ⟨src, dst, fl, ttl, ps⟩ := p
  dsimp only at *
  clear ht hlen htn hp hw hf httl hte hlp hn
  go_enter Try.func15, Try.ntmps15
  go_wp2_with fail
  refine HC.out.mono ?_
  rintro e w1 ⟨rfl, hb1⟩
  obtain ⟨⟨p0, p1, p2, p3, p4⟩, ⟨q0, q1, q2, q3, q4⟩, fz, fz1, hz, hz1⟩ := HBX.out w1 (hb1.mono HZS.out)
  have HB1 := Lib.hid hb1
  have HW1 : Hid (Below w.heap.size w w1) := HB0.out.trans (hb1.mono HB0.out.size)
  clear hb1 hZ
  by_cases he : te = 0
  · subst he
    by_cases h0 : n = 0
    · subst h0
      have HG : Hid (fwd es ⟨src, dst, fl, ttl, ps⟩ = (zeroPD, 0, 9)) := by show _ = _; rw [HF.out]; simp
      go_wp2
      refine bodyPost_ret (v := .tuple #[.agg #[.int .u32 0, .int .u32 0, .int .u32 0, .int .i64 0, .slice none 0 0], .int .u32 0, .int .i64 9]) (by simp [results, Try.results15, go_sem, q0, q1, q2, q3, q4, hz, hz1]) rfl ?_
      rw [HG.out]
      refine ⟨_, rfl, PkOwn.zero _ _, ?_⟩
      repeat with_reducible refine Below.setCell ?_ (by simp) _
      with_reducible exact HW1.out
    · have HG : Hid (fwd es ⟨src, dst, fl, ttl, ps⟩ = stepR es ⟨src, dst, fl, ttl, ps⟩) := by show _ = _; rw [HF.out]; simp [h0]
      have dn : ((n : Int) == 0) = false := by simp; omega
      go_wp2_with fail
      refine (HST.out w1 HB1.out trivial (by omega)).mono ?_
      rintro e w2 ⟨v, rfl, ⟨A2, n2, c2, rfl, ho2⟩, hb2⟩
      obtain ⟨⟨qd, qr, qe⟩, hqq⟩ : ∃ q, stepR es ⟨src, dst, fl, ttl, ps⟩ = q := ⟨_, rfl⟩
      rw [hqq] at HG ho2 ⊢
      obtain ⟨s2, d2, f2, t2, l2⟩ := qd
      dsimp only at *
      clear p0 p1 p2 p3 p4 q0 q1 q2 q3 q4 fz fz1 hz hz1 hqq
      obtain ⟨_, ⟨q0, q1, q2, q3, q4⟩, _, fz1, _, hz1⟩ := HBX.out w2 ((HB1.out.trans (hb2.mono HB1.out.size)).mono HZS.out)
      have HO2 : Hid (Own w2 (w.heap.size + 2) 3 .i64 (.slice A2 n2 c2) n2 l2) := own_low ho2 (Nat.le_trans HZS.out HB1.out.size)
      have HW2 : Hid (Below w.heap.size w w2) := HW1.out.trans (hb2.mono HW1.out.size)
      clear ho2 hb2
      go_wp2
      refine bodyPost_ret (v := .tuple #[.agg #[.int .u32 s2, .int .u32 d2, .int .u32 f2, .int .i64 t2, .slice A2 n2 c2], .int .u32 qr, .int .i64 qe]) (by simp [results, Try.results15, go_sem, q0, q1, q2, q3, q4, hz1]) rfl ?_
      rw [HG.out]
      refine ⟨_, rfl, ⟨A2, n2, c2, rfl, own_low (b := w.heap.size + 2) ?_ (by omega)⟩, ?_⟩
      · repeat (first | with_reducible refine Own.setBelow ?_ (by show _ < w.heap.size + 2; simp) _ | with_reducible refine own_drew ?_)
        with_reducible exact HO2.out
      · repeat (first | with_reducible refine Below.setCell ?_ (by simp) _ | with_reducible refine Below.drew ?_)
        with_reducible exact HW2.out
  · have HG : Hid (fwd es ⟨src, dst, fl, ttl, ps⟩ = (zeroPD, 0, te)) := by show _ = _; rw [HF.out, if_pos he]
    have d : (te != 0) = true := by simp [he]
    clear he
    go_wp2
    refine bodyPost_ret (v := .tuple #[.agg #[.int .u32 0, .int .u32 0, .int .u32 0, .int .i64 0, .slice none 0 0], .int .u32 0, .int .i64 te]) (by simp [results, Try.results15, go_sem, q0, q1, q2, q3, q4, hz, hz1]) rfl ?_
    rw [HG.out]
    refine ⟨_, rfl, PkOwn.zero _ _, ?_⟩
    repeat with_reducible refine Below.setCell ?_ (by simp) _
    with_reducible exact HW1.out
end Go.Proofs.Ytkgfcekcjehkdaa
