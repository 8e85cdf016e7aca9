/- LfibForwards and LfibChecks: the walks. -/
import Derived.Test.YtkgfcekcjehkdaaOpen46
import Derived.Deep.DeepCutAuto
namespace Go.Proofs.Ytkgfcekcjehkdaa
open Go.RowKit

theorem AW.mk' {q : PD} {W V : World} {A : Option Addr} {n c N : Nat} {s d f t : Int} {T : TypeId} (hN : N = V.heap.size) (hq : s = q.src ∧ d = q.dst ∧ f = q.flow ∧ t = q.ttl) (hi : Ints V V.heap.size .i64 A n c q.ls) (hb : Below W.heap.size W V) :
    AW q W (.pointer (some ⟨N, 0, none⟩)) (V.alloc (.cells #[.int .u32 s, .int .u32 d, .int .u32 f, .int .i64 t, .slice A n c] T)) := by
  obtain ⟨rfl, rfl, rfl, rfl⟩ := hq
  exact AW.mk hN hi hb
/-- what Forward returns is not longer than what came in -/
theorem step_len (es : List EV) (p : PD) (h : ¬ p.ls.length = 0) : (stepR es p).1.ls.length ≤ p.ls.length := by
  unfold stepR
  split
  · simp [zeroPD]
  · split
    · show p.ls.dropLast.length ≤ _
      rw [List.length_dropLast]
      omega
    · split
      · simp [zeroPD]
      · show (if _ then _ else _ : List Int).length ≤ _
        split
        · rw [List.length_dropLast]; omega
        · rw [List.length_append, List.length_dropLast, List.length_singleton]
          omega
theorem fwd_len (es : List EV) (p : PD) : (fwd es p).1.ls.length ≤ p.ls.length := by
  unfold fwd
  split
  · simp [zeroPD]
  · split
    · simp [zeroPD]
    · rename_i h
      exact step_len es p h
theorem push_len (p : PD) (ls : List Int) : (push p ls).1.ls.length ≤ 16 := by
  unfold push
  split
  · simp [zeroPD]
  · split
    · simp [zeroPD]
    · rename_i h
      simp
      omega

set_option maxRecDepth 100000 in
set_option maxHeartbeats 2000000 in
theorem lfibForwards_walk (v0 v1 : Value) (w : World) (h0 : TabIn w v0) (h1 : PkIn w v1) :
    Calls Try.prog 4 #[v0, v1] w fun e w' => e = .returned (.bool true) ∧ Below w.heap.size w w' := by
  obtain ⟨T, tn, tc, es, rfl, ht, htn, hlen⟩ := h0
  obtain ⟨p, A, n, c, rfl, hp, hn, hw, hf, httl⟩ := h1
  have F1 : Hid (∀ W, Below w.heap.size w W → Calls Try.prog 15 #[.slice T tn tc, .agg #[.int .u32 p.src, .int .u32 p.dst, .int .u32 p.flow, .int .i64 p.ttl, .slice A n c]] W (GivesP3 (fwd es p) W)) :=
    fun W h => forward_any T A tn tc n c es p W ((ht.below h).more h.size) hlen htn ((hp.below h).more h.size) hn hw hf httl
  have F2 : Hid (∀ W, Below w.heap.size w W → Calls Try.prog 16 #[.slice T tn tc, .agg #[.int .u32 p.src, .int .u32 p.dst, .int .u32 p.flow, .int .i64 p.ttl, .slice A n c]] W (GivesP3 (fwd es p) W)) :=
    fun W h => refForward_any T A tn tc n c es p W ((ht.below h).more h.size) hlen htn ((hp.below h).more h.size) hn hf httl
  have hql := fwd_len es p
  rw [hp.len] at hql
  obtain ⟨⟨q, r, x⟩, hq⟩ : ∃ q, fwd es p = q := ⟨_, rfl⟩
  rw [hq] at F1 F2 hql
  obtain ⟨src, dst, fl, ttl, ps⟩ := p
  obtain ⟨s2, d2, f2, t2, l2⟩ := q
  dsimp only at *
  have HQL := Lib.hid hql
  clear ht hlen htn hp hw hf httl hq hql
  have HB0 := Lib.hid (belowA w (.cells #[.int .u32 src, .int .u32 dst, .int .u32 fl, .int .i64 ttl, .slice A n c] 27))
  go_enter Try.func4, Try.ntmps4
  go_upto_region 1 with fail
  go_cut [5, 6, 7] (fun s t u wx => AW3 ⟨s2, d2, f2, t2, l2⟩ r x (w.alloc (.cells #[.int .u32 src, .int .u32 dst, .int .u32 fl, .int .i64 ttl, .slice A n c] 27)) s t u wx)
  case first =>
    go_wp2_with fail
    refine (F1.out _ HB0.out).mono ?_
    rintro e w1 ⟨v, rfl, ⟨A1, n1, c1, rfl, ho⟩, hb⟩
    have HI := Lib.hid ho.ints
    have HB := Lib.hid hb
    clear ho hb
    go_wp2_with fail
    go_meet
    exact ⟨AW.mk' rfl ⟨rfl, rfl, rfl, rfl⟩ HI.out HB.out, rfl, rfl⟩
  case rest =>
    obtain ⟨⟨N1, A1, n1, c1, rfl, P1, I1, B1⟩, rfl, rfl⟩ := hcut
    have HP0 : Hid (PB w.heap.size src dst fl ttl A n c wc) := (PB.new w).step B1
    have HP1 := Lib.hid P1
    have HI1 := Lib.hid I1
    have HB1 := Lib.hid (below3 HB0.out B1)
    clear P1 I1 B1
    obtain ⟨W1, hW1⟩ : ∃ W1, W1 = wc := ⟨_, rfl⟩
    subst hW1
    go_upto_region 2 with fail
    go_cut [8, 9, 10] (fun s t u wx => AW3 ⟨s2, d2, f2, t2, l2⟩ r x W1 s t u wx)
    case first =>
      obtain ⟨p0, p1, p2, p3, p4, hz⟩ := HP0.out
      go_wp2_with fail
      refine (F2.out _ HB1.out).mono ?_
      rintro e w1 ⟨v, rfl, ⟨A2, n2, c2, rfl, ho⟩, hb⟩
      have HI := Lib.hid ho.ints
      have HB := Lib.hid hb
      clear ho hb p0 p1 p2 p3 p4 hz
      go_wp2_with fail
      go_meet
      exact ⟨AW.mk' rfl ⟨rfl, rfl, rfl, rfl⟩ HI.out HB.out, rfl, rfl⟩
    case rest =>
      obtain ⟨⟨N2, A2, n2, c2, rfl, P2, I2, B2⟩, rfl, rfl⟩ := hcut
      have HP2 := Lib.hid P2
      have HI2 := Lib.hid I2
      have HQ1 := Lib.hid (HP1.out.step B2)
      have HJ1 := Lib.hid ((HI1.out.below B2).more B2.size)
      have HB2 := Lib.hid (below3 HB1.out B2)
      clear P2 I2 B2 HP0 HP1 HI1 HB1
      go_wp2_with fail
      refine (awake_any _).mono ?_
      rintro e w3 ⟨rfl, hb3⟩
      obtain ⟨a0, a1, a2, a3, a4, az⟩ := HQ1.out.step hb3
      obtain ⟨b0, b1, b2, b3, b4, bz⟩ := HP2.out.step hb3
      have HB3 := Lib.hid (below3 HB2.out hb3)
      have HK1 := Lib.hid ((HJ1.out.below hb3).more hb3.size)
      have HK2 := Lib.hid ((HI2.out.below hb3).more hb3.size)
      clear hb3
      go_wp2_with fail
      refine (same_true A1 A2 n1 c1 n2 c2 _ _ s2 d2 f2 t2 l2 w3 HK1.out HK2.out (Nat.le_refl _) (Nat.le_refl _) (by have := HK1.out.len; have := HQL.out; omega)).mono ?_
      rintro e w4 ⟨rfl, hb4⟩
      have HB4 := Lib.hid (below3 HB3.out hb4)
      clear hb4 a0 a1 a2 a3 a4 b0 b1 b2 b3 b4
      go_wp2
      go_ret
      exact ⟨rfl, HB4.out⟩
end Go.Proofs.Ytkgfcekcjehkdaa
