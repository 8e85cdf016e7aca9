/- LfibChecks: the walk. -/
import Derived.Test.YtkgfcekcjehkdaaLaw46a
namespace Go.Proofs.Ytkgfcekcjehkdaa
open Go.RowKit

theorem AW2.mk' {q : PD} {x : Int} {W V : World} {A : Option Addr} {n c N : Nat} {s d f t : Int} {T : TypeId} (hN : N = V.heap.size) (hq : s = q.src ∧ d = q.dst ∧ f = q.flow ∧ t = q.ttl) (hi : Ints V V.heap.size .i64 A n c q.ls) (hb : Below W.heap.size W V) :
    AW2 q x W (.pointer (some ⟨N, 0, none⟩)) (.int .i64 x) (V.alloc (.cells #[.int .u32 s, .int .u32 d, .int .u32 f, .int .i64 t, .slice A n c] T)) := ⟨AW.mk' hN hq hi hb, rfl⟩
set_option maxRecDepth 100000 in
set_option maxHeartbeats 2000000 in
theorem lfibChecks_walk (v0 v1 : Value) (C : Option Addr) (m d : Nat) (ls : List Int) (w : World) (h0 : TabIn w v0) (h1 : PkIn w v1) (hx : Ints w w.heap.size .i64 C m d ls) (_hw : ∀ x ∈ ls, (Lit.int .i64 x).wf = true) (hr : d * 8 ≤ 140737488351232) :
    Calls Try.prog 3 #[v0, v1, .slice C m d] w fun e w' => e = .returned (.bool true) ∧ Below w.heap.size w w' := by
  obtain ⟨T, tn, tc, es, rfl, ht, htn, hlen⟩ := h0
  obtain ⟨p, A, n, c, rfl, hp, hn, hw, hf, httl⟩ := h1
  have hm : m ≤ 17592186044416 := by have := hx.1; omega
  have F1 : Hid (∀ W, Below w.heap.size w W → Calls Try.prog 9 #[.agg #[.int .u32 p.src, .int .u32 p.dst, .int .u32 p.flow, .int .i64 p.ttl, .slice A n c], .slice C m d] W (GivesPE (push p ls).1 (push p ls).2 W)) :=
    fun W h => push_any A C n c m d p ls W ((hp.below h).more h.size) ((hx.below h).more h.size) hn hm
  have F2 : Hid (∀ W, Below w.heap.size w W → Calls Try.prog 10 #[.agg #[.int .u32 p.src, .int .u32 p.dst, .int .u32 p.flow, .int .i64 p.ttl, .slice A n c], .slice C m d] W (GivesPE (push p ls).1 (push p ls).2 W)) :=
    fun W h => refPush_any A C n c m d p ls W ((hp.below h).more h.size) ((hx.below h).more h.size) hn hm
  have K1 : Hid (∀ W, Below w.heap.size w W → Calls Try.prog 12 #[.slice T tn tc] W fun e w' => e = .returned (.int .i64 (tabErr es)) ∧ Below W.heap.size W w') :=
    fun W h => check_any T tn tc w.heap.size es W (ht.below h) h.size htn hlen
  have K2 : Hid (∀ W, Below w.heap.size w W → Calls Try.prog 13 #[.slice T tn tc] W fun e w' => e = .returned (.int .i64 (tabErr es)) ∧ Below W.heap.size W w') :=
    fun W h => refCheck_any T tn tc w.heap.size es W (ht.below h) h.size htn hlen
  have hql := push_len p ls
  obtain ⟨⟨q, x⟩, hq⟩ : ∃ q, push p ls = q := ⟨_, rfl⟩
  obtain ⟨te, hte⟩ : ∃ te, tabErr es = te := ⟨_, rfl⟩
  rw [hq] at F1 F2 hql
  rw [hte] at K1 K2
  obtain ⟨src, dst, fl, ttl, ps⟩ := p
  obtain ⟨s2, d2, f2, t2, l2⟩ := q
  dsimp only at *
  have HQL := Lib.hid hql
  clear ht hlen htn hp hw hf httl hq hql hte hx hr
  have HB0 := Lib.hid (belowA w (.cells #[.int .u32 src, .int .u32 dst, .int .u32 fl, .int .i64 ttl, .slice A n c] 27))
  go_enter Try.func3, Try.ntmps3
  go_upto_region 1 with fail
  go_cut [7, 8] (fun s u wx => AW2 ⟨s2, d2, f2, t2, l2⟩ x (w.alloc (.cells #[.int .u32 src, .int .u32 dst, .int .u32 fl, .int .i64 ttl, .slice A n c] 27)) s u wx)
  case first =>
    go_wp2_with fail
    refine (F1.out _ HB0.out).mono ?_
    rintro e w1 ⟨v, rfl, ⟨A1, n1, c1, rfl, hi⟩, hb⟩
    have HI := Lib.hid hi
    have HB := Lib.hid hb
    clear hi hb
    go_wp2_with fail
    go_meet
    exact AW2.mk' rfl ⟨rfl, rfl, rfl, rfl⟩ HI.out HB.out
  case rest =>
    obtain ⟨⟨N1, A1, n1, c1, rfl, P1, I1, B1⟩, rfl⟩ := hcut
    have HP0 : Hid (PB w.heap.size src dst fl ttl A n c wc) := (PB.new w).step B1
    have HP1 := Lib.hid P1
    have HI1 := Lib.hid I1
    have HB1 := Lib.hid (below3 HB0.out B1)
    clear P1 I1 B1
    obtain ⟨W1, hW1⟩ : ∃ W1, W1 = wc := ⟨_, rfl⟩
    subst hW1
    go_upto_region 2 with fail
    go_cut [9, 10] (fun s u wx => AW2 ⟨s2, d2, f2, t2, l2⟩ x W1 s u wx)
    case first =>
      obtain ⟨p0, p1, p2, p3, p4, hz⟩ := HP0.out
      go_wp2_with fail
      refine (F2.out _ HB1.out).mono ?_
      rintro e w1 ⟨v, rfl, ⟨A2, n2, c2, rfl, hi⟩, hb⟩
      have HI := Lib.hid hi
      have HB := Lib.hid hb
      clear hi hb p0 p1 p2 p3 p4 hz
      go_wp2_with fail
      go_meet
      exact AW2.mk' rfl ⟨rfl, rfl, rfl, rfl⟩ HI.out HB.out
    case rest =>
      obtain ⟨⟨N2, A2, n2, c2, rfl, P2, I2, B2⟩, rfl⟩ := hcut
      have HP2 := Lib.hid P2
      have HI2 := Lib.hid I2
      have HQ1 := Lib.hid (HP1.out.step B2)
      have HJ1 := Lib.hid ((HI1.out.below B2).more B2.size)
      have HB2 := Lib.hid (below3 HB1.out B2)
      clear P2 I2 B2 HP0 HP1 HI1 HB1
      go_wp2_with fail
      refine (awake_any _).mono ?_
      rintro e w3 ⟨rfl, hb3⟩
      have HB3 := Lib.hid (below3 HB2.out hb3)
      have HX3 := Lib.hid hb3
      clear hb3
      go_wp2_with fail
      refine (K1.out _ HB3.out).mono ?_
      rintro e w4 ⟨rfl, hb4⟩
      have HB4 := Lib.hid (below3 HB3.out hb4)
      have HX4 := Lib.hid (below3 HX3.out hb4)
      clear hb4
      go_wp2_with fail
      refine (K2.out _ HB4.out).mono ?_
      rintro e w5 ⟨rfl, hb5⟩
      have HB5 := Lib.hid (below3 HB4.out hb5)
      have HX5 := Lib.hid (below3 HX4.out hb5)
      obtain ⟨a0, a1, a2, a3, a4, az⟩ := HQ1.out.step HX5.out
      obtain ⟨b0, b1, b2, b3, b4, bz⟩ := HP2.out.step HX5.out
      have HK1 := Lib.hid ((HJ1.out.below HX5.out).more HX5.out.size)
      have HK2 := Lib.hid ((HI2.out.below HX5.out).more HX5.out.size)
      clear hb5
      go_wp2_with fail
      refine (same_true A1 A2 n1 c1 n2 c2 _ _ s2 d2 f2 t2 l2 w5 HK1.out HK2.out (Nat.le_refl _) (Nat.le_refl _) (by have := HK1.out.len; have := HQL.out; omega)).mono ?_
      rintro e w6 ⟨rfl, hb6⟩
      have HB6 := Lib.hid (below3 HB5.out hb6)
      clear hb6 a0 a1 a2 a3 a4 b0 b1 b2 b3 b4
      go_wp2
      go_ret
      exact ⟨rfl, HB6.out⟩
end Go.Proofs.Ytkgfcekcjehkdaa
