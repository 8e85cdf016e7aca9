/- LfibFollows: the walk. -/
import Derived.Test.YtkgfcekcjehkdaaRefFollow
import Derived.Test.YtkgfcekcjehkdaaOpenTabs
namespace Go.Proofs.Ytkgfcekcjehkdaa
open Go.RowKit

theorem follow_small (ts : List TV) (ids : List Int) : ∀ (k a : Nat) (p : PD) (way : List Int), (follow ts ids k a p way).1.length ≤ way.length + k ∧ (follow ts ids k a p way).2.1.ls.length ≤ p.ls.length
  | 0, a, p, way => ⟨by simp [follow], by simp [follow]⟩
  | k + 1, a, p, way => by
    rw [follow]
    by_cases h0 : p.ls.length = 0
    · rw [if_pos h0]; exact ⟨by simp, Nat.le_refl _⟩
    rw [if_neg h0]
    by_cases h1 : (fwd (esAt ts a) p).2.2 = 0
    case neg => rw [if_pos h1]; exact ⟨by simp, by simp [zeroPD]⟩
    rw [if_neg (by simp [h1])]
    have hl := fwd_len (esAt ts a) p
    obtain ⟨⟨q, r, e⟩, hq⟩ : ∃ q, fwd (esAt ts a) p = q := ⟨_, rfl⟩
    rw [hq] at hl ⊢
    dsimp only at hl ⊢
    by_cases h2 : r = 0
    · rw [if_pos h2]
      have := follow_small ts ids k a q way
      exact ⟨by omega, by omega⟩
    · rw [if_neg h2]
      by_cases h3 : idx ids r < 0
      · rw [if_pos h3]; exact ⟨by simp, by simp [zeroPD]⟩
      · rw [if_neg h3]
        have := follow_small ts ids k (idx ids r).toNat q (way ++ [idx ids r])
        rw [List.length_append, List.length_singleton] at this
        exact ⟨by omega, by omega⟩
theorem followAll_small (ts : List TV) (ids : List Int) (at_ : Int) (p : PD) : (followAll ts ids at_ p).1.length ≤ 1 + mu p ∧ (followAll ts ids at_ p).2.1.ls.length ≤ p.ls.length := by
  unfold followAll
  split
  · exact ⟨by simp, by simp [zeroPD]⟩
  · split
    · exact ⟨by simp, by simp [zeroPD]⟩
    · exact follow_small ts ids _ _ p _
/-- what Follow leaves in a statement of a law -/
def AL (q : List Int × PD × Int) (W : World) (s t u : Value) (wx : World) : Prop :=
  ∃ A n c, s = .slice A n c ∧ Ints wx wx.heap.size .i64 A n c q.1 ∧ AW q.2.1 W t wx ∧ u = .int .i64 q.2.2
theorem AL.mk' {l : List Int} {q : PD} {x : Int} {W V : World} {A B : Option Addr} {n c m d N : Nat} {T : TypeId} (hN : N = V.heap.size) (hi : Ints V V.heap.size .i64 A n c l) (hj : Ints V V.heap.size .i64 B m d q.ls) (hb : Below W.heap.size W V) :
    AL (l, q, x) W (.slice A n c) (.pointer (some ⟨N, 0, none⟩)) (.int .i64 x) (V.alloc (.cells #[.int .u32 q.src, .int .u32 q.dst, .int .u32 q.flow, .int .i64 q.ttl, .slice B m d] T)) :=
  ⟨A, n, c, rfl, (hi.below (belowA _ _)).more (belowA _ _).size, AW.mk hN hj hb, rfl⟩
set_option maxRecDepth 100000 in
set_option maxHeartbeats 4000000 in
theorem lfibFollows_walk (v0 : Value) (U : Option Addr) (un uc : Nat) (ids : List Int) (at_ : Int) (v3 : Value) (w : World) (h0 : TabsIn w v0) (hu : Ints w w.heap.size .u32 U un uc ids) (_hwu : ∀ x ∈ ids, (Lit.int .u32 x).wf = true) (_hru : uc * 4 ≤ 140737488351232) (_hat : (Lit.int .i64 at_).wf = true) (h3 : PkIn w v3) :
    Calls Try.prog 7 #[v0, .slice U un uc, .int .i64 at_, v3] w fun e w' => e = .returned (.bool true) ∧ Below w.heap.size w w' := by
  obtain ⟨T, tn, tc, ts, rfl, ht, hlen⟩ := h0
  obtain ⟨p, A, n, c, rfl, hp, hn, hw, hf, httl⟩ := h3
  have hlp := hp.len
  by_cases hg : 40 < tn ∨ 40 < un ∨ 2000 < p.ttl ∨ 1000 < n
  · obtain ⟨src, dst, fl, ttl, ps⟩ := p
    dsimp only at *
    have HB0 := Lib.hid (belowA w (.cells #[.int .u32 src, .int .u32 dst, .int .u32 fl, .int .i64 ttl, .slice A n c] 27))
    obtain ⟨b1, hb1⟩ : ∃ b, decide ((tn : Int) > 40) = b := ⟨_, rfl⟩
    obtain ⟨b2, hb2⟩ : ∃ b, decide ((un : Int) > 40) = b := ⟨_, rfl⟩
    obtain ⟨b3, hb3⟩ : ∃ b, decide (ttl > 2000) = b := ⟨_, rfl⟩
    obtain ⟨b4, hb4⟩ : ∃ b, decide ((n : Int) > 1000) = b := ⟨_, rfl⟩
    have hor : b1 = true ∨ b2 = true ∨ b3 = true ∨ b4 = true := by
      rcases hg with h | h | h | h
      · left; rw [← hb1]; simp; omega
      · right; left; rw [← hb2]; simp; omega
      · right; right; left; rw [← hb3]; simp; omega
      · right; right; right; rw [← hb4]; simp; omega
    clear ht hlen hp hn hw hf httl hlp hu hg
    cases b1
    case true =>
      go_enter Try.func7, Try.ntmps7
      go_wp2_with fail
      refine (awake_any _).mono ?_
      rintro e w1 ⟨rfl, hb⟩
      have HB1 := Lib.hid (below3 HB0.out hb)
      clear hb
      go_wp2
      go_ret
      exact ⟨rfl, HB1.out⟩
    cases b2
    case true =>
      go_enter Try.func7, Try.ntmps7
      go_wp2_with fail
      refine (awake_any _).mono ?_
      rintro e w1 ⟨rfl, hb⟩
      have HB1 := Lib.hid (below3 HB0.out hb)
      clear hb
      go_wp2
      go_ret
      exact ⟨rfl, HB1.out⟩
    cases b3
    case true =>
      go_enter Try.func7, Try.ntmps7
      go_wp2_with fail
      refine (awake_any _).mono ?_
      rintro e w1 ⟨rfl, hb⟩
      have HB1 := Lib.hid (below3 HB0.out hb)
      clear hb
      go_wp2
      go_ret
      exact ⟨rfl, HB1.out⟩
    obtain rfl : b4 = true := by simpa using hor
    go_enter Try.func7, Try.ntmps7
    go_wp2_with fail
    refine (awake_any _).mono ?_
    rintro e w1 ⟨rfl, hb⟩
    have HB1 := Lib.hid (below3 HB0.out hb)
    clear hb
    go_wp2
    go_ret
    exact ⟨rfl, HB1.out⟩
  have htn : tn ≤ 40 := by omega
  have hun : un ≤ 40 := by omega
  have hn1 : n ≤ 1000 := by omega
  have ht2 : -9223372036854775808 ≤ p.ttl ∧ p.ttl ≤ 2000 := by omega
  have c1 : decide ((tn : Int) > 40) = false := by simp; omega
  have c2 : decide ((un : Int) > 40) = false := by simp; omega
  have c3 : decide (p.ttl > 2000) = false := by simp; omega
  have c4 : decide ((n : Int) > 1000) = false := by simp; omega
  have F1 : Hid (∀ W, Below w.heap.size w W → Calls Try.prog 19 #[.slice T tn tc, .slice U un uc, .int .i64 at_, .agg #[.int .u32 p.src, .int .u32 p.dst, .int .u32 p.flow, .int .i64 p.ttl, .slice A n c]] W (GivesF (followAll ts ids at_ p) W)) :=
    fun W h => follow_any T U A tn tc un uc n c ts ids at_ p W ((ht.below h).more h.size) htn hlen ((hu.below h).more h.size) hun ((hp.below h).more h.size) hn1 hw hf ht2
  have F2 : Hid (∀ W, Below w.heap.size w W → Calls Try.prog 20 #[.slice T tn tc, .slice U un uc, .int .i64 at_, .agg #[.int .u32 p.src, .int .u32 p.dst, .int .u32 p.flow, .int .i64 p.ttl, .slice A n c]] W (GivesF (followAll ts ids at_ p) W)) :=
    fun W h => refFollow_any T U A tn tc un uc n c ts ids at_ p W ((ht.below h).more h.size) htn hlen ((hu.below h).more h.size) hun ((hp.below h).more h.size) hn1 hw hf ht2
  have hsm := followAll_small ts ids at_ p
  have hmu : mu p ≤ 3000 := by unfold mu; rw [hlp]; omega
  obtain ⟨⟨ws, q, x⟩, hq⟩ : ∃ q, followAll ts ids at_ p = q := ⟨_, rfl⟩
  rw [hq] at F1 F2 hsm
  obtain ⟨src, dst, fl, ttl, ps⟩ := p
  obtain ⟨s2, d2, f2, t2, l2⟩ := q
  dsimp only at *
  have HSW : Hid (ws.length ≤ 3001 ∧ l2.length ≤ 1000) := by show _ ∧ _; omega
  clear ht hlen hp hn hw hf httl hq hsm hmu hu htn hun hn1 ht2 hlp hg
  have HB0 := Lib.hid (belowA w (.cells #[.int .u32 src, .int .u32 dst, .int .u32 fl, .int .i64 ttl, .slice A n c] 27))
  go_enter Try.func7, Try.ntmps7
  go_upto_region 3 with fail
  go_cut [9, 10, 11] (fun s t u wx => AL (ws, ⟨s2, d2, f2, t2, l2⟩, x) (w.alloc (.cells #[.int .u32 src, .int .u32 dst, .int .u32 fl, .int .i64 ttl, .slice A n c] 27)) s t u wx)
  case first =>
    go_wp2_with fail
    refine (F1.out _ HB0.out).mono ?_
    rintro e w1 ⟨A0, n0, c0, v, rfl, how, ⟨A1, n1, c1', rfl, ho⟩, hb⟩
    have HI := Lib.hid ho.ints
    have HJ := Lib.hid how.ints
    have HB := Lib.hid hb
    clear ho hb how
    go_wp2_with fail
    go_meet
    exact AL.mk' (q := ⟨s2, d2, f2, t2, l2⟩) rfl HJ.out HI.out HB.out
  case rest =>
    obtain ⟨A0, n0, c0, rfl, J1, ⟨N1, A1, n1, c1', rfl, P1, I1, B1⟩, rfl⟩ := hcut
    have HP0 : Hid (PB w.heap.size src dst fl ttl A n c wc) := (PB.new w).step B1
    have HP1 := Lib.hid P1
    have HI1 := Lib.hid I1
    have HJ1 := Lib.hid J1
    have HB1 := Lib.hid (below3 HB0.out B1)
    clear P1 I1 B1 J1
    obtain ⟨W1, hW1⟩ : ∃ W1, W1 = wc := ⟨_, rfl⟩
    subst hW1
    go_upto_region 4 with fail
    go_cut [12, 13, 14] (fun s t u wx => AL (ws, ⟨s2, d2, f2, t2, l2⟩, x) W1 s t u wx)
    case first =>
      obtain ⟨p0, p1, p2, p3, p4, hz⟩ := HP0.out
      go_wp2_with fail
      refine (F2.out _ HB1.out).mono ?_
      rintro e w1 ⟨A3, n3, c3, v, rfl, how, ⟨A2, n2, c2, rfl, ho⟩, hb⟩
      have HI := Lib.hid ho.ints
      have HJ := Lib.hid how.ints
      have HB := Lib.hid hb
      clear ho hb how p0 p1 p2 p3 p4 hz
      go_wp2_with fail
      go_meet
      exact AL.mk' (q := ⟨s2, d2, f2, t2, l2⟩) rfl HJ.out HI.out HB.out
    case rest =>
      obtain ⟨A3, n3, c3, rfl, J2, ⟨N2, A2, n2, c2, rfl, P2, I2, B2⟩, rfl⟩ := hcut
      have HP2 := Lib.hid P2
      have HI2 := Lib.hid I2
      have HJ2 := Lib.hid J2
      have HQ1 := Lib.hid (HP1.out.step B2)
      have HK1 := Lib.hid ((HI1.out.below B2).more B2.size)
      have HL1 := Lib.hid ((HJ1.out.below B2).more B2.size)
      have HB2 := Lib.hid (below3 HB1.out B2)
      clear P2 I2 B2 J2 HP0 HP1 HI1 HB1 HJ1
      go_wp2_with fail
      refine (awake_any _).mono ?_
      rintro e w3 ⟨rfl, hb3⟩
      obtain ⟨a0, a1, a2, a3, a4, az⟩ := HQ1.out.step hb3
      obtain ⟨b0, b1, b2, b3, b4, bz⟩ := HP2.out.step hb3
      have HB3 := Lib.hid (below3 HB2.out hb3)
      have HK1' := Lib.hid ((HK1.out.below hb3).more hb3.size)
      have HK2' := Lib.hid ((HI2.out.below hb3).more hb3.size)
      have HL1' := Lib.hid ((HL1.out.below hb3).more hb3.size)
      have HL2' := Lib.hid ((HJ2.out.below hb3).more hb3.size)
      clear hb3
      go_wp2_with fail
      refine (sameInts_any A0 A3 n0 c0 n3 c3 _ _ ws ws w3 HL1'.out HL2'.out (by have h1 : ws.length = n0 := HL1'.out.len; have := HSW.out; omega) (by have h1 : ws.length = n3 := HL2'.out.len; have := HSW.out; omega)).mono ?_
      rintro e w4 ⟨rfl, rfl⟩
      rw [show decide (ws = ws) = true by simp]
      go_wp2_with fail
      refine (same_true A1 A2 n1 c1' n2 c2 _ _ s2 d2 f2 t2 l2 w3 HK1'.out HK2'.out (Nat.le_refl _) (Nat.le_refl _) (by have h1 : l2.length = n1 := HK1'.out.len; have := HSW.out; omega)).mono ?_
      rintro e w5 ⟨rfl, hb4⟩
      have HB4 := Lib.hid (below3 HB3.out hb4)
      clear hb4 a0 a1 a2 a3 a4 b0 b1 b2 b3 b4
      go_wp2
      go_ret
      exact ⟨rfl, HB4.out⟩
end Go.Proofs.Ytkgfcekcjehkdaa
