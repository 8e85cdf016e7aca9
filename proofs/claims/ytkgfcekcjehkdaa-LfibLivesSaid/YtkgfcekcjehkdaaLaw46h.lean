/- LfibLives: the walk. -/
import Derived.Test.YtkgfcekcjehkdaaLaw46g
namespace Go.Proofs.Ytkgfcekcjehkdaa
open Go.RowKit

theorem followAll_lives (ts : List TV) (ids : List Int) (at_ : Int) (p : PD) :
    ((followAll ts ids at_ p).2.2 ≠ 0 ∧ (followAll ts ids at_ p).1 = []) ∨
    ((followAll ts ids at_ p).2.2 = 0 ∧ ∃ m : Nat, (followAll ts ids at_ p).1.length = 1 + m ∧ (m = 0 ∨ (m : Int) < p.ttl) ∧ (followAll ts ids at_ p).2.1.ttl = p.ttl - m ∧ (followAll ts ids at_ p).2.1.ls = [] ∧ (followAll ts ids at_ p).2.1.dst = p.dst ∧ (followAll ts ids at_ p).1.getD 0 0 = at_) := by
  unfold followAll
  split
  · exact .inl ⟨by simp, rfl⟩
  · split
    · exact .inl ⟨by simp, rfl⟩
    · exact follow_lives ts ids (mu p) at_.toNat p [at_] (Nat.le_refl _) (by simp)
set_option maxRecDepth 100000 in
set_option maxHeartbeats 4000000 in
theorem lfibLives_walk (v0 : Value) (U : Option Addr) (un uc : Nat) (ids : List Int) (at_ : Int) (v3 : Value) (w : World) (h0 : TabsIn w v0) (hu : Ints w w.heap.size .u32 U un uc ids) (_hwu : ∀ x ∈ ids, (Lit.int .u32 x).wf = true) (_hru : uc * 4 ≤ 140737488351232) (_hat : (Lit.int .i64 at_).wf = true) (h3 : PkIn w v3) :
    Calls Try.prog 8 #[v0, .slice U un uc, .int .i64 at_, v3] w fun e w' => e = .returned (.bool true) ∧ Below w.heap.size w w' := by
  obtain ⟨T, tn, tc, ts, rfl, ht, hlen⟩ := h0
  obtain ⟨p, A, n, c, rfl, hp, hn, hw, hf, httl⟩ := h3
  have hlp := hp.len
  by_cases hg : 40 < tn ∨ 40 < un ∨ 2000 < p.ttl ∨ 1000 < n
  · obtain ⟨src, dst, fl, ttl, ps⟩ := p
    dsimp only at *
    have HB0 := Lib.hid (belowA w (.cells #[.int .u32 src, .int .u32 dst, .int .u32 fl, .int .i64 ttl, .slice A n c] 27))
    obtain ⟨b1, hb1⟩ : ∃ b, decide ((tn : Int) > 40) = b := ⟨_, rfl⟩
    obtain ⟨b2, hb2⟩ : ∃ b, decide ((un : Int) > 40) = b := ⟨_, rfl⟩
    obtain ⟨b3, hb3⟩ : ∃ b, decide (ttl > 2000) = b := ⟨_, rfl⟩
    obtain ⟨b4, hb4⟩ : ∃ b, decide ((n : Int) > 1000) = b := ⟨_, rfl⟩
    have hor : b1 = true ∨ b2 = true ∨ b3 = true ∨ b4 = true := by
      rcases hg with h | h | h | h
      · left; rw [← hb1]; simp; omega
      · right; left; rw [← hb2]; simp; omega
      · right; right; left; rw [← hb3]; simp; omega
      · right; right; right; rw [← hb4]; simp; omega
    clear ht hlen hp hn hw hf httl hlp hu hg
    cases b1
    case true =>
      go_enter Try.func8, Try.ntmps8
      go_wp2_with fail
      refine (awake_any _).mono ?_
      rintro e w1 ⟨rfl, hb⟩
      have HB1 := Lib.hid (below3 HB0.out hb)
      clear hb
      go_wp2
      go_ret
      exact ⟨rfl, HB1.out⟩
    cases b2
    case true =>
      go_enter Try.func8, Try.ntmps8
      go_wp2_with fail
      refine (awake_any _).mono ?_
      rintro e w1 ⟨rfl, hb⟩
      have HB1 := Lib.hid (below3 HB0.out hb)
      clear hb
      go_wp2
      go_ret
      exact ⟨rfl, HB1.out⟩
    cases b3
    case true =>
      go_enter Try.func8, Try.ntmps8
      go_wp2_with fail
      refine (awake_any _).mono ?_
      rintro e w1 ⟨rfl, hb⟩
      have HB1 := Lib.hid (below3 HB0.out hb)
      clear hb
      go_wp2
      go_ret
      exact ⟨rfl, HB1.out⟩
    obtain rfl : b4 = true := by simpa using hor
    go_enter Try.func8, Try.ntmps8
    go_wp2_with fail
    refine (awake_any _).mono ?_
    rintro e w1 ⟨rfl, hb⟩
    have HB1 := Lib.hid (below3 HB0.out hb)
    clear hb
    go_wp2
    go_ret
    exact ⟨rfl, HB1.out⟩
  have htn : tn ≤ 40 := by omega
  have hun : un ≤ 40 := by omega
  have hn1 : n ≤ 1000 := by omega
  have ht2 : -9223372036854775808 ≤ p.ttl ∧ p.ttl ≤ 2000 := by omega
  have c1 : decide ((tn : Int) > 40) = false := by simp; omega
  have c2 : decide ((un : Int) > 40) = false := by simp; omega
  have c3 : decide (p.ttl > 2000) = false := by simp; omega
  have c4 : decide ((n : Int) > 1000) = false := by simp; omega
  have F1 : Hid (∀ W, Below w.heap.size w W → Calls Try.prog 19 #[.slice T tn tc, .slice U un uc, .int .i64 at_, .agg #[.int .u32 p.src, .int .u32 p.dst, .int .u32 p.flow, .int .i64 p.ttl, .slice A n c]] W (GivesF (followAll ts ids at_ p) W)) :=
    fun W h => follow_any T U A tn tc un uc n c ts ids at_ p W ((ht.below h).more h.size) htn hlen ((hu.below h).more h.size) hun ((hp.below h).more h.size) hn1 hw hf ht2
  have hlv := followAll_lives ts ids at_ p
  have hmu : mu p ≤ 3000 := by unfold mu; rw [hlp]; omega
  have hsm := (followAll_small ts ids at_ p).1
  obtain ⟨⟨ws, q, x⟩, hq⟩ : ∃ q, followAll ts ids at_ p = q := ⟨_, rfl⟩
  rw [hq] at F1 hlv hsm
  obtain ⟨src, dst, fl, ttl, ps⟩ := p
  obtain ⟨s2, d2, f2, t2, l2⟩ := q
  dsimp only at *
  have HLV := Lib.hid hlv
  have HSW : Hid (ws.length ≤ 3001) := by show _ ≤ _; omega
  have HT2 := Lib.hid ht2
  clear ht hlen hp hn hw hf httl hq hsm hmu hu htn hun hn1 ht2 hlp hg hlv
  have HB0 := Lib.hid (belowA w (.cells #[.int .u32 src, .int .u32 dst, .int .u32 fl, .int .i64 ttl, .slice A n c] 27))
  go_enter Try.func8, Try.ntmps8
  go_upto_region 3 with fail
  go_cut [9, 10, 11] (fun s t u wx => AL (ws, ⟨s2, d2, f2, t2, l2⟩, x) (w.alloc (.cells #[.int .u32 src, .int .u32 dst, .int .u32 fl, .int .i64 ttl, .slice A n c] 27)) s t u wx)
  case first =>
    go_wp2_with fail
    refine (F1.out _ HB0.out).mono ?_
    rintro e w1 ⟨A0, n0, c0, v, rfl, how, ⟨A1, n1, c1', rfl, ho⟩, hb⟩
    have HI := Lib.hid ho.ints
    have HJ := Lib.hid how.ints
    have HB := Lib.hid hb
    clear ho hb how
    go_wp2_with fail
    go_meet
    exact AL.mk' (q := ⟨s2, d2, f2, t2, l2⟩) rfl HJ.out HI.out HB.out
  case rest =>
    obtain ⟨A0, n0, c0, rfl, J1, ⟨N1, A1, n1, c1', rfl, P1, I1, B1⟩, rfl⟩ := hcut
    have HP0 : Hid (PB w.heap.size src dst fl ttl A n c wc) := (PB.new w).step B1
    have HP1 := Lib.hid P1
    have HI1 := Lib.hid I1
    have HJ1 := Lib.hid J1
    have HB1 := Lib.hid (below3 HB0.out B1)
    clear P1 I1 B1 J1
    rcases HLV.out with ⟨hx, hws⟩ | ⟨hx, mv, hm, hm1, hm2, hm3, hm4, hm5⟩
    · subst hws
      obtain rfl : n0 = 0 := by have := HJ1.out.len; simpa using this.symm
      have d1 : (x != 0) = true := by simp [hx]
      clear hx HP0 HP1 HI1 HLV
      go_wp2_with fail
      refine (awake_any _).mono ?_
      rintro e w3 ⟨rfl, hb3⟩
      have HB3 := Lib.hid (below3 HB1.out hb3)
      clear hb3
      go_wp2
      go_ret
      exact ⟨rfl, HB3.out⟩
    subst hx hm3
    obtain rfl : n1 = 0 := by have := HI1.out.len; simpa using this.symm
    have hm : ws.length = 1 + mv := hm
    have hn0 : n0 = 1 + mv := by rw [← hm]; exact HJ1.out.len.symm
    have hm4 : d2 = dst := hm4
    subst hm4
    have hn1 : 1 ≤ n0 := by omega
    have hn2 : n0 ≤ 3001 := by have := HSW.out; omega
    have ht2 : t2 = ttl - ((n0 : Int) - 1) := by
      have : t2 = ttl - mv := hm2
      omega
    have hmv : n0 = 1 ∨ (n0 : Int) - 1 < ttl := by omega
    have HM5 := Lib.hid hm5
    clear hm hm1 hm2 hm5 HLV hn0
    go_wp2_with fail
    refine (awake_any _).mono ?_
    rintro e w3 ⟨rfl, hb3⟩
    obtain ⟨a0, a1, a2, a3, a4, az⟩ := HP0.out.step hb3
    obtain ⟨b0, b1, b2, b3, b4, bz⟩ := HP1.out.step hb3
    have HB3 := Lib.hid (below3 HB1.out hb3)
    obtain ⟨b7, o7, x7, rfl, hb7, g7, hx7⟩ := (HJ1.out.below hb3).cell (j := 0) (by omega)
    have e7 : x7 = at_ := by rw [← hx7.out]; exact HM5.out
    subst e7
    rw [Nat.add_zero] at g7
    have e2 : decide ((n0 : Int) - 1 ≥ 0) = true := by simp; omega
    have e3 : IntKind.i64.wrap (ttl - ((n0 : Int) - 1)) = ttl - ((n0 : Int) - 1) := IntWalk.i64_in _ (by have := HT2.out; omega)
    have e4 : (t2 == ttl - ((n0 : Int) - 1)) = true := by simp [ht2]
    clear hb3 hx7 ht2 HP0 HP1 HI1 HJ1 HM5 HSW HT2
    by_cases h1 : n0 = 1
    · have e5 : ((n0 : Int) - 1 == 0) = true := by simp; omega
      clear h1 hmv
      go_wp2
      go_ret
      exact ⟨rfl, HB3.out⟩
    · have e5 : ((n0 : Int) - 1 == 0) = false := by simp; omega
      have e6 : decide ((n0 : Int) - 1 < ttl) = true := by simp; omega
      clear h1 hmv
      go_wp2
      go_ret
      exact ⟨rfl, HB3.out⟩
end Go.Proofs.Ytkgfcekcjehkdaa
