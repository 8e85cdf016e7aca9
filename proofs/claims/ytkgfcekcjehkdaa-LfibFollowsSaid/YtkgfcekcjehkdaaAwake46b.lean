/- The laws' function 'awake' of chapter 46 returns true. -/
import Derived.Test.YtkgfcekcjehkdaaAwake46
import Derived.Deep.DeepCutAuto
namespace Go.Proofs.Ytkgfcekcjehkdaa
open Go.RowKit

/-- what Forward leaves, with the result's packet known -/
theorem fwd_known (T A : Option Addr) (tn tc n c : Nat) (es : List EV) (p q : PD) (r x : Int) (w : World) (he : fwd es p = (q, r, x)) (ht : Tab w w.heap.size T tn tc es) (hlen : ∀ e ∈ es, e.n ≤ 140737488355328) (htn : tn ≤ 140737488355328) (hp : Ints w w.heap.size .i64 A n c p.ls) (hn : n ≤ 17592186044416)
    (hw : ∀ x ∈ p.ls, -9223372036854775808 ≤ x ∧ x ≤ 9223372036854775807) (hf : 0 ≤ p.flow ∧ p.flow < 4294967296) (httl : -9223372036854775808 ≤ p.ttl ∧ p.ttl ≤ 9223372036854775807) :
    Calls Try.prog 15 #[.slice T tn tc, .agg #[.int .u32 p.src, .int .u32 p.dst, .int .u32 p.flow, .int .i64 p.ttl, .slice A n c]] w fun e w' => ∃ A' n' c', e = .returned (.tuple #[.agg #[.int .u32 q.src, .int .u32 q.dst, .int .u32 q.flow, .int .i64 q.ttl, .slice A' n' c'], .int .u32 r, .int .i64 x]) ∧ Ints w' w'.heap.size .i64 A' n' c' q.ls ∧ Below w.heap.size w w' := by
  refine (forward_any T A tn tc n c es p w ht hlen htn hp hn hw hf httl).mono ?_
  rintro e w' ⟨v, he', ⟨A', n', c', rfl, ho⟩, hb⟩
  rw [he] at he' ho
  exact ⟨A', n', c', he', ho.ints, hb⟩

/-- a packet's variable, and what has been laid since W -/
def AW (q : PD) (W : World) (s : Value) (wx : World) : Prop := ∃ N A n c, s = .pointer (some ⟨N, 0, none⟩) ∧ PB N q.src q.dst q.flow q.ttl A n c wx ∧ Ints wx wx.heap.size .i64 A n c q.ls ∧ Below W.heap.size W wx
/-- .. with a router and an error -/
def AW3 (q : PD) (r x : Int) (W : World) (s t u : Value) (wx : World) : Prop := AW q W s wx ∧ t = .int .u32 r ∧ u = .int .i64 x
def AW2 (q : PD) (x : Int) (W : World) (s u : Value) (wx : World) : Prop := AW q W s wx ∧ u = .int .i64 x
theorem AW.mk {q : PD} {W V : World} {A : Option Addr} {n c N : Nat} {T : TypeId} (hN : N = V.heap.size) (hi : Ints V V.heap.size .i64 A n c q.ls) (hb : Below W.heap.size W V) :
    AW q W (.pointer (some ⟨N, 0, none⟩)) (V.alloc (.cells #[.int .u32 q.src, .int .u32 q.dst, .int .u32 q.flow, .int .i64 q.ttl, .slice A n c] T)) := by
  subst hN
  exact ⟨_, A, n, c, rfl, PB.new V, (hi.below (belowA _ _)).more (belowA _ _).size, below3 hb (belowA _ _)⟩
theorem i2 {x y : Int} (hx : -9223372036854775808 ≤ x ∧ x ≤ 9223372036854775807) (hy : -9223372036854775808 ≤ y ∧ y ≤ 9223372036854775807) : ∀ z ∈ ([x, y] : List Int), -9223372036854775808 ≤ z ∧ z ≤ 9223372036854775807 := by
  intro z hz
  simp only [List.mem_cons, List.not_mem_nil, or_false] at hz
  rcases hz with rfl | rfl
  · exact hx
  · exact hy
theorem one_short (x : Int) (A : Option Addr) (n : Nat) (hs : List HV) (hn : n ≤ 64) : ∀ e ∈ ([⟨x, A, n, n, hs⟩] : List EV), e.n ≤ 140737488355328 := by
  intro e he
  simp only [List.mem_cons, List.not_mem_nil, or_false] at he
  subst he
  show n ≤ _
  omega
theorem ints_litN (V : World) (N : Nat) (hN : N = V.heap.size) (n : Nat) (xs : List Int) (hn : xs.length = n) (hm : n ≤ maxLen) : Ints (V.alloc (.cells (xs.map (Value.int .i64)).toArray 3)) (N + 1) .i64 (some ⟨N, 0, none⟩) n n xs := by
  subst hN
  exact ints_lit V 3 .i64 n xs hn hm _ (by omega)
set_option maxRecDepth 100000 in
set_option maxHeartbeats 4000000 in
theorem awake_any (w : World) : Calls Try.prog 11 #[] w fun e w' => e = .returned (.bool true) ∧ Below w.heap.size w w' := by
  have HW16 := Lib.hid (i2 (x := 99) (y := 16) (by omega) (by omega))
  go_enter Try.func11, Try.ntmps11
  go_upto_region 1 with fail
  go_cut [1] (fun s wx => AW ⟨0, 0, 0, 5, [99, 16]⟩ w s wx)
  case first =>
    have HI0 := Lib.hid (ints_lit w 3 .i64 2 [99, 16] rfl (by simp [maxLen]) (w.heap.size + 1) (by simp))
    go_wp2_with fail
    go_meet
    exact AW.mk (q := ⟨0, 0, 0, 5, [99, 16]⟩) (V := w.alloc (.cells #[.int .i64 99, .int .i64 16] 3)) (by simp) (by simpa using HI0.out) (belowA _ _)
  case rest =>
    obtain ⟨N0, A0, n0, c0, rfl, P0, I0, B0⟩ := hcut
    have HP0 := Lib.hid P0
    have HI0 := Lib.hid I0
    have HB0 := Lib.hid B0
    have hn0 : n0 = 2 := by have := I0.len; simpa using this.symm
    subst hn0
    clear P0 I0 B0
    obtain ⟨W0, hW0⟩ : ∃ W0, W0 = wc := ⟨_, rfl⟩
    subst hW0
    go_upto_region 2 with fail
    go_cut [2, 3, 4] (fun s t u wx => AW3 ⟨0, 0, 0, 4, [99, 30]⟩ 2 0 W0 s t u wx)
    case first =>
      obtain ⟨p0, p1, p2, p3, p4, hz⟩ := HP0.out
      go_wp2_with fail
      refine (fwd_known _ _ 1 1 2 c0 _ ⟨0, 0, 0, 5, [99, 16]⟩ _ _ _ _ (fwd_a _) (tab_lit W0 W0.heap.size W0.heap.size 2 30 16 rfl) (one_short _ _ _ _ (by omega)) (by omega) ((HI0.out.below (below3 (belowA _ _) (belowA _ _))).more (below3 (belowA _ _) (belowA _ _)).size) (by omega) HW16.out (by simp) (by simp)).mono ?_
      rintro e w1 ⟨A1, n1, c1, rfl, hi1, hb1⟩
      have HI1 := Lib.hid hi1
      have HB1 : Hid (Below W0.heap.size W0 w1) := below3 (below3 (belowA _ _) (belowA _ _)) hb1
      clear hi1 hb1 p0 p1 p2 p3 p4 hz
      go_wp2_with fail
      go_meet
      exact ⟨AW.mk (q := ⟨0, 0, 0, 4, [99, 30]⟩) rfl HI1.out HB1.out, rfl, rfl⟩
    case rest =>
      obtain ⟨⟨N1, A1, n1, c1, rfl, P1, I1, B1⟩, rfl, rfl⟩ := hcut
      have hn1 : n1 = 2 := by have := I1.len; simpa using this.symm
      subst hn1
      have HP1 := Lib.hid P1
      have HI1 := Lib.hid I1
      have HB1 : Hid (Below w.heap.size w wc) := below3 HB0.out B1
      have HQ0 := Lib.hid (HP0.out.step B1)
      have HJ0 := Lib.hid ((HI0.out.below B1).more B1.size)
      clear P1 I1 B1 HP0 HI0 HB0
      obtain ⟨W1, hW1⟩ : ∃ W1, W1 = wc := ⟨_, rfl⟩
      subst hW1
      go_upto_region 3 with fail
      go_cut [5, 6, 7] (fun s t u wx => AW3 ⟨0, 0, 0, 4, [99]⟩ 2 0 W1 s t u wx)
      case first =>
        obtain ⟨p0, p1, p2, p3, p4, hz⟩ := HQ0.out
        go_wp2_with fail
        refine (fwd_known _ _ 1 1 2 c0 _ ⟨0, 0, 0, 5, [99, 16]⟩ _ _ _ _ (fwd_b _) (tab_lit W1 W1.heap.size W1.heap.size 2 (-1) 16 rfl) (one_short _ _ _ _ (by omega)) (by omega) ((HJ0.out.below (below3 (belowA _ _) (belowA _ _))).more (below3 (belowA _ _) (belowA _ _)).size) (by omega) HW16.out (by simp) (by simp)).mono ?_
        rintro e w1 ⟨A2, n2, c2, rfl, hi1, hb1⟩
        have HI2 := Lib.hid hi1
        have HB2 : Hid (Below W1.heap.size W1 w1) := below3 (below3 (belowA _ _) (belowA _ _)) hb1
        clear hi1 hb1 p0 p1 p2 p3 p4 hz
        go_wp2_with fail
        go_meet
        exact ⟨AW.mk (q := ⟨0, 0, 0, 4, [99]⟩) rfl HI2.out HB2.out, rfl, rfl⟩
      case rest =>
        obtain ⟨⟨N2, A2, n2, c2, rfl, P2, I2, B2⟩, rfl, rfl⟩ := hcut
        have hn2 : n2 = 1 := by have := I2.len; simpa using this.symm
        subst hn2
        have HP2 := Lib.hid P2
        have HI2 := Lib.hid I2
        have HB2 : Hid (Below w.heap.size w wc) := below3 HB1.out B2
        have HR0 := Lib.hid (HQ0.out.step B2)
        have HK0 := Lib.hid ((HJ0.out.below B2).more B2.size)
        have HQ1 := Lib.hid (HP1.out.step B2)
        have HJ1 := Lib.hid ((HI1.out.below B2).more B2.size)
        clear P2 I2 B2 HP1 HI1 HB1 HQ0 HJ0
        obtain ⟨W2, hW2⟩ : ∃ W2, W2 = wc := ⟨_, rfl⟩
        subst hW2
        go_upto_region 4 with fail
        go_cut [8, 9, 10] (fun s t u wx => AW3 ⟨0, 0, 0, 5, [99]⟩ 0 0 W2 s t u wx)
        case first =>
          obtain ⟨p0, p1, p2, p3, p4, hz⟩ := HR0.out
          go_wp2_with fail
          refine (fwd_known _ _ 1 1 2 c0 _ ⟨0, 0, 0, 5, [99, 16]⟩ _ _ _ _ fwd_c (tab_nil W2 W2.heap.size 16 rfl) (one_short _ _ _ _ (by omega)) (by omega) ((HK0.out.below (belowA _ _)).more (belowA _ _).size) (by omega) HW16.out (by simp) (by simp)).mono ?_
          rintro e w1 ⟨A3, n3, c3, rfl, hi1, hb1⟩
          have HI3 := Lib.hid hi1
          have HB3 : Hid (Below W2.heap.size W2 w1) := below3 (belowA _ _) hb1
          clear hi1 hb1 p0 p1 p2 p3 p4 hz
          go_wp2_with fail
          go_meet
          exact ⟨AW.mk (q := ⟨0, 0, 0, 5, [99]⟩) rfl HI3.out HB3.out, rfl, rfl⟩
        case rest =>
          obtain ⟨⟨N3, A3, n3, c3, rfl, P3, I3, B3⟩, rfl, rfl⟩ := hcut
          have hn3 : n3 = 1 := by have := I3.len; simpa using this.symm
          subst hn3
          have HP3 := Lib.hid P3
          have HI3 := Lib.hid I3
          have HB3 : Hid (Below w.heap.size w wc) := below3 HB2.out B3
          have HR1 := Lib.hid (HQ1.out.step B3)
          have HK1 := Lib.hid ((HJ1.out.below B3).more B3.size)
          have HQ2 := Lib.hid (HP2.out.step B3)
          have HJ2 := Lib.hid ((HI2.out.below B3).more B3.size)
          clear P3 I3 B3 HP2 HI2 HB2 HQ1 HJ1 HR0 HK0
          obtain ⟨W3, hW3⟩ : ∃ W3, W3 = wc := ⟨_, rfl⟩
          subst hW3
          go_upto_region 5 with fail
          go_cut [11, 12] (fun s u wx => AW2 ⟨0, 0, 0, 0, [17, 18]⟩ 0 W3 s u wx)
          case first =>
            have HIL := Lib.hid (ints_lit W3 3 .i64 2 [17, 18] rfl (by simp [maxLen]) (W3.alloc (.cells #[.int .i64 17, .int .i64 18] 3)).heap.size (by simp))
            go_wp2_with fail
            refine (push_any none (some ⟨W3.heap.size, 0, none⟩) 0 0 2 2 zeroPD [17, 18] _ (Ints.nil _ _ _) HIL.out (by omega) (by omega)).mono ?_
            rintro e w1 ⟨v, rfl, ⟨A4, n4, c4, rfl, hi1⟩, hb1⟩
            rw [push_a] at hi1 ⊢
            have HI4 := Lib.hid hi1
            have HB4 : Hid (Below W3.heap.size W3 w1) := below3 (belowA _ _) hb1
            clear hi1 hb1
            go_wp2_with fail
            go_meet
            exact ⟨AW.mk (q := ⟨0, 0, 0, 0, [17, 18]⟩) rfl HI4.out HB4.out, rfl⟩
          case rest =>
            obtain ⟨⟨N4, A4, n4, c4, rfl, P4, I4, B4⟩, rfl⟩ := hcut
            have hn4 : n4 = 2 := by have := I4.len; simpa using this.symm
            subst hn4
            obtain ⟨a0, a1, a2, a3, a4, az⟩ := HR1.out.step B4
            obtain ⟨b0, b1, b2, b3, b4, bz⟩ := HQ2.out.step B4
            obtain ⟨c0', c1', c2', c3', c4', cz⟩ := HP3.out.step B4
            obtain ⟨q0, q1, q2, q3, q4, qz⟩ := P4
            have HM1 := Lib.hid ((HK1.out.below B4).more B4.size)
            have HM2 := Lib.hid ((HJ2.out.below B4).more B4.size)
            have HM3 := Lib.hid ((HI3.out.below B4).more B4.size)
            have HM4 := Lib.hid I4
            have HB4 : Hid (Below w.heap.size w wc) := below3 HB3.out B4
            clear I4 B4 HR1 HQ2 HP3 HK1 HJ2 HI3 HB3
            obtain ⟨W4, hW4⟩ : ∃ W4, W4 = wc := ⟨_, rfl⟩
            subst hW4
            have L1 := Lib.hid (ints_lit W4 3 .i64 2 [99, 30] rfl (by simp [maxLen]) (W4.heap.size + 1) (by omega))
            go_wp2_with fail
            refine (sameInts_any A1 _ 2 c1 2 2 W4.heap.size (W4.heap.size + 1) [99, 30] [99, 30] _ (HM1.out.below (belowA _ _)) L1.out (by omega) (by omega)).mono ?_
            rintro e w1 ⟨rfl, rfl⟩
            rw [show decide (([99, 30] : List Int) = [99, 30]) = true from rfl]
            go_wp2_with fail
            have cz1 : N3 < W4.heap.size + 1 := by omega
            have cz2 : N3 < W4.heap.size + 1 + 1 := by omega
            have qz1 : N4 < W4.heap.size + 1 := by omega
            have qz2 : N4 < W4.heap.size + 1 + 1 := by omega
            have L2 := Lib.hid (ints_litN (W4.alloc (.cells #[.int .i64 99, .int .i64 30] 3)) (W4.heap.size + 1) (by simp) 1 [99] rfl (by simp [maxLen]))
            refine (sameInts_any A2 _ 1 c2 1 1 W4.heap.size (W4.heap.size + 1 + 1) [99] [99] _ (HM2.out.below (below3 (belowA _ _) (belowA _ _))) L2.out (by omega) (by omega)).mono ?_
            rintro e w1 ⟨rfl, rfl⟩
            rw [show decide (([99] : List Int) = [99]) = true from rfl]
            go_wp2_with fail
            have L3 := Lib.hid (ints_litN ((W4.alloc (.cells #[.int .i64 99, .int .i64 30] 3)).alloc (.cells #[.int .i64 99] 3)) (W4.heap.size + 1 + 1) (by simp) 1 [99] rfl (by simp [maxLen]))
            refine (sameInts_any A3 _ 1 c3 1 1 W4.heap.size (W4.heap.size + 1 + 1 + 1) [99] [99] _ (HM3.out.below (below3 (below3 (belowA _ _) (belowA _ _)) (belowA _ _))) L3.out (by omega) (by omega)).mono ?_
            rintro e w1 ⟨rfl, rfl⟩
            rw [show decide (([99] : List Int) = [99]) = true from rfl]
            go_wp2_with fail
            have L4 := Lib.hid (ints_litN (((W4.alloc (.cells #[.int .i64 99, .int .i64 30] 3)).alloc (.cells #[.int .i64 99] 3)).alloc (.cells #[.int .i64 99] 3)) (W4.heap.size + 1 + 1 + 1) (by simp) 2 [17, 18] rfl (by simp [maxLen]))
            refine (sameInts_any A4 _ 2 c4 2 2 W4.heap.size (W4.heap.size + 1 + 1 + 1 + 1) [17, 18] [17, 18] _ (HM4.out.below (below3 (below3 (below3 (belowA _ _) (belowA _ _)) (belowA _ _)) (belowA _ _))) L4.out (by omega) (by omega)).mono ?_
            rintro e w1 ⟨rfl, rfl⟩
            rw [show decide (([17, 18] : List Int) = [17, 18]) = true from rfl]
            have HBF := Lib.hid (below3 HB4.out (below3 (below3 (below3 (belowA W4 (.cells #[.int .i64 99, .int .i64 30] 3)) (belowA _ (.cells #[.int .i64 99] 3))) (belowA _ (.cells #[.int .i64 99] 3))) (belowA _ (.cells #[.int .i64 17, .int .i64 18] 3))))
            go_wp2
            go_ret
            exact ⟨rfl, HBF.out⟩
end Go.Proofs.Ytkgfcekcjehkdaa
