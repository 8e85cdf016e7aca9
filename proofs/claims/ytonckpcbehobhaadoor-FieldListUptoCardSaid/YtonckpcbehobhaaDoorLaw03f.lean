/- FieldTLVs: the walk. -/
import Derived.Test.YtonckpcbehobhaaDoorSameT
import Derived.Test.YtonckpcbehobhaaDoorBArg
namespace Go.Proofs.YtonckpcbehobhaaDoor
open Go.RowKit

theorem tl_small : ∀ (k : Nat) (l : List Int) (ts : List (Int × List Int)), tl k l = some ts → (∀ t ∈ ts, t.2.length ≤ l.length) ∧ ts.length ≤ l.length
  | 0, l, ts, h => by
    rw [tl] at h
    injection h with h
    subst h
    exact ⟨by simp, by simp⟩
  | k + 1, l, ts, h => by
    rw [tl] at h
    by_cases h0 : l.length = 0
    · rw [if_pos h0] at h
      injection h with h
      subst h
      exact ⟨by simp, by simp⟩
    rw [if_neg h0] at h
    by_cases h1 : l.length < 3
    · rw [if_pos h1] at h; cases h
    rw [if_neg h1] at h
    by_cases h2 : (l.length : Int) - 3 < num l 1 2
    · rw [if_pos h2] at h; cases h
    rw [if_neg h2] at h
    obtain ⟨r, hr, rfl⟩ := Option.map_eq_some_iff.1 h
    have ih := tl_small k _ r hr
    rw [List.length_drop] at ih
    refine ⟨fun t ht => ?_, ?_⟩
    · rcases List.mem_cons.1 ht with rfl | ht
      · show ((l.drop 3).take _).length ≤ _
        rw [List.length_take, List.length_drop]
        omega
      · have := ih.1 t ht
        omega
    · rw [List.length_cons]
      omega
theorem tlR_small (l : List Int) : (∀ t ∈ (tlR l).1, t.2.length ≤ l.length) ∧ (tlR l).1.length ≤ l.length := by
  unfold tlR
  cases h : tl l.length l with
  | none => exact ⟨by simp, by simp⟩
  | some ts => exact tl_small _ _ _ h
theorem putR_small (xs : List Int) (kind : Int) (vs : List Int) : (putR xs kind vs).1.length ≤ xs.length + 3 + vs.length := by
  unfold putR
  split
  · simp
  · split
    · simp
    · simp only [List.length_append, List.length_cons, List.length_nil, pb_len]
      omega
set_option maxRecDepth 100000 in
set_option maxHeartbeats 4000000 in
theorem fieldTLVs_walk (v0 v1 : Value) (w : World) (hb : BytesIn w v0 1048576 ∧ TlvIn w v1 1048576) (henv : Env w) :
    Calls Tryd.prog 8 #[v0, v1] w fun e w' => e = .returned (.bool true) ∧ Below w.heap.size w w' := by
  obtain ⟨⟨A, n, c, xs, rfl, hx, hby, hn⟩, ⟨kind, V, vn, vc, vs, rfl, hv, _, _, hvn⟩⟩ := hb
  have HENV := Lib.hid henv
  have HX := Lib.hid hx
  have HV := Lib.hid hv
  have HBY := Lib.hid hby
  have hxl := hx.len
  have hvl := hv.len
  have hps := putR_small xs kind vs
  have htl := tlR_small xs
  have HB0 := Lib.hid (belowA w (.cells #[.int .i64 kind, .slice V vn vc] 43))
  have P1 : Hid (∀ W, Below w.heap.size w W → Calls Tryd.prog 24 #[.slice A n c, .agg #[.int .i64 kind, .slice V vn vc]] W (GivesPB (putR xs kind vs) W)) := fun W h =>
    putTlv_any A V n c vn vc kind xs vs W ((hx.below h).more h.size) (by omega) ((hv.below h).more h.size)
  have P2 : Hid (∀ W, Below w.heap.size w W → Calls Tryd.prog 25 #[.slice A n c, .agg #[.int .i64 kind, .slice V vn vc]] W (GivesPB (putR xs kind vs) W)) := fun W h =>
    refPutTlv_any A V n c vn vc kind xs vs W ((hx.below h).more h.size) (by omega) ((hv.below h).more h.size)
  have T1 : Hid (∀ W, Below w.heap.size w W → Calls Tryd.prog 26 #[.slice A n c] W (GivesTL (tlR xs) W)) := fun W h =>
    tlvs_any A n c xs W ((hx.below h).more h.size) hby (by omega)
  have T2' : Hid (∀ W, Below w.heap.size w W → Calls Tryd.prog 27 #[.slice A n c] W (GivesTL (tlR xs) W)) := fun W h =>
    refTlvs_any A n c xs W ((hx.below h).more h.size) hby (by omega)
  obtain ⟨⟨pl, pe⟩, hp⟩ : ∃ g, putR xs kind vs = g := ⟨_, rfl⟩
  obtain ⟨⟨ts, te⟩, ht⟩ : ∃ g, tlR xs = g := ⟨_, rfl⟩
  rw [hp] at P1 P2 hps
  rw [ht] at T1 T2' htl
  have HPS : Hid (pl.length ≤ 3000000) := by
    dsimp only at hps
    show _ ≤ _
    omega
  have HTL : Hid ((∀ t ∈ ts, t.2.length ≤ 1048576) ∧ ts.length ≤ 1048576) := by
    refine ⟨fun t h => ?_, ?_⟩
    · have := htl.1 t h; omega
    · have := htl.2; dsimp only at this; omega
  clear hx hv hby hxl hvl hps htl hp ht henv
  go_enter Tryd.func8, Tryd.ntmps8
  go_wp2_with fail
  refine (P1.out _ HB0.out).mono ?_
  rintro e w1 ⟨A1, n1, c1, rfl, ho1, hb1⟩
  have HI1 := Lib.hid ho1.ints
  have q0 : w1.cell? ⟨w.heap.size, 0, none⟩ = some (.int .i64 kind) := (hb1.cell (p := ⟨w.heap.size, 0, none⟩) (by simp)).trans (by go_simp)
  have q1 : w1.cell? ⟨w.heap.size, 1, none⟩ = some (.slice V vn vc) := (hb1.cell (p := ⟨w.heap.size, 1, none⟩) (by simp)).trans (by go_simp)
  have HB1 := Lib.hid (below3 HB0.out hb1)
  clear ho1 hb1
  go_wp2_with fail
  refine (P2.out _ HB1.out).mono ?_
  rintro e w2 ⟨A2, n2, c2, rfl, ho2, hb2⟩
  have HI2 := Lib.hid ho2.ints
  have HI1' := Lib.hid ((HI1.out.below hb2).more hb2.size)
  have HB2 := Lib.hid (below3 HB1.out hb2)
  clear ho2 hb2 q0 q1
  go_wp2_with fail
  refine (T1.out _ HB2.out).mono ?_
  rintro e w3 ⟨A3, n3, c3, rfl, ht3, hb3⟩
  have HT3 := Lib.hid ht3
  have HB3 := Lib.hid (below3 HB2.out hb3)
  have HI1'' := Lib.hid ((HI1'.out.below hb3).more hb3.size)
  have HI2' := Lib.hid ((HI2.out.below hb3).more hb3.size)
  clear ht3 hb3
  go_wp2_with fail
  refine (T2'.out _ HB3.out).mono ?_
  rintro e w4 ⟨A4, n4, c4, rfl, ht4, hb4⟩
  have HT4 := Lib.hid ht4
  have HT3' := Lib.hid ((HT3.out.below hb4).more hb4.size)
  have HB4 := Lib.hid (below3 HB3.out hb4)
  have HI1a := Lib.hid ((HI1''.out.below hb4).more hb4.size)
  have HI2a := Lib.hid ((HI2'.out.below hb4).more hb4.size)
  clear ht4 hb4 HI1 HI2 HI1' HI1'' HI2'
  go_wp2_with fail
  refine (awake_any _ (HENV.out.below HB4.out)).mono ?_
  rintro e w5 ⟨rfl, hb5⟩
  have HB5 := Lib.hid (below3 HB4.out hb5)
  have HI1b := Lib.hid ((HI1a.out.below hb5).more hb5.size)
  have HI2b := Lib.hid ((HI2a.out.below hb5).more hb5.size)
  have HT3b := Lib.hid ((HT3'.out.below hb5).more hb5.size)
  have HT4b := Lib.hid ((HT4.out.below hb5).more hb5.size)
  clear hb5 HI1a HI2a HT3' HT4 HT3
  go_wp2_with fail
  refine (sameBytes_any A1 A2 n1 c1 n2 c2 _ _ pl pl w5 HI1b.out HI2b.out (by have h1 : pl.length = n1 := HI1b.out.len; have := HPS.out; omega) (by have h1 : pl.length = n2 := HI2b.out.len; have := HPS.out; omega)).mono ?_
  rintro e w6 ⟨rfl, rfl⟩
  rw [decide_eq_true rfl]
  go_wp2_with fail
  refine (same_true A3 A4 n3 c3 n4 c4 _ _ ts w5 HT3b.out HT4b.out (Nat.le_refl _) (Nat.le_refl _) (by have h1 : ts.length = n3 := HT3b.out.len; have := HTL.out.2; omega) (fun t h => by have := HTL.out.1 t h; omega)).mono ?_
  rintro e w6 ⟨rfl, hb6⟩
  have HB6 := Lib.hid (below3 HB5.out hb6)
  clear hb6
  go_wp2
  go_ret
  exact ⟨by simp, HB6.out⟩
end Go.Proofs.YtonckpcbehobhaaDoor
