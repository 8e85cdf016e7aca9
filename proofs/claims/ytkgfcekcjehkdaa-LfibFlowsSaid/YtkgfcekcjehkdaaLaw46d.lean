/- LfibFlows: the walk. -/
import Derived.Test.YtkgfcekcjehkdaaLaw46c
namespace Go.Proofs.Ytkgfcekcjehkdaa
open Go.ChangeShapes Go.WideShapes Go.ChangeAt Go.RowKit

set_option maxRecDepth 100000 in
set_option maxHeartbeats 2000000 in
theorem lfibFlows_walk (v0 : Value) (fl : Int) (w : World) (h0 : HopsIn w v0) (hf : (Lit.int .u8 fl).wf = true) :
    Calls Try.prog 6 #[v0, .int .u8 fl] w fun e w' => e = .returned (.bool true) ∧ Below w.heap.size w w' := by
  obtain ⟨A, n, c, hs, rfl, hh, hn⟩ := h0
  have hb := bounds_u8 hf
  have hf0 : 0 ≤ fl := hb.1
  have hf1 : fl ≤ 255 := hb.2
  have HH := Lib.hid hh
  have HHL := Lib.hid hh.len
  have HB0 := Lib.hid (belowA w (.cells #[.int .i64 16, .slice A n c] 43))
  have HT := Lib.hid (tab_one w w.heap.size w.heap.size 16 A n c hs rfl hh (Nat.le_refl _))
  have HSH : Hid (∀ e ∈ ([⟨16, A, n, c, hs⟩] : List EV), e.n ≤ 140737488355328) := by
    intro e he
    simp only [List.mem_cons, List.not_mem_nil, or_false] at he
    subst he
    exact hn
  clear hh hf hb
  by_cases hn0 : n = 0
  · have d0 : ((n : Int) == 0) = true := by simp [hn0]
    clear hn0 hn
    go_enter Try.func6, Try.ntmps6
    go_wp2_with fail
    refine (awake_any _).mono ?_
    rintro e w1 ⟨rfl, hb1⟩
    have HB1 := Lib.hid (below3 HB0.out hb1)
    clear hb1
    go_wp2
    go_ret
    exact ⟨rfl, HB1.out⟩
  have d0 : ((n : Int) == 0) = false := by simp [hn0]
  have HC := Lib.hid (refCheck_any _ 1 1 _ _ _ HT.out (Nat.le_refl _) (by omega) HSH.out)
  by_cases he : tabErr [⟨16, A, n, c, hs⟩] = 0
  case neg =>
    have d1 : (tabErr [⟨16, A, n, c, hs⟩] != 0) = true := by simp [he]
    obtain ⟨te, hte⟩ : ∃ te, tabErr [⟨16, A, n, c, hs⟩] = te := ⟨_, rfl⟩
    rw [hte] at HC d1
    clear he hte hn0 hn
    go_enter Try.func6, Try.ntmps6
    go_wp2_with fail
    refine HC.out.mono ?_
    rintro e w1 ⟨rfl, hb1⟩
    have HB1 := Lib.hid (below3 HB0.out hb1)
    clear hb1
    go_wp2_with fail
    refine (awake_any _).mono ?_
    rintro e w2 ⟨rfl, hb2⟩
    have HB2 := Lib.hid (below3 HB1.out hb2)
    clear hb2
    go_wp2
    go_ret
    exact ⟨rfl, HB2.out⟩
  rw [he] at HC
  have HPL := Lib.hid (flows_plain A n c hs fl he (by rw [HHL.out]; exact hn0))
  have hn64 : n ≤ 64 := by
    have := (hop_of ((sorted_of he).2.2 0 (by simp))).1
    have e : hsAt [⟨16, A, n, c, hs⟩] 0 = hs := rfl
    rw [e, HHL.out] at this
    exact this
  clear he hn
  go_enter Try.func6, Try.ntmps6
  go_wp2_with fail
  refine HC.out.mono ?_
  rintro e w1 ⟨rfl, hb1⟩
  have HX1 := Lib.hid hb1
  have HB1 := Lib.hid (below3 HB0.out hb1)
  have HT1 := Lib.hid ((HT.out.below hb1).more hb1.size)
  have HI1 := Lib.hid (ints_litN w1 w1.heap.size rfl 1 [16] rfl (by simp [maxLen]))
  clear hb1 HC HT
  go_wp2_with fail
  refine (forward_any (some ⟨w.heap.size, 0, none⟩) (some ⟨w1.heap.size, 0, none⟩) 1 1 1 1 [⟨16, A, n, c, hs⟩] ⟨0, 0, fl, 2, [16]⟩ _ ((HT1.out.below (belowA _ _)).more (belowA _ _).size) HSH.out (by omega) (HI1.out.more (by simp)) (by omega) ?_ ⟨hf0, by show fl < _; omega⟩ (by simp)).mono ?_
  · intro x hx
    simp only [List.mem_cons, List.not_mem_nil, or_false] at hx
    subst hx
    omega
  rintro e w2 ⟨v, rfl, ⟨A2, n2, c2, rfl, ho⟩, hb2⟩
  obtain ⟨⟨q, r, x⟩, hq⟩ : ∃ q, fwd [⟨16, A, n, c, hs⟩] ⟨0, 0, fl, 2, [16]⟩ = q := ⟨_, rfl⟩
  have hpl := HPL.out
  rw [hq] at hpl ho ⊢
  obtain ⟨s2, d2, f2, t2, l2⟩ := q
  simp only [Prod.mk.injEq] at hpl
  obtain ⟨hr, hx0⟩ := hpl
  dsimp only at *
  subst hx0
  have HR := Lib.hid hr
  have HB2 := Lib.hid (below3 HB1.out (below3 (belowA _ _) hb2))
  clear ho hb2 hq hr HPL
  go_wp2_with fail
  refine (awake_any _).mono ?_
  rintro e w3 ⟨rfl, hb3⟩
  have HB3 := Lib.hid (below3 HB2.out (below3 (belowA _ _) hb3))
  clear hb3
  obtain ⟨k, hk⟩ : ∃ k, fl.toNat % n = k := ⟨_, rfl⟩
  have hkn : k < n := by rw [← hk]; exact Nat.mod_lt _ (by omega)
  have hki : fl % (n : Int) = (k : Int) := by
    rw [← hk]
    have h1 : (fl.toNat : Int) = fl := Int.toNat_of_nonneg hf0
    rw [Int.natCast_emod, h1]
  obtain ⟨b4, o4, y, rfl, hb4, hyk, g0, g1⟩ := (HH.out.below HB3.out).get hkn
  have hry : y.router = r := by
    rw [HR.out, HHL.out, hk]
    exact (rt_of hyk).symm
  rw [hry] at g0
  have hn1 : (1 : Int) ≤ (n : Int) := by omega
  have hn2 : (n : Int) ≤ 64 := by omega
  clear hk hyk hry
  go_wp2
  go_ret
  exact ⟨rfl, HB3.out⟩
end Go.Proofs.Ytkgfcekcjehkdaa
