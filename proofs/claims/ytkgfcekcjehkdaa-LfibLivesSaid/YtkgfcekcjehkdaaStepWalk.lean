/- The program's step: the walk. -/
import Derived.Test.YtkgfcekcjehkdaaStep
import Derived.RegionTactic
import Derived.Deep.DeepCutAuto
namespace Go.Proofs.Ytkgfcekcjehkdaa
open Go.RowKit

theorem len_last {ls : List Int} {n : Nat} (h : ls.length = n) (hn : 0 < n) : (ls.dropLast).length = n - 1 := by rw [List.length_dropLast, h]
theorem own_low {w : World} {base b : Nat} {e : TypeId} {k : IntKind} {v : Value} {n : Nat} {xs : List Int} (h : Own w b e k v n xs) (hb : base ≤ b) : Own w base e k v n xs := own_mono h hb
theorem own_drew {w : World} {base : Nat} {e : TypeId} {k : IntKind} {v : Value} {n : Nat} {xs : List Int} (h : Own w base e k v n xs) : Own w.drew base e k v n xs := h
/-- what the statement 'if h.Label >= 0 ..' leaves -/
def AfterHop (w Z w5 : World) (h : HV) (lo : List Int) (s : Value) (W : World) : Prop :=
  ∃ A m c, s = .slice A m c ∧ Own W (w.heap.size + 2) 3 .i64 (.slice A m c) m lo ∧ Below (w.heap.size + 2) Z W ∧ W.cell? ⟨w5.heap.size, 0, none⟩ = some (.int .u32 h.router) ∧ w5.heap.size < W.heap.size
set_option linter.unusedSimpArgs false
set_option maxRecDepth 100000 in
set_option maxHeartbeats 4000000 in
theorem step_any (T A : Option Addr) (tn tc n c : Nat) (es : List EV) (p : PD) (w : World) (ht : Tab w w.heap.size T tn tc es) (hp : Ints w w.heap.size .i64 A n c p.ls) (he : tabErr es = 0) (h0 : 0 < n) (hn : n ≤ 17592186044416)
    (hw : ∀ x ∈ p.ls, -9223372036854775808 ≤ x ∧ x ≤ 9223372036854775807) (hf : 0 ≤ p.flow ∧ p.flow < 4294967296) (httl : -9223372036854775808 ≤ p.ttl ∧ p.ttl ≤ 9223372036854775807) :
    Calls Try.prog 25 #[.slice T tn tc, .agg #[.int .u32 p.src, .int .u32 p.dst, .int .u32 p.flow, .int .i64 p.ttl, .slice A n c]] w (GivesP3 (stepR es p) w) := by
  obtain ⟨src, dst, fl, ttl, ps⟩ := p
  dsimp only at hp hw hf httl ⊢
  obtain ⟨hsort, htl, hhops⟩ := sorted_of he
  have htn := ht.len
  have hlp := hp.len
  have hnc := hp.1
  obtain ⟨hf0, hf2⟩ := hf
  -- the last label
  obtain ⟨b, o, x, rfl, hbB, hc, hxx⟩ := hp.cell (j := n - 1) (by omega)
  have hxw : -9223372036854775808 ≤ x ∧ x ≤ 9223372036854775807 := by
    have hm : ps.getD (n - 1) 0 ∈ ps := by
      rw [List.getD_eq_getElem?_getD, List.getElem?_eq_getElem (by omega)]
      exact List.getElem_mem _
    rw [hxx] at hm
    exact hw _ hm
  have HSR : Hid (stepR es ⟨src, dst, fl, ttl, ps⟩ = match look es x with | none => (zeroPD, 0, 6) | some hs => if hs.length = 0 then (⟨src, dst, fl, ttl, ps.dropLast⟩, 0, 0) else if ttl ≤ 1 then (zeroPD, 0, 23) else (hopOut ⟨src, dst, fl, ttl, ps⟩ ((hs[fl.toNat % hs.length]?).getD ⟨0, 0⟩), ((hs[fl.toNat % hs.length]?).getD ⟨0, 0⟩).router, 0)) := by
    show _ = _
    unfold stepR
    simp only [hlp, hxx.out]
    rfl
  have HB0 : Hid (Below w.heap.size w ((w.alloc (.cells #[.int .u32 src, .int .u32 dst, .int .u32 fl, .int .i64 ttl, .slice (some ⟨b, o, none⟩) n c] 27)).alloc (.cells #[.int .u32 0, .int .u32 0, .int .u32 0, .int .i64 0, .slice none 0 0] 27))) := ((Below.refl _ _).alloc (Nat.le_refl _) _).alloc (by simp) _
  have HT := Lib.hid ht
  have HP := Lib.hid hp
  have HSo := Lib.hid hsort
  have HHop := Lib.hid hhops
  have HTN := Lib.hid htn
  have HLP := Lib.hid hlp
  have hws : IntKind.i64.wrap ((n : Int) - 1) = ((n - 1 : Nat) : Int) := by rw [IntWalk.i64_in _ (by omega)]; omega
  have hn1 : ((n : Int) - 1) = ((n - 1 : Nat) : Int) := by omega
  have htn2 : tn ≤ 2000 := by omega
  have hbw0 : b < w.heap.size := hbB
  clear ht hp hw he hsort hhops htn hlp hxx htl
  go_enter Try.func25, Try.ntmps25
  go_wp2_with fail
  refine (search_any T tn tc w.heap.size es x _ (HT.out.below HB0.out) HB0.out.size htn2 HSo.out hxw).mono ?_
  rintro e w3 ⟨i, fb, rfl, hyes, hno, hb3⟩
  have HZ : Hid (Below (w.heap.size + 2) ((w.alloc (.cells #[.int .u32 src, .int .u32 dst, .int .u32 fl, .int .i64 ttl, .slice (some ⟨b, o, none⟩) n c] 27)).alloc (.cells #[.int .u32 0, .int .u32 0, .int .u32 0, .int .i64 0, .slice none 0 0] 27)) w3) := hb3.mono (by simp)
  obtain ⟨⟨p0, p1, p2, p3, p4⟩, ⟨q0, q1, q2, q3, q4⟩, fz, fz1, hz, hz1⟩ := boxes HZ.out
  have HB3 : Hid (Below w.heap.size w w3) := HB0.out.trans (HZ.out.mono (by omega))
  clear hb3 hc
  cases fb with
  | false =>
    have HF : Hid (stepR es ⟨src, dst, fl, ttl, ps⟩ = (zeroPD, 0, 6)) := by show _ = _; rw [HSR.out, look_none (hno rfl)]
    clear hyes hno
    go_wp2
    refine bodyPost_ret (v := .tuple #[.agg #[.int .u32 0, .int .u32 0, .int .u32 0, .int .i64 0, .slice none 0 0], .int .u32 0, .int .i64 6]) (by simp [results, Try.results25, go_sem, q0, q1, q2, q3, q4, hz, hz1]) rfl ?_
    rw [HF.out]
    refine ⟨_, rfl, PkOwn.zero _ _, ?_⟩
    repeat refine Below.setCell ?_ (by simp) _
    exact HB3.out
  | true =>
    obtain ⟨hil, hix⟩ := hyes rfl
    have hlook := look_sorted HSo.out hil hix
    rw [HTN.out] at hil
    obtain ⟨b4, o4, y, rfl, hb4, hyk, hyh, d0, d1⟩ := (HT.out.below HB3.out).get hil
    have hyk' : hsAt es i = y.hs := by unfold hsAt; rw [hyk]; rfl
    rw [hyk'] at hlook
    have hh0 := HHop.out i (by rw [HTN.out]; exact hil)
    rw [hyk'] at hh0
    have hb4w : b4 < w3.heap.size := by have := HB3.out.size; omega
    obtain ⟨yi, yA, yn, yc, yhs⟩ := y
    dsimp only at *
    have hyl := hyh.len
    have HYH := Lib.hid hyh
    have HH0 := Lib.hid (hop_of hh0)
    have HYL := Lib.hid hyl
    have HLK := Lib.hid hlook
    have hil2 : i < tn := hil
    clear hyes hno hix hyk hyk' hlook hh0 hyh hyl hil
    go_wp2_with fail
    refine (cloneOwn_any (some ⟨b, o, none⟩) (n - 1) c (ps.take (n - 1)) w3 (((HP.out.prefix (by omega)).below HB3.out).more HB3.out.size) (by omega)).mono ?_
    rintro e w5 ⟨A5, c5, rfl, ho5, hb5⟩
    have HDL : Hid (ps.take (n - 1) = ps.dropLast) := by show _ = _; rw [← HLP.out, dropLast_take]
    rw [HDL.out] at ho5
    have HZ5 : Hid (Below (w.heap.size + 2) ((w.alloc (.cells #[.int .u32 src, .int .u32 dst, .int .u32 fl, .int .i64 ttl, .slice (some ⟨b, o, none⟩) n c] 27)).alloc (.cells #[.int .u32 0, .int .u32 0, .int .u32 0, .int .i64 0, .slice none 0 0] 27)) w5) := HZ.out.trans (hb5.mono (by omega))
    have HO5 := Lib.hid (show Own w5 (w.heap.size + 2) 3 .i64 _ _ _ from own_mono ho5 (by omega))
    have HYH5 : Hid (Hops w5 w.heap.size yA yn yc yhs) := HYH.out.below (hb5.mono (by omega))
    have HB5 : Hid (Below w.heap.size w w5) := HB0.out.trans (HZ5.out.mono (by omega))
    clear p0 p1 p2 p3 p4 q0 q1 q2 q3 q4 fz fz1 hz hz1 ho5 hb5 d0 d1 HYH HZ HB3 hb4w
    obtain ⟨⟨p0, p1, p2, p3, p4⟩, ⟨q0, q1, q2, q3, q4⟩, fz, fz1, hz, hz1⟩ := boxes HZ5.out
    by_cases hy0 : yn = 0
    · subst hy0
      have HF : Hid (stepR es ⟨src, dst, fl, ttl, ps⟩ = (⟨src, dst, fl, ttl, ps.dropLast⟩, 0, 0)) := by
        show _ = _
        rw [HSR.out, HLK.out]
        simp [HYL.out]
      go_wp2
      refine bodyPost_ret (v := .tuple #[.agg #[.int .u32 src, .int .u32 dst, .int .u32 fl, .int .i64 ttl, .slice A5 (n - 1) c5], .int .u32 0, .int .i64 0]) (by simp [results, Try.results25, go_sem, q0, q1, q2, q3, q4, hz, hz1]) rfl ?_
      rw [HF.out]
      refine ⟨_, rfl, ⟨A5, n - 1, c5, rfl, own_low (b := w.heap.size + 2) ?_ (by omega)⟩, ?_⟩
      · repeat refine Own.setBelow ?_ (by show _ < w.heap.size + 2; simp) _
        exact HO5.out
      · repeat refine Below.setCell ?_ (by simp) _
        exact HB5.out
    have dy : ((yn : Int) == 0) = false := by simp; omega
    by_cases ht1 : ttl ≤ 1
    · have HF : Hid (stepR es ⟨src, dst, fl, ttl, ps⟩ = (zeroPD, 0, 23)) := by
        show _ = _
        rw [HSR.out, HLK.out]
        simp [HYL.out, hy0, ht1]
      go_wp2
      refine bodyPost_ret (v := .tuple #[.agg #[.int .u32 0, .int .u32 0, .int .u32 0, .int .i64 0, .slice none 0 0], .int .u32 0, .int .i64 23]) (by simp [results, Try.results25, go_sem, q0, q1, q2, q3, q4, hz, hz1]) rfl ?_
      rw [HF.out]
      refine ⟨_, rfl, PkOwn.zero _ _, ?_⟩
      repeat refine Below.setCell ?_ (by simp) _
      exact HB5.out
    have hyn64 : (yn : Int) ≤ 64 := by have := HH0.out.1; rw [HYL.out] at this; omega
    have hy1 : (1 : Int) ≤ (yn : Int) := by omega
    obtain ⟨q, hq⟩ : ∃ q, fl.toNat % yn = q := ⟨_, rfl⟩
    have hqi : fl % (yn : Int) = (q : Int) := by
      rw [← hq]
      have h1 : (fl.toNat : Int) = fl := Int.toNat_of_nonneg hf0
      rw [Int.natCast_emod, h1]
    have hqn : q < yn := by rw [← hq]; exact Nat.mod_lt _ (by omega)
    obtain ⟨b6, o6, h, rfl, hb6, hhk, g0, g1⟩ := HYH5.out.get hqn
    obtain ⟨hr0, hlb⟩ := HH0.out.2 q h hhk
    have hb6w : b6 < w5.heap.size := by omega
    have HF : Hid (stepR es ⟨src, dst, fl, ttl, ps⟩ = (⟨src, dst, fl, ttl - 1, if h.label = -1 then ps.dropLast else ps.dropLast ++ [h.label]⟩, h.router, 0)) := by
      show _ = _
      rw [HSR.out, HLK.out]
      simp only [HYL.out, hq, hhk]
      rw [if_neg hy0, if_neg ht1]
      rfl
    have HQ := Lib.hid hq
    clear hhk hq hr0
    obtain ⟨lo, hlo⟩ : ∃ lo, (if h.label = -1 then ps.dropLast else ps.dropLast ++ [h.label]) = lo := ⟨_, rfl⟩
    rw [hlo] at HF
    have HLO := Lib.hid hlo
    clear hlo
    go_upto_if 63 with fail
    go_cut [11] (fun s wx => AfterHop w ((w.alloc (.cells #[.int .u32 src, .int .u32 dst, .int .u32 fl, .int .i64 ttl, .slice (some ⟨b, o, none⟩) n c] 27)).alloc (.cells #[.int .u32 0, .int .u32 0, .int .u32 0, .int .i64 0, .slice none 0 0] 27)) w5 h lo s wx)
    case first =>
      rcases hlb with hl1 | ⟨hl1, hl2⟩
      · have dl : decide (h.label ≥ 0) = false := by simp; omega
        have hl0 : h.label < 0 := by omega
        have hlo := HLO.out
        rw [if_pos hl1] at hlo
        subst hlo
        clear hl1
        go_wp2_with fail
        go_meet
        exact ⟨A5, n - 1, c5, rfl, HO5.out.alloc _, HZ5.out.alloc (by omega) _, by go_simp, by simp⟩
      · have dl : decide (h.label ≥ 0) = true := by simp; omega
        have hl0 : 0 ≤ h.label := by omega
        have hlo := HLO.out
        rw [if_neg (by omega)] at hlo
        subst hlo
        clear hl1 hl2
        have HL5 : Hid (∀ k, (Value.slice A5 (n - 1) c5).ownBlock = some k → k < w5.heap.size) := fun k hk => (World.ownsRow.lt HO5.out k hk).2
        go_wp2_with (at_builtin; refine wpList_append_int rfl _ _ rfl rfl rfl (by simp) Try.underlying25 ints_info rfl (HO5.out.alloc (.cells #[.int .u32 h.router, .int .i64 h.label] 45)) (HZ5.out.alloc (by omega) (.cells #[.int .u32 h.router, .int .i64 h.label] 45)) (Nat.le_refl _) (by simp; omega) (by omega) (by simp only [maxLen]; omega) ?_; intro v6 w6 h1 h2 hg6 hor6; have H1 := Lib.hid h1; have H2 := Lib.hid h2; have HG6 := Lib.hid hg6; clear h1 h2 hg6 hor6)
        go_meet
        obtain ⟨A6, c6, rfl⟩ := own_form H1.out
        refine ⟨A6, n - 1 + 1, c6, rfl, H1.out, H2.out, ?_, ?_⟩
        · refine (World.cell?_of_block (HG6.out.block _ (by (try simp) <;> omega) (fun e => absurd (HL5.out _ e.symm) (Nat.lt_irrefl _)))).trans ?_
          go_simp
        · have := HG6.out.size
          simp at this
          omega
    case rest =>
      obtain ⟨A6, m6, c6, rfl, ho6, hb6, e0, hz5⟩ := hcut
      clear p0 p1 p2 p3 p4 q0 q1 q2 q3 q4 fz fz1 hz hz1 g0 g1
      obtain ⟨⟨p0, p1, p2, p3, p4⟩, ⟨q0, q1, q2, q3, q4⟩, fz, fz1, hz, hz1⟩ := boxes hb6
      have HO6 := Lib.hid ho6
      have HB6 : Hid (Below w.heap.size w wc) := HB0.out.trans (hb6.mono (by omega))
      have hne : w5.heap.size ≠ w.heap.size := by have := HZ5.out.size; simp at this; omega
      have hne1 : w5.heap.size ≠ w.heap.size + 1 := by have := HZ5.out.size; simp at this; omega
      clear ho6 hb6
      go_wp2
      go_region
      go_wp2
      refine bodyPost_ret (v := .tuple #[.agg #[.int .u32 src, .int .u32 dst, .int .u32 fl, .int .i64 (ttl - 1), .slice A6 m6 c6], .int .u32 h.router, .int .i64 0]) (by simp [results, Try.results25, go_sem, q0, q1, q2, q3, q4, hz, hz1]) rfl ?_
      rw [HF.out]
      refine ⟨_, rfl, ⟨A6, m6, c6, rfl, own_low (b := w.heap.size + 2) ?_ (by omega)⟩, ?_⟩
      · repeat (first | with_reducible refine Own.setBelow ?_ (by show _ < w.heap.size + 2; simp) _ | with_reducible refine own_drew ?_)
        with_reducible exact HO6.out
      · repeat (first | with_reducible refine Below.setCell ?_ (by simp) _ | with_reducible refine Below.drew ?_)
        with_reducible exact HB6.out
end Go.Proofs.Ytkgfcekcjehkdaa
