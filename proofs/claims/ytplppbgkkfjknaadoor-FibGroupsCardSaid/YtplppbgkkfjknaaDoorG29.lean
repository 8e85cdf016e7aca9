/- FibGroups: the law's walk. -/
import Derived.Test.YtplppbgkkfjknaaDoorG27
import Derived.Test.YtplppbgkkfjknaaDoorG28
namespace Go.Proofs.YtplppbgkkfjknaaDoor
open Go.RowKit

set_option linter.unusedVariables false
set_option linter.unusedSimpArgs false
/-- what holds of the groups and rows of a built table -/
structure BOK (q : List (Int × List PV) × List Ent) : Prop where
  nodup : (q.1.map keyD).Nodup
  used : ∀ i, i < q.1.length → ∃ e ∈ q.2, e.v = (i : Nat)
  inr : ∀ e ∈ q.2, 0 ≤ e.v ∧ e.v < q.1.length
theorem numD_ok (gs : List (Int × List PV)) (g : Int × List PV) (h : (gs.map keyD).Nodup) :
    ((numD gs g).1.map keyD).Nodup ∧ (numD gs g).2 < (numD gs g).1.length ∧ gs.length ≤ (numD gs g).1.length ∧ (∀ i, i < (numD gs g).1.length → i < gs.length ∨ i = (numD gs g).2) ∧ (numD gs g).1[(numD gs g).2]?.map keyD = some (keyD g) ∧ (∀ i, i < gs.length → (numD gs g).1[i]? = gs[i]?) := by
  unfold numD
  split
  · rename_i hl
    dsimp only
    refine ⟨?_, by simp, by simp, fun i hi => by rw [List.length_append, List.length_singleton] at hi; omega, by simp, fun i hi => List.getElem?_append_left hi⟩
    rw [List.map_append, List.nodup_append]
    refine ⟨h, by simp, fun a ha b hb e => ?_⟩
    have h1 : b = keyD g := by simpa using hb
    subst h1
    subst e
    have := mem_of_idx.1 ha
    omega
  · rename_i hl
    dsimp only
    obtain ⟨y, h3, h4⟩ := idxQ_pos (P := sameT (keyD g)) (l := gs.map keyD) (by omega)
    have h5 : (idxQ (sameT (keyD g)) (gs.map keyD)).toNat < gs.length := by
      have := (List.getElem?_eq_some_iff.1 h3).1
      simpa using this
    have h6 : y = keyD g := by unfold sameT at h4; exact of_decide_eq_true h4
    rw [List.getElem?_map] at h3
    exact ⟨h, h5, Nat.le_refl _, fun i hi => .inl hi, by rw [h3, h6], fun i hi => rfl⟩
theorem stepB_ok {ks : List BK} {os : List LO} {q : List (Int × List PV) × List Ent} {r : RT} (h : BOK q) : BOK (stepB ks os q r) := by
  obtain ⟨h1, h2, h3, h4, h5, h6⟩ := numD_ok q.1 (grpD ks os r) h.nodup
  refine ⟨h1, fun i hi => ?_, fun e he => ?_⟩
  · rcases h4 i hi with h7 | h7
    · obtain ⟨e, he, hv⟩ := h.used i h7
      exact ⟨e, List.mem_append_left _ he, hv⟩
    · exact ⟨⟨r.a, r.l, ((numD q.1 (grpD ks os r)).2 : Nat)⟩, List.mem_append_right _ (by simp), by rw [h7]⟩
  · rcases List.mem_append.1 he with he | he
    · have := h.inr e he
      exact ⟨this.1, by have h8 := this.2; show e.v < ((numD q.1 (grpD ks os r)).1.length : Int); omega⟩
    · obtain rfl : e = ⟨r.a, r.l, ((numD q.1 (grpD ks os r)).2 : Nat)⟩ := by simpa using he
      exact ⟨by dsimp only; omega, by show (((numD q.1 (grpD ks os r)).2 : Nat) : Int) < ((numD q.1 (grpD ks os r)).1.length : Int); omega⟩
theorem foldB_ok {ks : List BK} {os : List LO} : ∀ (rs : List RT) (q : List (Int × List PV) × List Ent), BOK q → BOK (rs.foldl (stepB ks os) q)
  | [], q, h => h
  | r :: t, q, h => foldB_ok t _ (stepB_ok h)
theorem buildS_ok (ks : List BK) (os : List LO) (rs : List RT) : BOK (buildS ks os rs) :=
  foldB_ok rs _ ⟨List.nodup_nil, fun i hi => by simp at hi, fun e he => by cases he⟩
theorem numD_mem {gs : List (Int × List PV)} {g x : Int × List PV} (h : x ∈ (numD gs g).1) : x ∈ gs ∨ x = g := by
  unfold numD at h
  split at h
  · simpa using h
  · exact .inl h
theorem foldB_mem {ks : List BK} {os : List LO} : ∀ (rs : List RT) (q : List (Int × List PV) × List Ent) (x : Int × List PV), x ∈ (rs.foldl (stepB ks os) q).1 → x ∈ q.1 ∨ ∃ r ∈ rs, x = grpD ks os r
  | [], q, x, h => .inl h
  | r :: t, q, x, h => by
    rcases foldB_mem t _ x h with h | ⟨r2, h2, h3⟩
    · rcases numD_mem h with h | h
      · exact .inl h
      · exact .inr ⟨r, List.mem_cons_self, h⟩
    · exact .inr ⟨r2, List.mem_cons_of_mem _ h2, h3⟩
theorem buildS_mem {ks : List BK} {os : List LO} {rs : List RT} {x : Int × List PV} (h : x ∈ (buildS ks os rs).1) : ∃ r ∈ rs, x = grpD ks os r := by
  rcases foldB_mem rs _ x h with h | h
  · cases h
  · exact h
theorem built_short {rs : List RT} {ks : List BK} {os : List LO} (hw : WIn rs ks os) (hn : ∀ r ∈ rs, r.hs.length ≤ 1000000) {gs : List GE} (hg : gs.map GE.dat = (buildS ks os rs).1) : ∀ g ∈ gs, ∀ p ∈ g.ps, p.ls.length ≤ 1 := by
  intro g hgm p hp
  have h1 : g.dat ∈ (buildS ks os rs).1 := by rw [← hg]; exact List.mem_map_of_mem hgm
  obtain ⟨r, hr, he⟩ := buildS_mem h1
  have h2 : p.dat ∈ groupR ks os r.hs := by
    have h3 : g.ps.map PV.dat = groupR ks os r.hs := congrArg Prod.snd he
    rw [← h3]
    exact List.mem_map_of_mem hp
  exact (groupR_wide hw hr (hn r hr) p.dat h2).2
def Gr1 (w3 : World) (F gn : Nat) (fv : List Value) (iv : Value) (W : World) : Prop :=
  ∃ i : Nat, i ≤ gn ∧ iv = .int .i64 i ∧ Hid (Blk W F 28 fv) ∧ Hid (Below w3.heap.size w3 W)
set_option maxRecDepth 100000 in
set_option maxHeartbeats 8000000 in
theorem fibGroups_walk (v : Value) (w : World) (hx : PlanIn w v) (henv : Env w) : Calls Tryd.prog 5 #[v] w fun e w' => e = .returned (.bool true) ∧ Below w.heap.size w w' := by
  obtain ⟨rA, lA, kA, bA, oA, nA, rn, rc, ln, lc, kn, kc, bn, bc, on, oc, nn, nc, rs, ls, ks, bs, os, ns, rfl, hf⟩ := hx
  obtain ⟨w1, hw1⟩ : ∃ w1, w.alloc (.cells #[.slice rA rn rc, .slice lA ln lc, .slice kA kn kc, .slice bA bn bc, .slice oA on oc, .slice nA nn nc] 37) = w1 := ⟨_, rfl⟩
  have HF1 : Hid (Blk w1 w.heap.size 37 [.slice rA rn rc, .slice lA ln lc, .slice kA kn kc, .slice bA bn bc, .slice oA on oc, .slice nA nn nc]) := by show Blk _ _ _ _; rw [← hw1]; exact Blk.new w _ _
  have HB1 : Hid (Below w.heap.size w w1) := by show Below _ _ _; rw [← hw1]; exact belowA _ _
  have HXW : Hid (∀ W, Below w.heap.size w W → PlanAt W w.heap.size rA lA kA bA oA nA rn rc ln lc kn kc bn bc on oc nn nc rs ls ks bs os ns) := fun W h => hf.below h
  have HEW : Hid (∀ W, Below w.heap.size w W → Env W) := fun W h => henv.below h
  have HLV : Hid (∀ W, Below w.heap.size w W → Calls Tryd.prog 7 #[] W fun e w' => e = .returned (.bool true) ∧ Below W.heap.size W w') := fun W h => lives52_any W (henv.below h)
  have HC := Lib.hid (small_any rA lA kA bA oA nA rn rc ln lc kn kc bn bc on oc nn nc w.heap.size rs ls ks bs os ns w1 (HXW.out _ HB1.out) HB1.out.size)
  have f0 := HF1.out.cell 0
  have f1 := HF1.out.cell 1
  have f2 := HF1.out.cell 2
  have f3 := HF1.out.cell 3
  have f4 := HF1.out.cell 4
  have f5 := HF1.out.cell 5
  simp only [List.getElem?_cons_zero, List.getElem?_cons_succ] at f0 f1 f2 f3 f4 f5
  have hl1 := HF1.out.lt
  clear hf henv
  go_enter Tryd.func5, Tryd.ntmps5
  go_wp2_with fail
  refine HC.out.mono ?_
  rintro e w2 ⟨b, rfl, hsm, hb2⟩
  have HB2 := Lib.hid (below3 HB1.out hb2)
  have HF2 := Lib.hid (HF1.out.keep hb2)
  clear HC hb2 f0 f1 f2 f3 f4 f5 hw1
  cases b with
  | false =>
    have HL := Lib.hid (HLV.out w2 HB2.out)
    go_wp2_with fail
    refine HL.out.mono ?_
    rintro e w3 ⟨rfl, hb3⟩
    have HB3 := Lib.hid (below3 HB2.out hb3)
    clear hb3
    go_wp2
    go_ret
    exact ⟨rfl, HB3.out⟩
  | true =>
    have hS := hsm rfl
    have HC2 := Lib.hid (build52_any rA lA kA bA oA nA rn rc ln lc kn kc bn bc on oc nn nc w.heap.size rs ls ks bs os ns w2 (HXW.out _ HB2.out) HB2.out.size hS (HEW.out _ HB2.out))
    have HOK := Lib.hid (buildS_ok ks os rs)
    have f0 := HF2.out.cell 0
    have f1 := HF2.out.cell 1
    have f2 := HF2.out.cell 2
    have f3 := HF2.out.cell 3
    have f4 := HF2.out.cell 4
    have f5 := HF2.out.cell 5
    simp only [List.getElem?_cons_zero, List.getElem?_cons_succ] at f0 f1 f2 f3 f4 f5
    have hl2 := HF2.out.lt
    have HSB : Hid (∀ gs : List GE, gs.map GE.dat = (buildS ks os rs).1 → ∀ g ∈ gs, ∀ p ∈ g.ps, p.ls.length ≤ 1) := fun gs hg => built_short (HXW.out _ HB2.out).wide (fun r hr => by
      have h1 := ((HXW.out _ HB2.out).r.2 r hr).2.2.2
      have h2 := hS.rs r hr
      omega) hg
    obtain ⟨Q, hQ⟩ : ∃ Q, buildS ks os rs = Q := ⟨_, rfl⟩
    rw [hQ] at HC2 HOK HSB
    clear hsm hS hQ
    go_wp2_with fail
    refine Calls.mono HC2.out ?_
    rintro e w3 ⟨hb3, hor⟩
    have HB3 := Lib.hid (below3 HB2.out hb3)
    have hs3 := hb3.size
    have hcs : (∃ R, R ≠ 0 ∧ e = .returned (.tuple #[.agg #[.slice none 0 0, .slice none 0 0, .slice none 0 0, .slice none 0 0, .slice none 0 0], .int .i64 R])) ∨ (∃ gs bs2, gs.map GE.dat = Q.1 ∧ ∃ tA gA lA2 bA2 nA2 tc gc lc2 bc2 nc2, e = .returned (.tuple #[.agg #[.slice tA rn tc, .slice gA gs.length gc, .slice lA2 ln lc2, .slice bA2 bn bc2, .slice nA2 nn nc2], .int .i64 0]) ∧
        FibAt w3 w3.heap.size tA gA lA2 bA2 nA2 rn tc gs.length gc ln lc2 bn bc2 nn nc2 Q.2 gs ls bs2 ns ∧ (∀ g ∈ gs, g.n ≤ 1000)) := by
      rcases hor with ⟨h1, h2⟩ | ⟨_, gs, bs2, hg, _, _, _, hor⟩
      · exact .inl ⟨_, h1, h2⟩
      · rcases hor with ⟨h1, h2⟩ | ⟨_, h⟩
        · exact .inl ⟨_, h1, h2⟩
        · exact .inr ⟨gs, bs2, hg, h⟩
    clear HC2 hb3 f0 f1 f2 f3 f4 f5 hor
    rcases hcs with ⟨R, hR, rfl⟩ | ⟨gs, bs2, hg, tA, gA, lA2, bA2, nA2, tc, gc, lc2, bc2, nc2, rfl, hfa, hg3⟩
    · have d1 : (R != 0) = true := by simp [hR]
      clear hR
      obtain ⟨w4, hw4⟩ : ∃ w4, w3.alloc (.cells #[.slice none 0 0, .slice none 0 0, .slice none 0 0, .slice none 0 0, .slice none 0 0] 28) = w4 := ⟨_, rfl⟩
      have hb4 : Below w3.heap.size w3 w4 := by rw [← hw4]; exact belowA _ _
      have HE4 : Hid (Blk w4 w3.heap.size 28 [.slice none 0 0, .slice none 0 0, .slice none 0 0, .slice none 0 0, .slice none 0 0]) := by show Blk _ _ _ _; rw [← hw4]; exact Blk.new w3 _ _
      obtain ⟨w5, hw5⟩ : ∃ w5, w4.setRow w3.heap.size #[.slice none 0 0, .slice none 0 0, .slice none 0 0, .slice none 0 0, .slice none 0 0] = w5 := ⟨_, rfl⟩
      have hsr : Save w3.heap.size w4 w5 := by rw [← hw5]; exact Save.row _ _ _
      have HF5 : Hid (Blk w5 w3.heap.size 28 [.slice none 0 0, .slice none 0 0, .slice none 0 0, .slice none 0 0, .slice none 0 0]) := by show Blk _ _ _ _; rw [← hw5]; exact HE4.out.row _
      have HB4 := below3 HB3.out hb4
      have HB5 := Lib.hid (HB4.trans (hsr.below (by have := HB3.out.size; omega) HB4.size))
      have HL := Lib.hid (HLV.out w5 HB5.out)
      have z1 := HF5.out.cell 1
      simp only [List.getElem?_cons_zero, List.getElem?_cons_succ] at z1
      have hl5 := HF5.out.lt
      clear hb4 HB4 hsr
      go_upto_region 5 with (refine wpList_store_blk rfl 28 _ _ rfl w3.heap.size rfl rfl HE4.out (by kernel_rfl) rfl (by kernel_rfl) ?_)
      try rw [hw5]
      go_wp2_with fail
      refine HL.out.mono ?_
      rintro e w6 ⟨rfl, hb6⟩
      have HB6 := Lib.hid (below3 HB5.out hb6)
      clear hb6 HL
      go_wp2
      go_ret
      exact ⟨rfl, HB6.out⟩
    obtain ⟨gn, hgn⟩ : ∃ gn, gs.length = gn := ⟨_, rfl⟩
    rw [hgn] at hfa ⊢
    obtain ⟨w4, hw4⟩ : ∃ w4, w3.alloc (.cells #[.slice tA rn tc, .slice gA gn gc, .slice lA2 ln lc2, .slice bA2 bn bc2, .slice nA2 nn nc2] 28) = w4 := ⟨_, rfl⟩
    have hb4 : Below w3.heap.size w3 w4 := by rw [← hw4]; exact belowA _ _
    have HF4 : Hid (Blk w4 w3.heap.size 28 [.slice tA rn tc, .slice gA gn gc, .slice lA2 ln lc2, .slice bA2 bn bc2, .slice nA2 nn nc2]) := by show Blk _ _ _ _; rw [← hw4]; exact Blk.new w3 _ _
    have HB4 := Lib.hid (below3 HB3.out hb4)
    have HFW : Hid (∀ W, Below w4.heap.size w4 W → FibAt W w4.heap.size tA gA lA2 bA2 nA2 rn tc gn gc ln lc2 bn bc2 nn nc2 Q.2 gs ls bs2 ns) := fun W h => ((hfa.below hb4).more hb4.size).below h
    have HSH := Lib.hid (HSB.out gs hg)
    have HG := Lib.hid hg
    have HGN := Lib.hid hgn
    have HG3 := Lib.hid hg3
    have hrnn := hfa.tn
    have hgnn := hfa.gn
    have hqgl : Q.1.length = gn := by rw [← hg, List.length_map, hgn]
    have hqel : Q.2.length = rn := hfa.t.len
    have HUS : Hid (∀ i, i < gn → Q.2.any (fun e => decide (e.v = (i : Nat))) = true) := by
      intro i hi
      obtain ⟨e, he, hv⟩ := HOK.out.used i (by omega)
      exact List.any_eq_true.2 ⟨e, he, decide_eq_true hv⟩
    have HSM : Hid (∀ (i k : Nat) (x y : GE), k < i → gs[i]? = some x → gs[k]? = some y → sameG x y = false) := by
      intro i k x y hki hxi hyk
      cases hs : sameG x y with
      | false => rfl
      | true =>
        have h1 := sameG_dat hs
        have h2 : (Q.1.map keyD)[i]? = some (keyD x.dat) := by rw [← hg, List.getElem?_map, List.getElem?_map, hxi]; rfl
        have h3 : (Q.1.map keyD)[k]? = some (keyD y.dat) := by rw [← hg, List.getElem?_map, List.getElem?_map, hyk]; rfl
        rw [← h1, ← h2] at h3
        have hli : i < (Q.1.map keyD).length := by rw [List.length_map, hqgl, ← hgn]; exact (List.getElem?_eq_some_iff.1 hxi).1
        have := (List.getElem?_inj (by omega) HOK.out.nodup).1 h3
        omega
    have g1 := HF4.out.cell 1
    simp only [List.getElem?_cons_zero, List.getElem?_cons_succ] at g1
    have hl4 := HF4.out.lt
    have HI0 : Hid (Gr1 w4 w3.heap.size gn [.slice tA rn tc, .slice gA gn gc, .slice lA2 ln lc2, .slice bA2 bn bc2, .slice nA2 nn nc2] (.int .i64 (0 : Nat)) w4) := ⟨0, Nat.zero_le _, rfl, HF4, Lib.hid (Below.refl _ _)⟩
    clear hfa hb4 hg hgn hg3 hqgl
    go_wp2
    go_loopw [30] (fun iv wr => Gr1 w4 w3.heap.size gn [.slice tA rn tc, .slice gA gn gc, .slice lA2 ln lc2, .slice bA2 bn bc2, .slice nA2 nn nc2] iv wr) (fun iv _ => gn - (intOf iv).toNat)
    case atStart => exact HI0.out
    case round =>
      obtain ⟨i, hi, rfl, hF, hB⟩ := hrel
      clear HI0 g1 hw4 HF4 hl4
      obtain ⟨wq, rfl⟩ : ∃ wq, wq = wr := ⟨_, rfl⟩
      have g0 := hF.out.cell 0
      have g1 := hF.out.cell 1
      simp only [List.getElem?_cons_zero, List.getElem?_cons_succ] at g0 g1
      have hlq := hF.out.lt
      have HBQ := Lib.hid (below3 HB4.out hB.out)
      by_cases hlt : i < gn
      case neg =>
        have HL := Lib.hid (HLV.out wq HBQ.out)
        go_wp2_with fail
        refine HL.out.mono ?_
        rintro e w6 ⟨rfl, hb6⟩
        have HB6 := Lib.hid (below3 HBQ.out hb6)
        clear hb6 HL
        go_wp2
        go_ret
        exact ⟨rfl, HB6.out⟩
      have HI2 : Hid (∃ k : Nat, k ≤ rn ∧ (Value.int .i64 (0 : Nat)) = .int .i64 k ∧ (Value.bool false) = .bool ((Q.2.take k).any (fun e => decide (e.v = (i : Nat))))) := ⟨0, Nat.zero_le _, rfl, rfl⟩
      go_wp2
      go_loopw [6, 36] (fun uv jv wr => wr = wq ∧ ∃ k : Nat, k ≤ rn ∧ jv = .int .i64 k ∧ uv = .bool ((Q.2.take k).any (fun e => decide (e.v = (i : Nat))))) (fun _ jv _ => rn - (intOf jv).toNat)
      case atStart => exact ⟨rfl, HI2.out⟩
      case round =>
        obtain ⟨rfl, k, hk, rfl, rfl⟩ := hrel
        clear HI2
        by_cases hltk : k < rn
        case pos =>
          obtain ⟨b, o, x, hbA, hbB, hxk, _, _, _, c2⟩ := (HFW.out _ hB.out).t.get hltk
          subst hbA
          have hbw : b < wr.heap.size := by have := hB.out.size; omega
          have HXK := Lib.hid hxk
          obtain ⟨u, hu⟩ : ∃ u, (Q.2.take k).any (fun e => decide (e.v = (i : Nat))) = u := ⟨_, rfl⟩
          have HU : Hid ((Q.2.take (k + 1)).any (fun e => decide (e.v = (i : Nat))) = (u || decide (x.v = (i : Nat)))) := by
            show _ = _
            rw [List.take_add_one, HXK.out, List.any_append, hu]
            simp
          rw [hu]
          obtain ⟨xa, xl, xv⟩ := x
          dsimp only at c2 HU
          clear hxk hu
          cases u with
          | true =>
            go_wp2
            go_roundw
            case rel => exact ⟨trivial, k + 1, by omega, by go_num, by rw [HU.out]; rfl⟩
            case measure => simp [intOf]; omega
          | false =>
            have HU2 : Hid ((Q.2.take (k + 1)).any (fun e => decide (e.v = (i : Nat))) = (xv == (i : Int))) := by
              show _ = _
              rw [HU.out, Bool.false_or]
              by_cases hxv : xv = (i : Nat) <;> simp [hxv]
            go_wp2
            go_roundw
            case rel => exact ⟨trivial, k + 1, by omega, by go_num, by rw [HU2.out]⟩
            case measure => simp [intOf]; omega
        case neg =>
          have hu : (Q.2.take k).any (fun e => decide (e.v = (i : Nat))) = true := by
            rw [List.take_of_length_le (by omega)]
            exact HUS.out i hlt
          rw [hu]
          clear hu
          have HI3 : Hid (∃ m : Nat, m ≤ i ∧ (Value.int .i64 (0 : Nat)) = .int .i64 m ∧ Hid (Blk wr w3.heap.size 28 [.slice tA rn tc, .slice gA gn gc, .slice lA2 ln lc2, .slice bA2 bn bc2, .slice nA2 nn nc2]) ∧ Hid (Below w4.heap.size w4 wr)) := ⟨0, Nat.zero_le _, rfl, hF, hB⟩
          obtain ⟨w5, rfl⟩ : ∃ w5, w5 = wr := ⟨_, rfl⟩
          go_wp2
          go_loopw [54] (fun kv wr => ∃ m : Nat, m ≤ i ∧ kv = .int .i64 m ∧ Hid (Blk wr w3.heap.size 28 [.slice tA rn tc, .slice gA gn gc, .slice lA2 ln lc2, .slice bA2 bn bc2, .slice nA2 nn nc2]) ∧ Hid (Below w4.heap.size w4 wr)) (fun kv _ => i - (intOf kv).toNat)
          case atStart => exact HI3.out
          case round =>
            clear HI3 g0 g1 hlq hF hB HBQ
            obtain ⟨k, hkm, rfl, hF, hB⟩ := hrel
            by_cases hki : k < i
            case neg =>
              go_wp2
              go_roundw
              case rel => exact ⟨i + 1, by omega, by go_num, hF, hB⟩
              case measure => simp [intOf]; omega
            obtain ⟨wD, hwD⟩ : ∃ wD, wr.drew = wD := ⟨_, rfl⟩
            have hbD : Below wr.heap.size wr wD := by rw [← hwD]; exact (Below.refl _ _).drew
            have HFD := Lib.hid (hF.out.keep hbD)
            have HBD := Lib.hid (below3 hB.out hbD)
            have HFB := HFW.out _ HBD.out
            obtain ⟨b, o, x, hbA, hbB, hxi, hpx, c0, c1⟩ := HFB.g.get hlt
            obtain ⟨b', o', y, hbA', _, hyk, hpy, e0, e1⟩ := HFB.g.get (j := k) (by omega)
            rw [hbA] at hbA'
            simp only [Option.some.injEq, Addr.mk.injEq] at hbA'
            obtain ⟨rfl, rfl, _⟩ := hbA'
            subst hbA
            have hsz := HBD.out.size
            have hsh : ∀ g ∈ gs, g.n ≤ 1000 := HG3.out
            have hSx : Short x.ps := fun p hp => by
              have h1 := HSH.out x (List.mem_of_getElem? hxi) p hp
              have h2 := hpx.even p hp
              omega
            have hSy : Short y.ps := fun p hp => by
              have h1 := HSH.out y (List.mem_of_getElem? hyk) p hp
              have h2 := hpy.even p hp
              omega
            have hkg : k < gn := by omega
            have HC := Lib.hid (sameGroup52_any x y w4.heap.size wD hpx hpy hsz (HFB.gp x (List.mem_of_getElem? hxi)) (HFB.gp y (List.mem_of_getElem? hyk)) hSx hSy)
            rw [HSM.out i k x y hki hxi hyk] at HC
            obtain ⟨xa, xA, xn, xc, xs⟩ := x
            obtain ⟨ya, yA, yn, yc, ys⟩ := y
            dsimp only at c0 c1 e0 e1 HC
            have g1 : wD.cell? ⟨w3.heap.size, 1, none⟩ = some (.slice (some ⟨b, o, none⟩) gn gc) := HFD.out.cell 1
            have hbb : b < wD.heap.size := by omega
            have HSD : Hid ((wD.cell? ⟨w3.heap.size, 1, none⟩ = some (.slice (some ⟨b, o, none⟩) gn gc)) ∧ (wD.cell? ⟨b, o + i * 2, none⟩ = some (.int .i64 xa) ∧ wD.cell? ⟨b, o + i * 2 + 1, none⟩ = some (.slice xA xn xc)) ∧ (wD.cell? ⟨b, o + k * 2, none⟩ = some (.int .i64 ya) ∧ wD.cell? ⟨b, o + k * 2 + 1, none⟩ = some (.slice yA yn yc))) := ⟨g1, ⟨c0, c1⟩, e0, e1⟩
            have HSW : Hid (∀ V, Below wD.heap.size wD V → (V.cell? ⟨w3.heap.size, 1, none⟩ = some (.slice (some ⟨b, o, none⟩) gn gc)) ∧ (V.cell? ⟨b, o + i * 2, none⟩ = some (.int .i64 xa) ∧ V.cell? ⟨b, o + i * 2 + 1, none⟩ = some (.slice xA xn xc)) ∧ (V.cell? ⟨b, o + k * 2, none⟩ = some (.int .i64 ya) ∧ V.cell? ⟨b, o + k * 2 + 1, none⟩ = some (.slice yA yn yc))) := fun V hV => ⟨(hV.cell (p := ⟨_, _, none⟩) HFD.out.lt).trans g1, ⟨(hV.cell (p := ⟨b, _, none⟩) hbb).trans c0, (hV.cell (p := ⟨b, _, none⟩) hbb).trans c1⟩, (hV.cell (p := ⟨b, _, none⟩) hbb).trans e0, (hV.cell (p := ⟨b, _, none⟩) hbb).trans e1⟩
            clear hbD HFB hxi hyk hpx hpy c0 c1 e0 e1 g1 hsh hSx hSy
            go_upto_region 20 with fail
            refine wp_region_noPanic ?_
            refine wp_region_held_drew (S := fun V => (V.cell? ⟨w3.heap.size, 1, none⟩ = some (.slice (some ⟨b, o, none⟩) gn gc)) ∧ (V.cell? ⟨b, o + i * 2, none⟩ = some (.int .i64 xa) ∧ V.cell? ⟨b, o + i * 2 + 1, none⟩ = some (.slice xA xn xc)) ∧ (V.cell? ⟨b, o + k * 2, none⟩ = some (.int .i64 ya) ∧ V.cell? ⟨b, o + k * 2 + 1, none⟩ = some (.slice yA yn yc))) (by kernel_rfl) (by rw [hwD]; exact HSD.out) (fun hHeld => ?_)
            rw [hwD] at hHeld ⊢
            clear hwD
            refine take_in (i := 0) _ (some 57) (by kernel_rfl) (by kernel_rfl) (by kernel_rfl) (by kernel_rfl) (fun _ _ _ h => h) (by rfl) (fun o ho w hSw => by cases ho; (try dsimp only at hSw); (try go_split_ands); go_simp; (try with_reducible rfl)) hHeld ?_
            try simp only [Act.put, List.setIfInBounds_toArray, List.set_cons_zero, List.set_cons_succ]
            refine take_in (i := 1) _ (some 58) (by kernel_rfl) (by kernel_rfl) (by kernel_rfl) (by kernel_rfl) (fun _ _ _ h => h) (by rfl) (fun o ho w hSw => by cases ho; (try dsimp only at hSw); (try go_split_ands); go_simp; (try with_reducible rfl)) hHeld ?_
            try simp only [Act.put, List.setIfInBounds_toArray, List.set_cons_zero, List.set_cons_succ]
            refine take_in (i := 2) _ (some 59) (by kernel_rfl) (by kernel_rfl) (by kernel_rfl) (by kernel_rfl) (fun _ _ _ h => h) (by rfl) (fun o ho w hSw => by cases ho; (try dsimp only at hSw); (try go_split_ands); go_simp; (try with_reducible rfl)) hHeld ?_
            try simp only [Act.put, List.setIfInBounds_toArray, List.set_cons_zero, List.set_cons_succ]
            refine take_in (i := 3) _ (some 60) (by kernel_rfl) (by kernel_rfl) (by kernel_rfl) (by kernel_rfl) (fun _ _ _ h => h) (by rfl) (fun o ho w hSw => by cases ho; (try dsimp only at hSw); (try go_split_ands); go_simp; (try with_reducible rfl)) hHeld ?_
            try simp only [Act.put, List.setIfInBounds_toArray, List.set_cons_zero, List.set_cons_succ]
            refine take_in (i := 4) _ (some 61) (by kernel_rfl) (by kernel_rfl) (by kernel_rfl) (by kernel_rfl) (fun _ _ _ h => h) (by rfl) (fun o ho w hSw => by cases ho; (try dsimp only at hSw); (try go_split_ands); go_simp; (try with_reducible rfl)) hHeld ?_
            try simp only [Act.put, List.setIfInBounds_toArray, List.set_cons_zero, List.set_cons_succ]
            refine take_in (i := 5) _ (some 62) (by kernel_rfl) (by kernel_rfl) (by kernel_rfl) (by kernel_rfl) (fun _ _ _ h => h) (by rfl) (fun o ho w hSw => by cases ho; (try dsimp only at hSw); (try go_split_ands); go_simp; (try with_reducible rfl)) hHeld ?_
            try simp only [Act.put, List.setIfInBounds_toArray, List.set_cons_zero, List.set_cons_succ]
            refine take_in (i := 6) _ (some 63) (by kernel_rfl) (by kernel_rfl) (by kernel_rfl) (by kernel_rfl) (fun _ _ _ h => h) (by rfl) (fun o ho w hSw => by cases ho; (try dsimp only at hSw); (try go_split_ands); go_simp; (try with_reducible rfl)) hHeld ?_
            try simp only [Act.put, List.setIfInBounds_toArray, List.set_cons_zero, List.set_cons_succ]
            refine take_in (i := 7) _ (some 64) (by kernel_rfl) (by kernel_rfl) (by kernel_rfl) (by kernel_rfl) (fun _ _ _ h => h) (by rfl) (fun o ho w hSw => by cases ho; (try dsimp only at hSw); (try go_split_ands); go_simp; (try with_reducible rfl)) hHeld ?_
            try simp only [Act.put, List.setIfInBounds_toArray, List.set_cons_zero, List.set_cons_succ]
            refine take_in (i := 8) _ (some 65) (by kernel_rfl) (by kernel_rfl) (by kernel_rfl) (by kernel_rfl) (fun _ _ _ h => h) (by rfl) (fun o ho w hSw => by cases ho; (try dsimp only at hSw); (try go_split_ands); go_simp; (try with_reducible rfl)) hHeld ?_
            try simp only [Act.put, List.setIfInBounds_toArray, List.set_cons_zero, List.set_cons_succ]
            refine take_in (i := 9) _ (some 66) (by kernel_rfl) (by kernel_rfl) (by kernel_rfl) (by kernel_rfl) (fun _ _ _ h => h) (by rfl) (fun o ho w hSw => by cases ho; (try dsimp only at hSw); (try go_split_ands); go_simp; (try with_reducible rfl)) hHeld ?_
            try simp only [Act.put, List.setIfInBounds_toArray, List.set_cons_zero, List.set_cons_succ]
            refine wpAnyH_ready (rs := [10]) (by kernel_rfl) (by simp) ?_
            refine AllReadyH.cons (o := _) rfl (fun K hK => ?_) AllReadyH.nil
            go_simp
            go_at_call 14
            with_reducible refine HC.out.mono ?_
            rintro e w7 ⟨rfl, hb7⟩
            have HB7 := Lib.hid (below3 HBD.out hb7)
            have HF7 := Lib.hid (HFD.out.keep hb7)
            have HS7 := Lib.hid (HSW.out _ hb7)
            clear hb7
            refine hK.out _ _ HS7.out (fun hHeld => ?_)
            clear hK K
            try simp only [Act.put, List.setIfInBounds_toArray, List.set_cons_zero, List.set_cons_succ]
            refine wpAnyH_done (by kernel_rfl) ?_ _
            refine NoPanic.normal ?_
            clear HSD HSW HS7 HC
            go_wp2
            go_roundw
            case rel => exact ⟨k + 1, by omega, by go_num, HF7, HB7⟩
            case measure => simp [intOf]; omega
end Go.Proofs.YtplppbgkkfjknaaDoor
