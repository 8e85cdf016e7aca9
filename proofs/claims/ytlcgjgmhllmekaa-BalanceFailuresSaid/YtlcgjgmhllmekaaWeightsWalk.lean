/- BalanceWeights: the walk. -/
import Derived.Test.YtlcgjgmhllmekaaAwake
import Derived.Test.YtlcgjgmhllmekaaOpenGroup
import Derived.Test.YtlcgjgmhllmekaaBalMath
namespace Go.Proofs.Ytlcgjgmhllmekaa
open Go.RowKit

theorem apart_step {a a' b b' : Option Nat} {N M : Nat} (h : b = none ∨ b ≠ a) (hb : ∀ k, b = some k → k < N) (ha : a' = a ∨ a' = some (N + 1)) (ha' : ∀ k, a' = some k → k < M) (hb' : b' = b ∨ b' = some (M + 1)) : b' = none ∨ b' ≠ a' := by
  rcases hb' with rfl | rfl
  · rcases ha with rfl | rfl
    · exact h
    · cases b' with
      | none => exact .inl rfl
      | some k =>
        refine .inr fun e => ?_
        have := hb k rfl
        injection e with e
        omega
  · refine .inr fun e => ?_
    have := ha' (M + 1) e.symm
    omega
theorem apart_other {a a' b : Option Nat} {N : Nat} (h : b = none ∨ b ≠ a) (hb : ∀ k, b = some k → k < N) (ha : a' = a ∨ a' = some (N + 1)) : a' = none ∨ a' ≠ b := by
  rcases ha with rfl | rfl
  · rcases h with rfl | h
    · cases a' with
      | none => exact .inl rfl
      | some k => exact .inr (by simp)
    · exact .inr fun e => h e.symm
  · refine .inr fun e => ?_
    have := hb (N + 1) e.symm
    omega
theorem wide_rep (n : Nat) (x : Int) (h : 0 ≤ x ∧ x ≤ 65535) : Wide (List.replicate n x) := wide_of fun y hy => by
  rw [(List.mem_replicate.1 hy).2]
  exact h
theorem wide_set {ws : List Int} (h : Wide ws) (i : Nat) {x : Int} (hx : -9223372036854775808 ≤ x ∧ x ≤ 9223372036854775807) : Wide (ws.set i x) := by
  intro j
  rw [List.getD_eq_getElem?_getD, List.getElem?_set]
  by_cases hij : i = j
  · rw [if_pos hij]
    by_cases hl : i < ws.length
    · rw [if_pos hl]; exact hx
    · rw [if_neg hl]; simp
  · rw [if_neg hij, ← List.getD_eq_getElem?_getD]
    exact h j
theorem below_of {w W w' : World} (h : Below w.heap.size w W) (hb : Below W.heap.size W w') : Below w.heap.size w w' := h.trans (hb.mono h.size)

set_option maxRecDepth 100000 in
set_option maxHeartbeats 4000000 in
theorem weights_walk0 (A : Option Addr) (n c : Nat) (ws : List Int) (flow more size : Int) (w : World) (hx : Ints w w.heap.size .i64 A n c ws) (hw : Wide ws) (hf : 0 ≤ flow ∧ flow < 4294967296) (hm0 : 0 ≤ more) (hm1 : more ≤ 255) (hs0 : 0 ≤ size) (hs1 : size ≤ 255) :
    Calls Try.prog 5 #[.slice A n c, .int .u32 flow, .int .u8 more, .int .u8 size] w fun e w' => e = .returned (.bool true) ∧ Below w.heap.size w w' := by
  have HF := Lib.hid hf
  by_cases hn : 100 < n
  · clear hx
    go_enter Try.func5, Try.ntmps5
    go_wp2_with fail
    refine (awake_any _).mono ?_
    rintro e w1 ⟨rfl, hb1⟩
    have HB := Lib.hid hb1
    clear hb1
    go_wp2
    go_ret
    exact ⟨rfl, HB.out⟩
  have hn' : n ≤ 100 := by omega
  have HX := Lib.hid hx
  have HL := Lib.hid hx.len
  have HW := Lib.hid hw
  clear hx hw hf hn
  go_enter Try.func5, Try.ntmps5
  go_wp2_with fail
  refine (choose_any A n c w.heap.size ws flow w HX.out (Nat.le_refl _) HW.out HF.out (by omega)).mono ?_
  rintro e wt ⟨rfl, hbt⟩
  have HB := Lib.hid hbt
  clear hbt
  obtain ⟨r, hr⟩ : ∃ r, ch ws flow n = r := ⟨_, rfl⟩
  rw [hr]
  have HR := Lib.hid hr
  clear hr
  have h3 : r = 0 ∨ (∃ i, r = i + 1 ∧ ¬ ws.getD i 0 < 1099511627776) ∨ (∃ i, r = i + 1 ∧ ws.getD i 0 < 1099511627776) := by
    cases r with
    | zero => exact .inl rfl
    | succ i => by_cases h : ws.getD i 0 < 1099511627776; exact .inr (.inr ⟨i, rfl, h⟩); exact .inr (.inl ⟨i, rfl, h⟩)
  rcases h3 with h3 | h3 | h3
  case' inl =>
    subst h3
    go_wp2
  case' inr.inl =>
    obtain ⟨i, rfl, hlt⟩ := h3
    have hin : i < n := by have := ch_best ws flow n; rw [HR.out] at this; exact this.pos.2
    rw [show (((i + 1 : Nat) : Int) - 1) = (i : Int) by omega]
    obtain ⟨b, o, x, rfl, hbB, hc, HX0⟩ := (HX.out.below HB.out).cell hin
    rw [HX0.out] at hlt
    go_wp2
  case' inr.inr =>
    obtain ⟨i, rfl, hlt⟩ := h3
    have hbest := ch_best ws flow n
    rw [HR.out] at hbest
    have hin : i < n := hbest.pos.2
    have hxp : 0 < ws.getD i 0 := pos_of_sc hbest.pos.1
    rw [show (((i + 1 : Nat) : Int) - 1) = (i : Int) by omega]
    obtain ⟨b, o, x, rfl, hbB, hc, HX0⟩ := (HX.out.below HB.out).cell hin
    rw [HX0.out] at hlt hxp
    clear hbest
    go_wp2_with fail
    refine (copyInts_any (some ⟨b, o, none⟩) none n c 0 0 ws [] wt ((HX.out.below HB.out).more HB.out.size) (Ints.nil _ _ _) (by omega)).mono ?_
    rintro e w2 ⟨A2, c2, rfl, ho, hb2⟩
    rw [List.append_nil, Nat.add_zero] at ho
    obtain ⟨g, cap, hv, hg1, hg2⟩ := Own.form ho (by omega)
    obtain ⟨rfl, rfl⟩ : A2 = some ⟨g, 0, none⟩ ∧ c2 = cap := by
      injection hv with h1 _ h2
      exact ⟨h1, h2⟩
    have hcell : w2.cell? ⟨g, i, none⟩ = some (.int .i64 x) := by rw [ho.cell hin, HX0.out]
    have hfr : w2.frozen? ⟨g, i, none⟩ = false := ho.frozen i
    have HSET := Lib.hid (ho.set i (x + more))
    have hw' : Hid (Wide (ws.set i (x + more))) := wide_set HW.out i (by omega)
    have HB2 : Hid (Below w.heap.size w (w2.setCell ⟨g, i, none⟩ (.int .i64 (x + more)))) := (below_of HB.out hb2).setCell (p := ⟨g, i, none⟩) (by have := HB.out.size; show _ ≤ g; omega) _
    have HGR : Hid (ch (ws.set i (x + more)) flow n = i + 1) := by
      have := grow ws flow n i HL.out more hm0 HR.out
      rw [HX0.out] at this
      exact this
    clear ho hb2 hv
    go_wp2_with fail
    refine (choose_any _ n _ _ (ws.set i (x + more)) flow _ HSET.out.ints (Nat.le_refl _) hw'.out HF.out (by omega)).mono ?_
    rintro e wt' ⟨rfl, hb3⟩
    rw [HGR.out, show (((i + 1 : Nat) : Int) - 1) = (i : Int) by omega]
    have HB3 : Hid (Below w.heap.size w wt') := below_of HB2.out hb3
    clear hb3 HB hc hcell hfr HSET HB2
    obtain ⟨wt, rfl⟩ : ∃ x, x = wt' := ⟨_, rfl⟩
    have HB := HB3
    clear HB3
    go_wp2
  all_goals
    go_loopw [11, 12, 46] (fun v1 v2 i wr => ∃ k : Nat, k ≤ n ∧ i = .int .i64 k ∧ Hid (Own wr w.heap.size 3 .i64 v1 k (List.replicate k 1)) ∧ Hid (Own wr w.heap.size 3 .i64 v2 k (List.replicate k (1 + size))) ∧ Hid (v2.ownBlock = none ∨ v2.ownBlock ≠ v1.ownBlock) ∧ Hid (Below w.heap.size w wr)) (fun _ _ i _ => n - (intOf i).toNat)
    case atStart => exact ⟨0, Nat.zero_le _, rfl, Own.nil _ _ _ _, Own.nil _ _ _ _, .inl rfl, HB.out⟩
    case round =>
      obtain ⟨k, hk, rfl, ho1, ho2, hap, hb⟩ := hrel
      by_cases hlt : k < n
      · go_wp2_with (first
          | (at_builtin; refine wpList_append_int rfl (.tmp 48) (.tmp 49) rfl rfl rfl (by simp) Try.underlying33 ints_info rfl ho1.out hb.out (Nat.le_refl _) hb.out.size (by omega) (by simp only [maxLen]; omega) ?_; intro v3 w3 h1 h2 hg3 hor3; have HO1 := Lib.hid h1; have HB2 := Lib.hid h2; have HO2 := Lib.hid (World.ownsRow.kept (World.ownsRow.alloc ho2.out _) hg3 hap.out); have HOR := Lib.hid hor3; have HG3 := Lib.hid hg3; clear h1 h2 hg3 hor3)
          | (at_builtin; refine wpList_append_int rfl (.tmp 51) (.tmp 55) rfl rfl rfl (by simp) Try.underlying33 ints_info rfl HO2.out HB2.out (Nat.le_refl _) HB2.out.size (by omega) (by simp only [maxLen]; omega) ?_; intro v4 w4 h1 h2 hg4 hor4; have HO4 := Lib.hid h1; have HB4 := Lib.hid h2; have HOR4 := Lib.hid hor4; have HG4 := Lib.hid hg4; clear h1 h2 hg4 hor4))
        have HO3 : Hid (Own w4 w.heap.size 3 .i64 v3 (k + 1) (List.replicate k 1 ++ [1])) := World.ownsRow.kept (World.ownsRow.alloc HO1.out _) HG4.out (apart_other hap.out (fun q h => (World.ownsRow.lt ho2.out q h).2) HOR.out)
        have HAP : Hid (v4.ownBlock = none ∨ v4.ownBlock ≠ v3.ownBlock) := apart_step hap.out (fun q h => (World.ownsRow.lt ho2.out q h).2) HOR.out (fun q h => (World.ownsRow.lt HO1.out q h).2) HOR4.out
        clear HO1 HO2 HOR HOR4 HG3 HG4 ho1 ho2 hap HB2
        go_roundw
        case rel => exact ⟨k + 1, by omega, by go_num, by rw [List.replicate_succ']; exact HO3, by rw [List.replicate_succ']; exact HO4, HAP, HB4⟩
        case measure => simp [intOf]; omega
      · obtain rfl : k = n := by omega
        obtain ⟨A1, c1, rfl⟩ := own_form ho1.out
        obtain ⟨A2, c2, rfl⟩ := own_form ho2.out
        have HE := Lib.hid (equals flow k size hs0 hs1)
        have HI1 := Lib.hid ho1.out.ints
        have HI2 := Lib.hid ho2.out.ints
        have HW1 := Lib.hid (wide_rep k 1 (by omega))
        have HW2 := Lib.hid (wide_rep k (1 + size) (by omega))
        obtain ⟨m, hm⟩ : ∃ m : Int, (ch (List.replicate k 1) flow k : Int) - 1 = m := ⟨_, rfl⟩
        have HM := Lib.hid hm
        clear ho1 ho2 hap hm
        go_wp2_with fail
        refine (awake_any _).mono ?_
        rintro e w5 ⟨rfl, hb5⟩
        have HB5 := Lib.hid hb5
        clear hb5
        go_wp2_with fail
        refine (choose_any A1 k c1 _ (List.replicate k 1) flow w5 (HI1.out.below HB5.out) HB5.out.size HW1.out HF.out (by omega)).mono ?_
        rintro e w6 ⟨rfl, hb6⟩
        rw [HM.out]
        have HB6 : Hid (Below _ _ w6) := below_of HB5.out hb6
        clear hb6
        go_wp2_with fail
        refine (choose_any A2 k c2 _ (List.replicate k (1 + size)) flow w6 (HI2.out.below HB6.out) HB6.out.size HW2.out HF.out (by omega)).mono ?_
        rintro e w7 ⟨rfl, hb7⟩
        rw [HE.out, HM.out]
        have HB7 : Hid (Below w.heap.size w w7) := below_of hb.out (below_of HB6.out hb7)
        clear hb7
        go_wp2
        go_ret
        exact ⟨rfl, HB7.out⟩
open Go.ChangeShapes in
theorem balanceWeights_walk (A : Option Addr) (n c : Nat) (ws : List Int) (flow more size : Int) (w : World) (hx : Ints w w.heap.size .i64 A n c ws) (hw : ∀ x ∈ ws, (Lit.int .i64 x).wf = true) (_hr : c * 8 ≤ 140737488351232) (hf : (Lit.int .u32 flow).wf = true) (hm : (Lit.int .u8 more).wf = true) (hs : (Lit.int .u8 size).wf = true) :
    Calls Try.prog 5 #[.slice A n c, .int .u32 flow, .int .u8 more, .int .u8 size] w fun e w' => e = .returned (.bool true) ∧ Below w.heap.size w w' := by
  have b1 := bounds_u32 hf
  have b2 := bounds_u8 hm
  have b3 := bounds_u8 hs
  refine weights_walk0 A n c ws flow more size w hx (fun j => ?_) (by omega) b2.1 b2.2 b3.1 b3.2
  rw [List.getD_eq_getElem?_getD]
  cases hj : ws[j]? with
  | none => simp
  | some x => exact bounds_i64 (hw x (List.mem_of_getElem? hj))
end Go.Proofs.Ytlcgjgmhllmekaa
