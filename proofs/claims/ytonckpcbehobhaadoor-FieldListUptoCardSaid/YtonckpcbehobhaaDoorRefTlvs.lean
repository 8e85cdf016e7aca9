/- TLVs: the reference's. -/
import Derived.Test.YtonckpcbehobhaaDoorTlvs
import Derived.Test.YtonckpcbehobhaaDoorTake
namespace Go.Proofs.YtonckpcbehobhaaDoor
open Go.RowKit

theorem num_drop (l : List Int) (a i : Nat) : ∀ m, num (l.drop a) i m = num l (a + i) m
  | 0 => rfl
  | m + 1 => by
    rw [num, num, num_drop l a i m, List.getD_eq_getElem?_getD, List.getElem?_drop, ← List.getD_eq_getElem?_getD, Nat.add_assoc]
/-- the loop -/
def RTInv (w : World) (L : Option (List (Int × List Int))) (n : Nat) (l : List Int) (ov av : Value) (W : World) : Prop :=
  ∃ (a k m : Nat) (ts : List (Int × List Int)), av = .int .i64 a ∧ a ≤ n ∧ n ≤ a + k ∧ m ≤ a ∧ L = (tl k (l.drop a)).map (fun r => ts ++ r) ∧ TOut W w.heap.size ov m ts ∧ Below w.heap.size w W
/-- behind the making of a field -/
def FBox (w : World) (N : Nat) (y : Int) (nn m : Nat) (xs : List Int) (ov : Value) (ts : List (Int × List Int)) (W : World) : Prop :=
  ∃ A c, W.cell? ⟨N, 0, none⟩ = some (.int .i64 y) ∧ W.cell? ⟨N, 1, none⟩ = some (.slice A nn c) ∧ N < W.heap.size ∧ Own W w.heap.size 5 .u8 (.slice A nn c) nn xs ∧ TOut W w.heap.size ov m ts ∧ Below w.heap.size w W
theorem F1.of {N : Nat} {a0 : Value} {w W W' : World} (hN : N < W.heap.size) (p1 : W.cell? ⟨N, 1, none⟩ = some a0) (hW : Below w.heap.size w W) (hb : Below W.heap.size W W') :
    W'.cell? ⟨N, 1, none⟩ = some a0 ∧ Hid (Below W.heap.size W W') ∧ Hid (Below w.heap.size w W') :=
  ⟨(hb.cell (p := ⟨N, 1, none⟩) hN).trans p1, hb, below3 hW hb⟩
set_option linter.unusedSimpArgs false in
set_option maxRecDepth 100000 in
set_option maxHeartbeats 4000000 in
theorem refTlvs_any (A : Option Addr) (n c : Nat) (l : List Int) (w : World) (hx : Ints w w.heap.size .u8 A n c l) (hby : Bytes l) (hn : n ≤ 1000000000000) :
    Calls Tryd.prog 27 #[.slice A n c] w (GivesTL (tlR l) w) := by
  have hl := hx.len
  have HT : Hid (∀ ts, tl n l = some ts → tlR l = (ts, 0)) := fun ts h => by unfold tlR; rw [hl, h]
  have HT2 : Hid (tl n l = none → tlR l = ([], 3)) := fun h => by unfold tlR; rw [hl, h]
  obtain ⟨L, hL⟩ : ∃ L, tl n l = L := ⟨_, rfl⟩
  have HL := Lib.hid hL
  have HX := Lib.hid hx
  have HBY := Lib.hid hby
  have HLL := Lib.hid hl
  rw [hL] at HT HT2
  clear hx hby hL hl
  go_enter Tryd.func27, Tryd.ntmps27
  go_wp2
  go_loopw [4, 5] (fun o a wr => RTInv w L n l o a wr) (fun _ a _ => n - (intOf a).toNat)
  case atStart => exact ⟨0, n, 0, [], rfl, by omega, by omega, by omega, by rw [List.drop_zero, HL.out]; cases L <;> simp, TOut.nil _ _, Below.refl _ _⟩
  case round =>
    obtain ⟨a, k, m, ts, rfl, han, hnk, hma, heq, hto, hbw⟩ := hrel
    have hld : (l.drop a).length = n - a := by rw [List.length_drop, HLL.out]
    have HEQ := Lib.hid heq
    have HTO := Lib.hid hto
    have HBW := Lib.hid hbw
    have HIW := Lib.hid (HX.out.below hbw)
    clear heq hto hbw
    by_cases hn0 : a = n
    · have hnz : ¬ a < n := by omega
      have HF := Lib.hid (HT.out ts (by rw [HEQ.out, tl_nil k (by omega)]; simp))
      obtain ⟨A2, c2, rfl⟩ := HTO.out.form
      clear hn0
      go_wp2
      go_ret2
      rw [HF.out]
      exact ⟨A2, m, c2, rfl, HTO.out.tls, HBW.out⟩
    have hnz : a < n := by omega
    have e0 : IntKind.i64.wrap ((a : Int) + 1) = (a : Int) + 1 := IntWalk.i64_in _ (by omega)
    have HBAD : Hid ((l.drop a).length < 3 ∨ ((l.drop a).length : Int) - 3 < num (l.drop a) 1 2 → tlR l = ([], 3)) := fun h => HT2.out (by rw [HEQ.out, tl_short (by omega) (by omega) h]; rfl)
    by_cases hs3 : n - a < 3
    · have HF := Lib.hid (HBAD.out (.inl (by omega)))
      have HG := Lib.hid (refGet_bad A n c wr ((a : Int) + 1) 2 (by omega) (by omega) (by omega) (by omega))
      clear hn0 hs3
      go_wp2_with fail
      refine HG.out.mono ?_
      rintro e w2 ⟨rfl, rfl⟩
      go_wp2
      go_ret2
      rw [HF.out]
      exact ⟨_, _, _, rfl, TLs.nil _ _, HBW.out⟩
    have hG0 := refGet_ok A n c _ l wr HIW.out HBY.out (a + 1) 2 (by omega) (by omega) (by omega)
    have hnb := num_bd HBY.out (a + 1) 2
    have hnd := num_drop l a 1 2
    obtain ⟨nn, hnn⟩ : ∃ nn : Nat, num l (a + 1) 2 = (nn : Int) := ⟨(num l (a + 1) 2).toNat, by omega⟩
    rw [hnn] at hG0 hnb hnd
    rw [show ((a + 1 : Nat) : Int) = (a : Int) + 1 by omega, show ((2 : Nat) : Int) = 2 from rfl] at hG0
    have HG := Lib.hid hG0
    have hn16 : nn < 65536 := by have := hnb.2; omega
    by_cases hov : n < a + 3 + nn
    · have HF := Lib.hid (HBAD.out (.inr (by rw [hnd, hld]; omega)))
      have d2 : decide ((a : Int) + 3 + (nn : Int) > (n : Int)) = true := by simp; omega
      clear hov hnb hnn hn0 hG0
      go_wp2_with fail
      refine HG.out.mono ?_
      rintro e w2 ⟨rfl, rfl⟩
      go_wp2
      go_ret2
      rw [HF.out]
      exact ⟨_, _, _, rfl, TLs.nil _ _, HBW.out⟩
    have d2 : decide ((a : Int) + 3 + (nn : Int) > (n : Int)) = false := by simp; omega
    have hle : a + (3 + nn) ≤ n := by omega
    obtain ⟨k, rfl⟩ : ∃ j, k = j + 1 := ⟨k - 1, by omega⟩
    have hst := tl_step (k := k) (l := l.drop a) (n := nn) (by omega) hnd (by omega)
    obtain ⟨A2, c2, hsl, hi2⟩ := HX.out.slice (P := Tryd.prog) (T := 22) (E := 5) Tryd.underlying22 (by kernel_rfl) (lo := a + 3) (hi := a + 3 + nn) (by omega) (by omega)
    rw [show a + 3 + nn - (a + 3) = nn by omega] at hsl hi2
    rw [show ((a + 3 + nn : Nat) : Int) = (a : Int) + 3 + (nn : Int) by omega, show ((a + 3 : Nat) : Int) = (a : Int) + 3 by omega] at hsl
    obtain ⟨b, o, y, rfl, hbB, g0, hy⟩ := HIW.out.cell (j := a) hnz
    have HY := Lib.hid hy.out
    have hyb := HBY.out a
    rw [hy.out] at hyb
    have wy : IntKind.i64.wrap y = y := IntWalk.i64_in _ (by omega)
    have wa : IntKind.i64.wrap ((a : Int) + 3) = (a : Int) + 3 := IntWalk.i64_in _ (by omega)
    have wn : IntKind.i64.wrap (nn : Int) = (nn : Int) := IntWalk.i64_in _ (by omega)
    have wan : IntKind.i64.wrap ((a : Int) + 3 + (nn : Int)) = (a : Int) + 3 + (nn : Int) := IntWalk.i64_in _ (by omega)
    have HI2 := Lib.hid hi2
    have HST := Lib.hid hst
    obtain ⟨Am, cm, rfl⟩ := HTO.out.form
    have hzs : wr.heap.size < (wr.alloc (.cells #[.int .i64 y, .slice none 0 0] 43)).heap.size := by simp
    clear hst hi2 hnb hnn hov hy hG0 hnd
    go_wp2_with fail
    refine HG.out.mono ?_
    rintro e w2 ⟨rfl, rfl⟩
    go_upto_region 8 with fail
    have q0 : (wr.alloc (.cells #[.int .i64 y, .slice none 0 0] 43)).cell? ⟨wr.heap.size, 0, none⟩ = some (.int .i64 y) := by go_simp
    have q1 : (wr.alloc (.cells #[.int .i64 y, .slice none 0 0] 43)).cell? ⟨wr.heap.size, 1, none⟩ = some (.slice none 0 0) := by go_simp
    have fz : (wr.alloc (.cells #[.int .i64 y, .slice none 0 0] 43)).frozen? ⟨wr.heap.size, 1, none⟩ = false := by go_simp
    have hb1 : Below wr.heap.size wr (wr.alloc (.cells #[.int .i64 y, .slice none 0 0] 43)) := belowA _ _
    obtain ⟨W1, hW1⟩ : ∃ W, wr.alloc (.cells #[.int .i64 y, .slice none 0 0] 43) = W := ⟨_, rfl⟩
    rw [hW1] at hzs q0 q1 fz hb1 ⊢
    have HTO1 := Lib.hid (HTO.out.below hb1)
    have HBW1 := Lib.hid (below3 HBW.out hb1)
    have hbr1 := hb1
    clear hb1 hW1
    have hwz := HBW.out.size
    obtain ⟨v5, W5, hrun, ho5, hg5, hor5⟩ := Ints.append (P := Tryd.prog) (t := 22) (ty := 22) Tryd.underlying22 u8_info rfl (Own.nil W1.drew w.heap.size _ _) ((HI2.out.below HBW1.out.drew) : Ints W1.drew w.heap.size .u8 A2 nn c2 _) (by simp only [maxLen]; omega) (by omega) HBW1.out.size
    rw [Nat.zero_add, List.nil_append] at ho5
    obtain ⟨A5, c5, rfl⟩ := own_form ho5
    have hb5 : Below W1.heap.size W1 W5 := un_drew ((Below.refl _ _).grown hg5 (Nat.le_refl _) (by simp [Value.ownBlock]))
    have r0 : W5.cell? ⟨wr.heap.size, 0, none⟩ = some (.int .i64 y) := (hb5.cell (p := ⟨wr.heap.size, 0, none⟩) hzs).trans q0
    have r1 : W5.cell? ⟨wr.heap.size, 1, none⟩ = some (.slice none 0 0) := (hb5.cell (p := ⟨wr.heap.size, 1, none⟩) hzs).trans q1
    have fz5 : W5.frozen? ⟨wr.heap.size, 1, none⟩ = false := (hb5.frozen (p := ⟨wr.heap.size, 1, none⟩) hzs).trans fz
    have hz5 : wr.heap.size < W5.heap.size := Nat.lt_of_lt_of_le hzs hb5.size
    have HR := Lib.hid hrun
    have HO5 := Lib.hid ho5
    have HTO5 := Lib.hid (HTO1.out.below hb5)
    have HB5 := Lib.hid (below3 HBW1.out hb5)
    have HNE : Hid ((Value.slice A5 nn c5).ownBlock ≠ some wr.heap.size) := by
      show _ ≠ _
      rcases hor5 with h | h
      · rw [h]; simp [Value.ownBlock]
      · rw [h]
        intro h2
        injection h2 with h2
        have h3 : W1.heap.size = wr.heap.size := h2
        omega
    have HBR5 := Lib.hid (hbr1.trans (hb5.mono (Nat.le_of_lt hzs)))
    clear hrun ho5 hg5 hb5 hor5 hbr1 HTO1 HG HIW g0
    go_cut [] (fun wx => FBox w wr.heap.size y nn m ((l.drop (a + 3)).take nn) (.slice Am m cm) ts wx)
    case first =>
      refine wp_region_noPanic ?_
      refine wp_region_held_drew (S := fun w' => Hid (Below w.heap.size w w')) (by kernel_rfl) HBW1.out.drew (fun hHeld => ?_)
      refine take_in (i := 0) (.pointer (some ⟨wr.heap.size, 1, none⟩)) (some 38) (by kernel_rfl) (by kernel_rfl) (by kernel_rfl) (by kernel_rfl) (fun _ _ _ h => h) (by rfl) (fun o ho w hSw => by cases ho; go_simp) hHeld ?_
      try simp only [Act.put, List.setIfInBounds_toArray, List.set_cons_zero, List.set_cons_succ]
      refine take_in (i := 2) (.slice (some ⟨b, o, none⟩) n c) (some 40) (by kernel_rfl) (by kernel_rfl) (by kernel_rfl) (by kernel_rfl) (fun _ _ _ h => h) (by rfl) (fun o ho w hSw => by cases ho; go_simp) hHeld ?_
      try simp only [Act.put, List.setIfInBounds_toArray, List.set_cons_zero, List.set_cons_succ]
      refine take_in (i := 3) (.int .i64 a) (some 41) (by kernel_rfl) (by kernel_rfl) (by kernel_rfl) (by kernel_rfl) (fun _ _ _ h => h) (by rfl) (fun o ho w hSw => by cases ho; go_simp) hHeld ?_
      try simp only [Act.put, List.setIfInBounds_toArray, List.set_cons_zero, List.set_cons_succ]
      refine take_in (i := 4) (.int .i64 ((a : Int) + 3)) (some 42) (by kernel_rfl) (by kernel_rfl) (by kernel_rfl) (by kernel_rfl) (fun _ _ _ h => h) (by rfl) (fun o ho w hSw => by cases ho; go_simp) hHeld ?_
      try simp only [Act.put, List.setIfInBounds_toArray, List.set_cons_zero, List.set_cons_succ]
      refine take_in (i := 5) (.int .i64 a) (some 43) (by kernel_rfl) (by kernel_rfl) (by kernel_rfl) (by kernel_rfl) (fun _ _ _ h => h) (by rfl) (fun o ho w hSw => by cases ho; go_simp) hHeld ?_
      try simp only [Act.put, List.setIfInBounds_toArray, List.set_cons_zero, List.set_cons_succ]
      refine take_in (i := 6) (.int .i64 ((a : Int) + 3)) (some 44) (by kernel_rfl) (by kernel_rfl) (by kernel_rfl) (by kernel_rfl) (fun _ _ _ h => h) (by rfl) (fun o ho w hSw => by cases ho; go_simp) hHeld ?_
      try simp only [Act.put, List.setIfInBounds_toArray, List.set_cons_zero, List.set_cons_succ]
      refine take_in (i := 7) (.int .u64 nn) (some 45) (by kernel_rfl) (by kernel_rfl) (by kernel_rfl) (by kernel_rfl) (fun _ _ _ h => h) (by rfl) (fun o ho w hSw => by cases ho; go_simp) hHeld ?_
      try simp only [Act.put, List.setIfInBounds_toArray, List.set_cons_zero, List.set_cons_succ]
      refine take_in (i := 8) (.int .i64 nn) (some 46) (by kernel_rfl) (by kernel_rfl) (by kernel_rfl) (by kernel_rfl) (fun _ _ _ h => h) (by rfl) (fun o ho w hSw => by cases ho; go_simp) hHeld ?_
      try simp only [Act.put, List.setIfInBounds_toArray, List.set_cons_zero, List.set_cons_succ]
      refine take_in (i := 9) (.int .i64 ((a : Int) + 3 + (nn : Int))) (some 47) (by kernel_rfl) (by kernel_rfl) (by kernel_rfl) (by kernel_rfl) (fun _ _ _ h => h) (by rfl) (fun o ho w hSw => by cases ho; go_simp) hHeld ?_
      try simp only [Act.put, List.setIfInBounds_toArray, List.set_cons_zero, List.set_cons_succ]
      refine take_in (i := 10) (.slice A2 nn c2) (some 48) (by kernel_rfl) (by kernel_rfl) (by kernel_rfl) (by kernel_rfl) (fun _ _ _ h => h) (by rfl) (fun o ho w hSw => by cases ho; go_simp) hHeld ?_
      try simp only [Act.put, List.setIfInBounds_toArray, List.set_cons_zero, List.set_cons_succ]
      refine wpAnyH_ready (rs := [1]) (by kernel_rfl) (by simp) ?_
      refine AllReadyH.cons (o := _) rfl (fun K hK => ?_) AllReadyH.nil
      go_simp
      refine hK.out _ _ hHeld (fun _ => ?_)
      clear hK K
      try simp only [Act.put, List.setIfInBounds_toArray, List.set_cons_zero, List.set_cons_succ]
      refine wpAnyH_ready (rs := [11]) (by kernel_rfl) (by simp) ?_
      refine AllReadyH.cons (o := _) rfl (fun K hK => ?_) AllReadyH.nil
      refine step_append_run (by rfl) _ _ _ (by rfl) (by rfl) (by rfl) HR.out ?_
      refine hK.out _ _ HB5 (fun _ => ?_)
      clear hK K
      try simp only [Act.put, List.setIfInBounds_toArray, List.set_cons_zero, List.set_cons_succ]
      refine take_in (i := 12) (.pointer (some ⟨wr.heap.size, 1, none⟩)) (some 50) (by kernel_rfl) (by kernel_rfl) (by kernel_rfl) (by kernel_rfl) (fun _ _ _ h => h) (by rfl) (fun o ho w hSw => by cases ho; go_simp) HB5 ?_
      try simp only [Act.put, List.setIfInBounds_toArray, List.set_cons_zero, List.set_cons_succ]
      refine wpAnyH_ready (rs := [13]) (by kernel_rfl) (by simp) ?_
      refine AllReadyH.cons (o := _) rfl (fun K hK => ?_) AllReadyH.nil
      go_simp
      refine hK.out _ _ (HB5.out.setCell (p := ⟨wr.heap.size, 1, none⟩) hwz _) (fun _ => ?_)
      clear hK K
      try simp only [Act.put, List.setIfInBounds_toArray, List.set_cons_zero, List.set_cons_succ]
      refine wpAnyH_done (by kernel_rfl) ?_ _
      refine NoPanic.normal ?_
      go_wp2_with fail
      go_meet
      refine ⟨A5, c5, by go_simp, by go_simp, by simp; omega, ownsRow_setCell_other HO5.out HNE.out _, HTO.out.below (HBR5.out.setCell (p := ⟨wr.heap.size, 1, none⟩) (Nat.le_refl _) _), HB5.out.setCell (p := ⟨wr.heap.size, 1, none⟩) hwz _⟩
    case rest =>
      obtain ⟨A6, c6, s0, s1, hz6, ho6, hto6, hbw6⟩ := hcut
      obtain ⟨A7, c7, W7, hrun7, ht7, hb7⟩ := hto6.push y ho6 rfl hbw6.size (by omega)
      have HR7 := Lib.hid hrun7
      have HTO7 := Lib.hid ht7
      have HBW7 := Lib.hid (hbw6.trans hb7)
      have HEQ7 : Hid (L = (tl k (l.drop (a + (3 + nn)))).map fun r => (ts ++ [(y, (l.drop (a + 3)).take nn)]) ++ r) := by
        show _ = _
        rw [HEQ.out, HST.out, Option.map_map, List.drop_drop, List.drop_drop]
        have e : (l.drop a).getD 0 0 = y := by
          rw [List.getD_eq_getElem?_getD, List.getElem?_drop, Nat.add_zero, ← List.getD_eq_getElem?_getD]
          exact HY.out
        rw [e]
        congr 1
        funext r
        simp
      have w3n : IntKind.i64.wrap (3 + (nn : Int)) = 3 + (nn : Int) := IntWalk.i64_in _ (by omega)
      have wfin : IntKind.i64.wrap ((a : Int) + (3 + (nn : Int))) = (a : Int) + (3 + (nn : Int)) := IntWalk.i64_in _ (by omega)
      clear hrun7 ht7 hb7 ho6 hto6 hbw6 HO5 HTO5 HB5 HR HTO HEQ HST q0 q1 fz r0 r1 fz5 hz5 HNE HBR5
      go_wp2_with (at_builtin; refine wpList_append_run rfl _ _ _ rfl rfl rfl HR7.out ?_)
      go_roundw
      case rel => exact ⟨a + (3 + nn), k, m + 1, _, by congr 1, by omega, by omega, by omega, HEQ7.out, HTO7.out, HBW7.out⟩
      case measure => simp [intOf]; omega
end Go.Proofs.YtonckpcbehobhaaDoor
