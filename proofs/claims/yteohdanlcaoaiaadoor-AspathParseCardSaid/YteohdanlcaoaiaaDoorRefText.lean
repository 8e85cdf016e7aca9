/- Text: the reference's. -/
import Derived.Test.YteohdanlcaoaiaaDoorText
namespace Go.Proofs.YteohdanlcaoaiaaDoor
open Go.RowKit

def runS (y : Int) (q : Path) : Nat := if setB y = true then 0 else runL y q
theorem runS_le (y : Int) (q : Path) : runS y q ≤ q.length := by
  unfold runS
  split
  · omega
  · exact runL_le y q
/-- the inner loop: segments k to j - 1 belong together -/
def RfInv (w : World) (p : Path) (n k : Nat) (y : Int) (lv jv : Value) (W : World) : Prop :=
  ∃ j : Nat, k < j ∧ j ≤ n ∧ jv = .int .i64 j ∧ Hid (j - k - 1 ≤ runS y (p.drop (k + 1))) ∧ Hid (Own W w.heap.size 3 .i64 lv (flat ((p.drop k).take (j - k))).length (flat ((p.drop k).take (j - k)))) ∧ Hid (Below w.heap.size w W)
theorem txt_runS {p : Path} {k j : Nat} {y : Int} {xs : List Int} (h : p[k]? = some (y, xs)) (hy : 1 ≤ y ∧ y ≤ 4) (hj : k < j) (hr : runS y (p.drop (k + 1)) = j - k - 1) : txt (p.drop k) = wordR y (flat ((p.drop k).take (j - k))) ++ spt (p.drop j) := by
  obtain ⟨m, rfl⟩ : ∃ m, j = k + m + 1 := ⟨j - k - 1, by omega⟩
  rw [show k + m + 1 - k - 1 = m by omega] at hr
  have e1 : flat (((y, xs) :: p.drop (k + 1)).take (k + m + 1 - k)) = xs ++ flat ((p.drop (k + 1)).take m) := by
    rw [show k + m + 1 - k = m + 1 by omega, List.take_succ_cons]
    simp [flat]
  unfold runS at hr
  by_cases hs : setB y = true
  · rw [if_pos hs] at hr
    subst hr
    have hq : seqB y = false := by rw [seq_set hy, hs]; rfl
    rw [drop_next h, txt_single (.inl hq), e1]
    simp [flat]
  · rw [if_neg hs] at hr
    have hq : seqB y = true := by rw [seq_set hy]; simpa using hs
    rw [drop_next h, txt_run hq m xs _ hr.symm, e1, List.drop_drop, show k + 1 + m = k + m + 1 by omega]
theorem flat_moreS {p : Path} {k j : Nat} {s : Int × List Int} (hj : k < j) (h : p[j]? = some s) : flat ((p.drop k).take (j + 1 - k)) = flat ((p.drop k).take (j - k)) ++ s.2 := by
  rw [show j + 1 - k = (j - k) + 1 by omega]
  exact flat_succ (by rw [List.getElem?_drop, show k + (j - k) = j by omega]; exact h)
set_option linter.unusedSimpArgs false in
set_option maxRecDepth 100000 in
set_option maxHeartbeats 8000000 in
theorem refText_any (A : Option Addr) (n c : Nat) (p : Path) (w : World) (hx : Segs w w.heap.size A n c p) (hs : Sm p) :
    Calls Tryd.prog 34 #[.slice A n c] w (GivesStrErr (textR p) w) := by
  have HX := Lib.hid hx
  have HL := Lib.hid hx.len
  have hn : n ≤ 1000000 := by have h1 := hx.len; unfold Sm at hs; omega
  have HFM : Hid ((flat p).length ≤ 1000000) := by show _ ≤ _; unfold Sm at hs; omega
  clear hx hs
  go_enter Tryd.func34, Tryd.ntmps34
  go_wp2_with fail
  refine (refCheck_any A n c _ p w HX.out (Nat.le_refl _) (by omega)).mono ?_
  rintro e w1 ⟨rfl, hb1⟩
  have HB1 := Lib.hid hb1
  by_cases he : pathErr p = 0
  case neg =>
    have HF : Hid (textR p = ([], pathErr p)) := if_neg he
    obtain ⟨g, hg⟩ : ∃ g, pathErr p = g := ⟨_, rfl⟩
    rw [hg] at HF he ⊢
    have d : (g != 0) = true := by simp [he]
    clear he hg hb1
    go_wp2
    go_ret2
    rw [HF.out]
    exact ⟨rfl, HB1.out⟩
  have HF : Hid (textR p = (txt p, 0)) := if_pos he
  have HVA : Hid (∀ s ∈ p, (1 ≤ s.1 ∧ s.1 ≤ 4) ∧ s.2 ≠ [] ∧ s.2.length ≤ 255 ∧ rangeB s.2 = true ∧ (setB s.1 = true → ascB s.2 = true)) := fun s h => valid_seg he h
  have HRG : Hid (rangeB (flat p) = true) := valid_range he
  have hn64 : n ≤ 64 := by have := (pathErr_parts he).1; have := HL.out; omega
  have HTX : Hid ((txt p).length ≤ 11000192) := by
    show _ ≤ _
    have h1 := txt_short HRG.out
    have h2 := HFM.out
    have h3 := HL.out
    omega
  rw [he]
  clear he hb1
  go_wp2
  go_loopw [5, 6] (fun tv iv wr => TInv w p n tv iv wr) (fun _ iv _ => n - (intOf iv).toNat)
  case atStart => exact ⟨0, ByteArray.empty, Nat.zero_le _, rfl, rfl, by show TAt _ _ _; unfold TAt; rw [if_pos rfl]; rfl, HB1⟩
  case round =>
    obtain ⟨k, b, hk, rfl, rfl, hb, hbw⟩ := hrel
    by_cases hlt : k < n
    case neg =>
      obtain rfl : k = n := by omega
      have HE : Hid (b = strB (txt p)) := strB_of (hb.out.done HL.out.symm)
      go_wp2
      go_ret2
      rw [HF.out]
      exact ⟨by rw [← HE.out]; rfl, hbw.out⟩
    have HTF := HF
    clear HF
    obtain ⟨b2, o2, f, rfl, hbB, hf, g0, g1, hi⟩ := (HX.out.below hbw.out).get hlt
    obtain ⟨y, fA, fn, fc, xs⟩ := f
    dsimp only at g0 g1 hi
    have hwr := hbw.out.size
    have HF : Hid (p[k]? = some (y, xs)) := hf
    have hv := HVA.out _ (List.mem_of_getElem? HF.out)
    dsimp only at hv
    have hfl : xs.length = fn := hi.out.len
    have hfn : fn ≤ 255 := by have := hv.2.2.1; omega
    have hbs : b.size ≤ 11000192 := by rw [size_list]; exact Nat.le_trans hb.out.short HTX.out
    have hbwr : b2 < wr.heap.size := by omega
    have hy4 : y = 2 ∨ y = 1 ∨ y = 4 ∨ y = 3 := by omega
    clear hf
    rcases hy4 with rfl | rfl | rfl | rfl
    · obtain ⟨A4, c4, w4, hr4, ho4, hb4⟩ := copy_ints hi.out hwr rfl (by omega)
      have HR4 := Lib.hid hr4
      have HO4 : Hid (Own w4 w.heap.size 3 .i64 (.slice A4 fn c4) (flat ((p.drop k).take (k + 1 - k))).length (flat ((p.drop k).take (k + 1 - k)))) := by
        have e : flat ((p.drop k).take (k + 1 - k)) = xs := by
          rw [show k + 1 - k = 1 by omega, drop_next HF.out]
          simp [flat]
        show Own _ _ _ _ _ _ _
        rw [e, hfl]
        exact own_mono ho4 hwr
      have HB4 := Lib.hid (below3 hbw.out hb4)
      clear hr4 ho4 hb4
      go_wp2_with (at_builtin; refine wpList_append_run rfl _ _ _ rfl rfl rfl HR4.out ?_)
      obtain ⟨wo, hwo⟩ : ∃ wo : World, wo = wr := ⟨_, rfl⟩
      subst hwo
      go_loopw [7, 8] (fun lv jv wq => RfInv w p n k 2 lv jv wq) (fun _ jv _ => n - (intOf jv).toNat)
      case atStart => exact ⟨k + 1, by omega, by omega, by go_num, by show _ ≤ _; omega, HO4, HB4⟩
      case round =>
        obtain ⟨j, hjk, hjn, rfl, hrun, ho, hbq⟩ := hrel
        obtain ⟨Al, cl, rfl⟩ := own_form ho.out
        have hwq := hbq.out.size
        have hbq2 : b2 < wr.heap.size := by omega
        have p0 : wr.cell? ⟨b2, o2 + k * 2, none⟩ = some (.int .i64 2) := ((hbq.out.cell (p := ⟨b2, o2 + k * 2, none⟩) hbB).trans (hbw.out.cell (p := ⟨b2, o2 + k * 2, none⟩) hbB).symm).trans g0
        by_cases hj1 : j < n
        case neg =>
          have hnj : ¬ (j : Int) < (n : Int) := by omega
          have HRUN : Hid (runS 2 (p.drop (k + 1)) = j - k - 1) := by
            show _ = _
            have h1 := runS_le 2 (p.drop (k + 1))
            rw [List.length_drop, HL.out] at h1
            have h2 := hrun.out
            omega
          clear hrun hi g0 g1
          go_wp2_with fail
          refine wp_region_noPanic ?_
          refine wp_region_held_drew (S := fun _ => True) (by kernel_rfl) trivial (fun hHeld => ?_)
          refine take_in (i := 0) _ (some 27) (by kernel_rfl) (by kernel_rfl) (by kernel_rfl) (by kernel_rfl) (fun _ _ _ h => h) (by rfl) (fun o ho w hSw => by cases ho; (try dsimp only at hSw); (try go_split_ands); go_simp; (try with_reducible rfl)) hHeld ?_
          try simp only [Act.put, List.setIfInBounds_toArray, List.set_cons_zero, List.set_cons_succ]
          refine take_in (i := 1) _ (some 28) (by kernel_rfl) (by kernel_rfl) (by kernel_rfl) (by kernel_rfl) (fun _ _ _ h => h) (by rfl) (fun o ho w hSw => by cases ho; (try dsimp only at hSw); (try go_split_ands); go_simp; (try with_reducible rfl)) hHeld ?_
          try simp only [Act.put, List.setIfInBounds_toArray, List.set_cons_zero, List.set_cons_succ]
          refine take_in (i := 2) _ (some 29) (by kernel_rfl) (by kernel_rfl) (by kernel_rfl) (by kernel_rfl) (fun _ _ _ h => h) (by rfl) (fun o ho w hSw => by cases ho; (try dsimp only at hSw); (try go_split_ands); go_simp; (try with_reducible rfl)) hHeld ?_
          try simp only [Act.put, List.setIfInBounds_toArray, List.set_cons_zero, List.set_cons_succ]
          refine take_in (i := 3) _ (some 30) (by kernel_rfl) (by kernel_rfl) (by kernel_rfl) (by kernel_rfl) (fun _ _ _ h => h) (by rfl) (fun o ho w hSw => by cases ho; (try dsimp only at hSw); (try go_split_ands); go_simp; (try with_reducible rfl)) hHeld ?_
          try simp only [Act.put, List.setIfInBounds_toArray, List.set_cons_zero, List.set_cons_succ]
          refine take_in (i := 4) _ (some 31) (by kernel_rfl) (by kernel_rfl) (by kernel_rfl) (by kernel_rfl) (fun _ _ _ h => h) (by rfl) (fun o ho w hSw => by cases ho; (try dsimp only at hSw); (try go_split_ands); go_simp; (try with_reducible rfl)) hHeld ?_
          try simp only [Act.put, List.setIfInBounds_toArray, List.set_cons_zero, List.set_cons_succ]
          refine take_un (i := 5) (some 32) (by kernel_rfl) (by kernel_rfl) (by kernel_rfl) (by kernel_rfl) (fun _ _ _ h => h) (by rfl) hHeld ?_
          try simp only [Act.put, List.setIfInBounds_toArray, List.set_cons_zero, List.set_cons_succ]
          refine take_un (i := 6) (some 33) (by kernel_rfl) (by kernel_rfl) (by kernel_rfl) (by kernel_rfl) (fun _ _ _ h => h) (by rfl) hHeld ?_
          try simp only [Act.put, List.setIfInBounds_toArray, List.set_cons_zero, List.set_cons_succ]
          refine take_un (i := 7) (some 34) (by kernel_rfl) (by kernel_rfl) (by kernel_rfl) (by kernel_rfl) (fun _ _ _ h => h) (by rfl) hHeld ?_
          try simp only [Act.put, List.setIfInBounds_toArray, List.set_cons_zero, List.set_cons_succ]
          refine take_un (i := 8) (some 35) (by kernel_rfl) (by kernel_rfl) (by kernel_rfl) (by kernel_rfl) (fun _ _ _ h => h) (by rfl) hHeld ?_
          try simp only [Act.put, List.setIfInBounds_toArray, List.set_cons_zero, List.set_cons_succ]
          refine take_un (i := 9) (some 36) (by kernel_rfl) (by kernel_rfl) (by kernel_rfl) (by kernel_rfl) (fun _ _ _ h => h) (by rfl) hHeld ?_
          try simp only [Act.put, List.setIfInBounds_toArray, List.set_cons_zero, List.set_cons_succ]
          refine take_un (i := 10) (some 37) (by kernel_rfl) (by kernel_rfl) (by kernel_rfl) (by kernel_rfl) (fun _ _ _ h => h) (by rfl) hHeld ?_
          try simp only [Act.put, List.setIfInBounds_toArray, List.set_cons_zero, List.set_cons_succ]
          refine take_un (i := 11) (some 38) (by kernel_rfl) (by kernel_rfl) (by kernel_rfl) (by kernel_rfl) (fun _ _ _ h => h) (by rfl) hHeld ?_
          try simp only [Act.put, List.setIfInBounds_toArray, List.set_cons_zero, List.set_cons_succ]
          refine take_un (i := 12) (some 39) (by kernel_rfl) (by kernel_rfl) (by kernel_rfl) (by kernel_rfl) (fun _ _ _ h => h) (by rfl) hHeld ?_
          try simp only [Act.put, List.setIfInBounds_toArray, List.set_cons_zero, List.set_cons_succ]
          refine take_un (i := 13) (some 40) (by kernel_rfl) (by kernel_rfl) (by kernel_rfl) (by kernel_rfl) (fun _ _ _ h => h) (by rfl) hHeld ?_
          try simp only [Act.put, List.setIfInBounds_toArray, List.set_cons_zero, List.set_cons_succ]
          refine take_un (i := 14) (some 41) (by kernel_rfl) (by kernel_rfl) (by kernel_rfl) (by kernel_rfl) (fun _ _ _ h => h) (by rfl) hHeld ?_
          try simp only [Act.put, List.setIfInBounds_toArray, List.set_cons_zero, List.set_cons_succ]
          refine take_un (i := 15) (some 42) (by kernel_rfl) (by kernel_rfl) (by kernel_rfl) (by kernel_rfl) (fun _ _ _ h => h) (by rfl) hHeld ?_
          try simp only [Act.put, List.setIfInBounds_toArray, List.set_cons_zero, List.set_cons_succ]
          refine take_in (i := 16) _ (some 43) (by kernel_rfl) (by kernel_rfl) (by kernel_rfl) (by kernel_rfl) (fun _ _ _ h => h) (by rfl) (fun o ho w hSw => by cases ho; (try dsimp only at hSw); (try go_split_ands); go_simp; (try with_reducible rfl)) hHeld ?_
          try simp only [Act.put, List.setIfInBounds_toArray, List.set_cons_zero, List.set_cons_succ]
          refine take_in (i := 17) _ (some 44) (by kernel_rfl) (by kernel_rfl) (by kernel_rfl) (by kernel_rfl) (fun _ _ _ h => h) (by rfl) (fun o ho w hSw => by cases ho; (try dsimp only at hSw); (try go_split_ands); go_simp; (try with_reducible rfl)) hHeld ?_
          try simp only [Act.put, List.setIfInBounds_toArray, List.set_cons_zero, List.set_cons_succ]
          refine take_un (i := 18) (some 45) (by kernel_rfl) (by kernel_rfl) (by kernel_rfl) (by kernel_rfl) (fun _ _ _ h => h) (by rfl) hHeld ?_
          try simp only [Act.put, List.setIfInBounds_toArray, List.set_cons_zero, List.set_cons_succ]
          refine take_un (i := 19) (some 46) (by kernel_rfl) (by kernel_rfl) (by kernel_rfl) (by kernel_rfl) (fun _ _ _ h => h) (by rfl) hHeld ?_
          try simp only [Act.put, List.setIfInBounds_toArray, List.set_cons_zero, List.set_cons_succ]
          refine take_un (i := 20) (some 47) (by kernel_rfl) (by kernel_rfl) (by kernel_rfl) (by kernel_rfl) (fun _ _ _ h => h) (by rfl) hHeld ?_
          try simp only [Act.put, List.setIfInBounds_toArray, List.set_cons_zero, List.set_cons_succ]
          refine take_un (i := 21) (some 48) (by kernel_rfl) (by kernel_rfl) (by kernel_rfl) (by kernel_rfl) (fun _ _ _ h => h) (by rfl) hHeld ?_
          try simp only [Act.put, List.setIfInBounds_toArray, List.set_cons_zero, List.set_cons_succ]
          refine take_un (i := 22) (some 49) (by kernel_rfl) (by kernel_rfl) (by kernel_rfl) (by kernel_rfl) (fun _ _ _ h => h) (by rfl) hHeld ?_
          try simp only [Act.put, List.setIfInBounds_toArray, List.set_cons_zero, List.set_cons_succ]
          refine take_un (i := 23) (some 50) (by kernel_rfl) (by kernel_rfl) (by kernel_rfl) (by kernel_rfl) (fun _ _ _ h => h) (by rfl) hHeld ?_
          try simp only [Act.put, List.setIfInBounds_toArray, List.set_cons_zero, List.set_cons_succ]
          refine take_un (i := 24) (some 51) (by kernel_rfl) (by kernel_rfl) (by kernel_rfl) (by kernel_rfl) (fun _ _ _ h => h) (by rfl) hHeld ?_
          try simp only [Act.put, List.setIfInBounds_toArray, List.set_cons_zero, List.set_cons_succ]
          refine take_in (i := 25) _ (some 52) (by kernel_rfl) (by kernel_rfl) (by kernel_rfl) (by kernel_rfl) (fun _ _ _ h => h) (by rfl) (fun o ho w hSw => by cases ho; (try dsimp only at hSw); (try go_split_ands); go_simp; (try with_reducible rfl)) hHeld ?_
          try simp only [Act.put, List.setIfInBounds_toArray, List.set_cons_zero, List.set_cons_succ]
          refine wpAnyH_done (by kernel_rfl) ?_ _
          refine NoPanic.normal ?_
          have HW : Hid (txt (p.drop k) = wordR 2 (flat ((p.drop k).take (j - k))) ++ spt (p.drop (j - 1 + 1))) := by
            show _ = _
            rw [show j - 1 + 1 = j by omega]
            exact txt_runS HF.out (by omega) hjk HRUN.out
          have HLR := Lib.hid (range_run HRG.out k (j - k))
          have HLN : Hid ((flat ((p.drop k).take (j - k))).length ≤ 1000000) := Nat.le_trans (flat_run_le p k (j - k)) HFM.out
          have HLE : Hid (flat ((p.drop k).take (j - k)) ≠ []) := by
            show _ ≠ _
            intro h
            rw [drop_next HF.out, show j - k = (j - k - 1) + 1 by omega, List.take_succ_cons] at h
            unfold flat at h
            rw [List.flatMap_cons, List.append_eq_nil_iff] at h
            exact hv.2.1 h.1
          have HLI := Lib.hid ho.out.ints
          obtain ⟨L, hL⟩ : ∃ L, flat ((p.drop k).take (j - k)) = L := ⟨_, rfl⟩
          rw [hL] at HW HLR HLN HLE HLI ⊢
          have HJ1 : Hid (j = j - 1 + 1) := by show _ = _; omega
          clear hL ho HRUN
          by_cases hk0 : k = 0
          · have d0 : ¬ 0 < k := by omega
            have HK0 := Lib.hid hk0
            clear hk0
            go_wp2_with fail
            refine (word_any Al _ cl _ L (⟨#[32]⟩ : ByteArray) 32 (⟨#[]⟩ : ByteArray) (⟨#[]⟩ : ByteArray) wr.drew (HLI.out.below (Below.refl _ _).drew) (Nat.le_refl _) rfl HLR.out (Nat.le_trans HLN.out (by omega)) (by decide) (by decide)).mono ?_
            rintro e w2 ⟨rfl, hb2⟩
            have hbd : Below wr.heap.size wr wr.drew := (Below.refl _ _).drew
            have HBT : Hid (Below w.heap.size w w2) := below3 hbq.out (hbd.trans hb2)
            obtain ⟨pt, hpt⟩ : ∃ x, strB ((⟨#[]⟩ : ByteArray).data.toList ++ (sepd 32 L ++ (⟨#[]⟩ : ByteArray).data.toList)) = x := ⟨_, rfl⟩
            have hpl : pt.data.toList = wordR 2 L := by rw [← hpt, strB_list]; simp [wordR]
            have hpz : pt.size ≤ 11000002 := by
              rw [size_list, hpl]
              have := word_short (k := 2) HLR.out
              have := HLN.out
              omega
            rw [hpt]
            have hsz : b.size + pt.size ≤ 9223372036854775807 := by omega
            have hsz2 : (b.size : Int) + (pt.size : Int) ≤ 9223372036854775807 := by omega
            have HN : Hid (TAt p (j - 1 + 1) (b ++ pt)) := by
              have hk0 := HK0.out
              subst hk0
              exact hb.out.zero (word_ne HLE.out) HW.out (by rw [add_list, hpl])
            clear hb hpt hpl hbd hb2
            go_wp2
            go_roundw
            case rel => exact ⟨j - 1 + 1, b ++ pt, by omega, by rw [← HJ1.out], rfl, HN, HBT⟩
            case measure => simp [intOf] <;> omega
          · have d0 : 0 < k := by omega
            have HK0 := Lib.hid hk0
            clear hk0
            have d1 : (0 : Int) < (k : Int) := by omega
            have hsz : b.size + 1 ≤ 9223372036854775807 := by omega
            have hsz1 : (b.size : Int) + 1 ≤ 9223372036854775807 := by omega
            go_wp2_with fail
            refine (word_any Al _ cl _ L (⟨#[32]⟩ : ByteArray) 32 (⟨#[]⟩ : ByteArray) (⟨#[]⟩ : ByteArray) wr.drew (HLI.out.below (Below.refl _ _).drew) (Nat.le_refl _) rfl HLR.out (Nat.le_trans HLN.out (by omega)) (by decide) (by decide)).mono ?_
            rintro e w2 ⟨rfl, hb2⟩
            have hbd : Below wr.heap.size wr wr.drew := (Below.refl _ _).drew
            have HBT : Hid (Below w.heap.size w w2) := below3 hbq.out (hbd.trans hb2)
            obtain ⟨pt, hpt⟩ : ∃ x, strB ((⟨#[]⟩ : ByteArray).data.toList ++ (sepd 32 L ++ (⟨#[]⟩ : ByteArray).data.toList)) = x := ⟨_, rfl⟩
            have hpl : pt.data.toList = wordR 2 L := by rw [← hpt, strB_list]; simp [wordR]
            have hpz : pt.size ≤ 11000002 := by
              rw [size_list, hpl]
              have := word_short (k := 2) HLR.out
              have := HLN.out
              omega
            rw [hpt]
            have hsz2 : b.size + 1 + pt.size ≤ 9223372036854775807 := by omega
            have hsz3 : (b.size : Int) + 1 + (pt.size : Int) ≤ 9223372036854775807 := by omega
            have HN : Hid (TAt p (j - 1 + 1) ((b ++ (⟨#[32]⟩ : ByteArray)) ++ pt)) := hb.out.next HK0.out (by rw [HL.out]; exact hlt) HW.out (by rw [add_list, add_list, hpl])
            clear hb hpt hpl hbd hb2
            go_wp2
            go_roundw
            case rel => exact ⟨j - 1 + 1, (b ++ (⟨#[32]⟩ : ByteArray)) ++ pt, by omega, by rw [← HJ1.out], rfl, HN, HBT⟩
            case measure => simp [intOf] <;> omega
        have hji : (j : Int) < (n : Int) := by omega
        obtain ⟨b2', o2', f2, hbe2, hbB2, hf2, q0, q1, hi2⟩ := (HX.out.below hbq.out).get hj1
        simp only [Option.some.injEq, Addr.mk.injEq, and_true] at hbe2
        obtain ⟨rfl, rfl⟩ := hbe2
        obtain ⟨y2, fA2, fn2, fc2, xs2⟩ := f2
        dsimp only at q0 q1 hi2
        have hg2 : (p.drop (k + 1))[j - k - 1]? = some (y2, xs2) := by rw [List.getElem?_drop, show k + 1 + (j - k - 1) = j by omega]; exact hf2.out
        have HS : Hid (∀ W, Below wr.heap.size wr W → W.cell? ⟨b2, o2 + j * 2, none⟩ = some (.int .i64 y2) ∧ W.cell? ⟨b2, o2 + k * 2, none⟩ = some (.int .i64 2)) := fun W h => ⟨(h.cell (p := ⟨b2, o2 + j * 2, none⟩) hbq2).trans q0, (h.cell (p := ⟨b2, o2 + k * 2, none⟩) hbq2).trans p0⟩
        have HDR : Hid (Below wr.heap.size wr wr.drew) := (Below.refl _ _).drew
        by_cases h3 : y2 = 2
        case neg =>
          have dy : (y2 == 2) = false := by simp [h3]
          have HRUN : Hid (runS 2 (p.drop (k + 1)) = j - k - 1) := by
            show _ = _
            have h1 := hrun.out
            have h2 : runS 2 (p.drop (k + 1)) = runL 2 (p.drop (k + 1)) := if_neg (by decide)
            rw [h2] at h1 ⊢
            exact runL_stop h1 hg2 h3
          clear hrun hi hg2 hf2 hi2 h3 g0 g1
          go_wp2_with fail
          refine wp_region_noPanic ?_
          refine wp_region_held_drew (S := fun w' => w'.cell? ⟨b2, o2 + j * 2, none⟩ = some (.int .i64 y2) ∧ w'.cell? ⟨b2, o2 + k * 2, none⟩ = some (.int .i64 2)) (by kernel_rfl) (HS.out _ HDR.out) (fun hHeld => ?_)
          refine take_in (i := 0) _ (some 27) (by kernel_rfl) (by kernel_rfl) (by kernel_rfl) (by kernel_rfl) (fun _ _ _ h => h) (by rfl) (fun o ho w hSw => by cases ho; (try dsimp only at hSw); (try go_split_ands); go_simp; (try with_reducible rfl)) hHeld ?_
          try simp only [Act.put, List.setIfInBounds_toArray, List.set_cons_zero, List.set_cons_succ]
          refine take_in (i := 1) _ (some 28) (by kernel_rfl) (by kernel_rfl) (by kernel_rfl) (by kernel_rfl) (fun _ _ _ h => h) (by rfl) (fun o ho w hSw => by cases ho; (try dsimp only at hSw); (try go_split_ands); go_simp; (try with_reducible rfl)) hHeld ?_
          try simp only [Act.put, List.setIfInBounds_toArray, List.set_cons_zero, List.set_cons_succ]
          refine take_in (i := 2) _ (some 29) (by kernel_rfl) (by kernel_rfl) (by kernel_rfl) (by kernel_rfl) (fun _ _ _ h => h) (by rfl) (fun o ho w hSw => by cases ho; (try dsimp only at hSw); (try go_split_ands); go_simp; (try with_reducible rfl)) hHeld ?_
          try simp only [Act.put, List.setIfInBounds_toArray, List.set_cons_zero, List.set_cons_succ]
          refine take_in (i := 3) _ (some 30) (by kernel_rfl) (by kernel_rfl) (by kernel_rfl) (by kernel_rfl) (fun _ _ _ h => h) (by rfl) (fun o ho w hSw => by cases ho; (try dsimp only at hSw); (try go_split_ands); go_simp; (try with_reducible rfl)) hHeld ?_
          try simp only [Act.put, List.setIfInBounds_toArray, List.set_cons_zero, List.set_cons_succ]
          refine take_in (i := 4) _ (some 31) (by kernel_rfl) (by kernel_rfl) (by kernel_rfl) (by kernel_rfl) (fun _ _ _ h => h) (by rfl) (fun o ho w hSw => by cases ho; (try dsimp only at hSw); (try go_split_ands); go_simp; (try with_reducible rfl)) hHeld ?_
          try simp only [Act.put, List.setIfInBounds_toArray, List.set_cons_zero, List.set_cons_succ]
          refine take_in (i := 5) _ (some 32) (by kernel_rfl) (by kernel_rfl) (by kernel_rfl) (by kernel_rfl) (fun _ _ _ h => h) (by rfl) (fun o ho w hSw => by cases ho; (try dsimp only at hSw); (try go_split_ands); go_simp; (try with_reducible rfl)) hHeld ?_
          try simp only [Act.put, List.setIfInBounds_toArray, List.set_cons_zero, List.set_cons_succ]
          refine take_in (i := 6) _ (some 33) (by kernel_rfl) (by kernel_rfl) (by kernel_rfl) (by kernel_rfl) (fun _ _ _ h => h) (by rfl) (fun o ho w hSw => by cases ho; (try dsimp only at hSw); (try go_split_ands); go_simp; (try with_reducible rfl)) hHeld ?_
          try simp only [Act.put, List.setIfInBounds_toArray, List.set_cons_zero, List.set_cons_succ]
          refine take_in (i := 7) _ (some 34) (by kernel_rfl) (by kernel_rfl) (by kernel_rfl) (by kernel_rfl) (fun _ _ _ h => h) (by rfl) (fun o ho w hSw => by cases ho; (try dsimp only at hSw); (try go_split_ands); go_simp; (try with_reducible rfl)) hHeld ?_
          try simp only [Act.put, List.setIfInBounds_toArray, List.set_cons_zero, List.set_cons_succ]
          refine take_in (i := 8) _ (some 35) (by kernel_rfl) (by kernel_rfl) (by kernel_rfl) (by kernel_rfl) (fun _ _ _ h => h) (by rfl) (fun o ho w hSw => by cases ho; (try dsimp only at hSw); (try go_split_ands); go_simp; (try with_reducible rfl)) hHeld ?_
          try simp only [Act.put, List.setIfInBounds_toArray, List.set_cons_zero, List.set_cons_succ]
          refine take_in (i := 9) _ (some 36) (by kernel_rfl) (by kernel_rfl) (by kernel_rfl) (by kernel_rfl) (fun _ _ _ h => h) (by rfl) (fun o ho w hSw => by cases ho; (try dsimp only at hSw); (try go_split_ands); go_simp; (try with_reducible rfl)) hHeld ?_
          try simp only [Act.put, List.setIfInBounds_toArray, List.set_cons_zero, List.set_cons_succ]
          refine take_in (i := 10) _ (some 37) (by kernel_rfl) (by kernel_rfl) (by kernel_rfl) (by kernel_rfl) (fun _ _ _ h => h) (by rfl) (fun o ho w hSw => by cases ho; (try dsimp only at hSw); (try go_split_ands); go_simp; (try with_reducible rfl)) hHeld ?_
          try simp only [Act.put, List.setIfInBounds_toArray, List.set_cons_zero, List.set_cons_succ]
          refine take_in (i := 11) _ (some 38) (by kernel_rfl) (by kernel_rfl) (by kernel_rfl) (by kernel_rfl) (fun _ _ _ h => h) (by rfl) (fun o ho w hSw => by cases ho; (try dsimp only at hSw); (try go_split_ands); go_simp; (try with_reducible rfl)) hHeld ?_
          try simp only [Act.put, List.setIfInBounds_toArray, List.set_cons_zero, List.set_cons_succ]
          refine take_in (i := 12) _ (some 39) (by kernel_rfl) (by kernel_rfl) (by kernel_rfl) (by kernel_rfl) (fun _ _ _ h => h) (by rfl) (fun o ho w hSw => by cases ho; (try dsimp only at hSw); (try go_split_ands); go_simp; (try with_reducible rfl)) hHeld ?_
          try simp only [Act.put, List.setIfInBounds_toArray, List.set_cons_zero, List.set_cons_succ]
          refine take_in (i := 13) _ (some 40) (by kernel_rfl) (by kernel_rfl) (by kernel_rfl) (by kernel_rfl) (fun _ _ _ h => h) (by rfl) (fun o ho w hSw => by cases ho; (try dsimp only at hSw); (try go_split_ands); go_simp; (try with_reducible rfl)) hHeld ?_
          try simp only [Act.put, List.setIfInBounds_toArray, List.set_cons_zero, List.set_cons_succ]
          refine take_in (i := 14) _ (some 41) (by kernel_rfl) (by kernel_rfl) (by kernel_rfl) (by kernel_rfl) (fun _ _ _ h => h) (by rfl) (fun o ho w hSw => by cases ho; (try dsimp only at hSw); (try go_split_ands); go_simp; (try with_reducible rfl)) hHeld ?_
          try simp only [Act.put, List.setIfInBounds_toArray, List.set_cons_zero, List.set_cons_succ]
          refine take_in (i := 15) _ (some 42) (by kernel_rfl) (by kernel_rfl) (by kernel_rfl) (by kernel_rfl) (fun _ _ _ h => h) (by rfl) (fun o ho w hSw => by cases ho; (try dsimp only at hSw); (try go_split_ands); go_simp; (try with_reducible rfl)) hHeld ?_
          try simp only [Act.put, List.setIfInBounds_toArray, List.set_cons_zero, List.set_cons_succ]
          refine take_in (i := 16) _ (some 43) (by kernel_rfl) (by kernel_rfl) (by kernel_rfl) (by kernel_rfl) (fun _ _ _ h => h) (by rfl) (fun o ho w hSw => by cases ho; (try dsimp only at hSw); (try go_split_ands); go_simp; (try with_reducible rfl)) hHeld ?_
          try simp only [Act.put, List.setIfInBounds_toArray, List.set_cons_zero, List.set_cons_succ]
          refine take_in (i := 17) _ (some 44) (by kernel_rfl) (by kernel_rfl) (by kernel_rfl) (by kernel_rfl) (fun _ _ _ h => h) (by rfl) (fun o ho w hSw => by cases ho; (try dsimp only at hSw); (try go_split_ands); go_simp; (try with_reducible rfl)) hHeld ?_
          try simp only [Act.put, List.setIfInBounds_toArray, List.set_cons_zero, List.set_cons_succ]
          refine take_un (i := 18) (some 45) (by kernel_rfl) (by kernel_rfl) (by kernel_rfl) (by kernel_rfl) (fun _ _ _ h => h) (by rfl) hHeld ?_
          try simp only [Act.put, List.setIfInBounds_toArray, List.set_cons_zero, List.set_cons_succ]
          refine take_un (i := 19) (some 46) (by kernel_rfl) (by kernel_rfl) (by kernel_rfl) (by kernel_rfl) (fun _ _ _ h => h) (by rfl) hHeld ?_
          try simp only [Act.put, List.setIfInBounds_toArray, List.set_cons_zero, List.set_cons_succ]
          refine take_un (i := 20) (some 47) (by kernel_rfl) (by kernel_rfl) (by kernel_rfl) (by kernel_rfl) (fun _ _ _ h => h) (by rfl) hHeld ?_
          try simp only [Act.put, List.setIfInBounds_toArray, List.set_cons_zero, List.set_cons_succ]
          refine take_un (i := 21) (some 48) (by kernel_rfl) (by kernel_rfl) (by kernel_rfl) (by kernel_rfl) (fun _ _ _ h => h) (by rfl) hHeld ?_
          try simp only [Act.put, List.setIfInBounds_toArray, List.set_cons_zero, List.set_cons_succ]
          refine take_un (i := 22) (some 49) (by kernel_rfl) (by kernel_rfl) (by kernel_rfl) (by kernel_rfl) (fun _ _ _ h => h) (by rfl) hHeld ?_
          try simp only [Act.put, List.setIfInBounds_toArray, List.set_cons_zero, List.set_cons_succ]
          refine take_un (i := 23) (some 50) (by kernel_rfl) (by kernel_rfl) (by kernel_rfl) (by kernel_rfl) (fun _ _ _ h => h) (by rfl) hHeld ?_
          try simp only [Act.put, List.setIfInBounds_toArray, List.set_cons_zero, List.set_cons_succ]
          refine take_un (i := 24) (some 51) (by kernel_rfl) (by kernel_rfl) (by kernel_rfl) (by kernel_rfl) (fun _ _ _ h => h) (by rfl) hHeld ?_
          try simp only [Act.put, List.setIfInBounds_toArray, List.set_cons_zero, List.set_cons_succ]
          refine take_in (i := 25) _ (some 52) (by kernel_rfl) (by kernel_rfl) (by kernel_rfl) (by kernel_rfl) (fun _ _ _ h => h) (by rfl) (fun o ho w hSw => by cases ho; (try dsimp only at hSw); (try go_split_ands); go_simp; (try with_reducible rfl)) hHeld ?_
          try simp only [Act.put, List.setIfInBounds_toArray, List.set_cons_zero, List.set_cons_succ]
          refine wpAnyH_done (by kernel_rfl) ?_ _
          refine NoPanic.normal ?_
          have HW : Hid (txt (p.drop k) = wordR 2 (flat ((p.drop k).take (j - k))) ++ spt (p.drop (j - 1 + 1))) := by
            show _ = _
            rw [show j - 1 + 1 = j by omega]
            exact txt_runS HF.out (by omega) hjk HRUN.out
          have HLR := Lib.hid (range_run HRG.out k (j - k))
          have HLN : Hid ((flat ((p.drop k).take (j - k))).length ≤ 1000000) := Nat.le_trans (flat_run_le p k (j - k)) HFM.out
          have HLE : Hid (flat ((p.drop k).take (j - k)) ≠ []) := by
            show _ ≠ _
            intro h
            rw [drop_next HF.out, show j - k = (j - k - 1) + 1 by omega, List.take_succ_cons] at h
            unfold flat at h
            rw [List.flatMap_cons, List.append_eq_nil_iff] at h
            exact hv.2.1 h.1
          have HLI := Lib.hid ho.out.ints
          obtain ⟨L, hL⟩ : ∃ L, flat ((p.drop k).take (j - k)) = L := ⟨_, rfl⟩
          rw [hL] at HW HLR HLN HLE HLI ⊢
          have HJ1 : Hid (j = j - 1 + 1) := by show _ = _; omega
          clear hL ho HRUN
          by_cases hk0 : k = 0
          · have d0 : ¬ 0 < k := by omega
            have HK0 := Lib.hid hk0
            clear hk0
            go_wp2_with fail
            refine (word_any Al _ cl _ L (⟨#[32]⟩ : ByteArray) 32 (⟨#[]⟩ : ByteArray) (⟨#[]⟩ : ByteArray) wr.drew (HLI.out.below (Below.refl _ _).drew) (Nat.le_refl _) rfl HLR.out (Nat.le_trans HLN.out (by omega)) (by decide) (by decide)).mono ?_
            rintro e w2 ⟨rfl, hb2⟩
            have hbd : Below wr.heap.size wr wr.drew := (Below.refl _ _).drew
            have HBT : Hid (Below w.heap.size w w2) := below3 hbq.out (hbd.trans hb2)
            obtain ⟨pt, hpt⟩ : ∃ x, strB ((⟨#[]⟩ : ByteArray).data.toList ++ (sepd 32 L ++ (⟨#[]⟩ : ByteArray).data.toList)) = x := ⟨_, rfl⟩
            have hpl : pt.data.toList = wordR 2 L := by rw [← hpt, strB_list]; simp [wordR]
            have hpz : pt.size ≤ 11000002 := by
              rw [size_list, hpl]
              have := word_short (k := 2) HLR.out
              have := HLN.out
              omega
            rw [hpt]
            have hsz : b.size + pt.size ≤ 9223372036854775807 := by omega
            have hsz2 : (b.size : Int) + (pt.size : Int) ≤ 9223372036854775807 := by omega
            have HN : Hid (TAt p (j - 1 + 1) (b ++ pt)) := by
              have hk0 := HK0.out
              subst hk0
              exact hb.out.zero (word_ne HLE.out) HW.out (by rw [add_list, hpl])
            clear hb hpt hpl hbd hb2
            go_wp2
            go_roundw
            case rel => exact ⟨j - 1 + 1, b ++ pt, by omega, by rw [← HJ1.out], rfl, HN, HBT⟩
            case measure => simp [intOf] <;> omega
          · have d0 : 0 < k := by omega
            have HK0 := Lib.hid hk0
            clear hk0
            have d1 : (0 : Int) < (k : Int) := by omega
            have hsz : b.size + 1 ≤ 9223372036854775807 := by omega
            have hsz1 : (b.size : Int) + 1 ≤ 9223372036854775807 := by omega
            go_wp2_with fail
            refine (word_any Al _ cl _ L (⟨#[32]⟩ : ByteArray) 32 (⟨#[]⟩ : ByteArray) (⟨#[]⟩ : ByteArray) wr.drew (HLI.out.below (Below.refl _ _).drew) (Nat.le_refl _) rfl HLR.out (Nat.le_trans HLN.out (by omega)) (by decide) (by decide)).mono ?_
            rintro e w2 ⟨rfl, hb2⟩
            have hbd : Below wr.heap.size wr wr.drew := (Below.refl _ _).drew
            have HBT : Hid (Below w.heap.size w w2) := below3 hbq.out (hbd.trans hb2)
            obtain ⟨pt, hpt⟩ : ∃ x, strB ((⟨#[]⟩ : ByteArray).data.toList ++ (sepd 32 L ++ (⟨#[]⟩ : ByteArray).data.toList)) = x := ⟨_, rfl⟩
            have hpl : pt.data.toList = wordR 2 L := by rw [← hpt, strB_list]; simp [wordR]
            have hpz : pt.size ≤ 11000002 := by
              rw [size_list, hpl]
              have := word_short (k := 2) HLR.out
              have := HLN.out
              omega
            rw [hpt]
            have hsz2 : b.size + 1 + pt.size ≤ 9223372036854775807 := by omega
            have hsz3 : (b.size : Int) + 1 + (pt.size : Int) ≤ 9223372036854775807 := by omega
            have HN : Hid (TAt p (j - 1 + 1) ((b ++ (⟨#[32]⟩ : ByteArray)) ++ pt)) := hb.out.next HK0.out (by rw [HL.out]; exact hlt) HW.out (by rw [add_list, add_list, hpl])
            clear hb hpt hpl hbd hb2
            go_wp2
            go_roundw
            case rel => exact ⟨j - 1 + 1, (b ++ (⟨#[32]⟩ : ByteArray)) ++ pt, by omega, by rw [← HJ1.out], rfl, HN, HBT⟩
            case measure => simp [intOf] <;> omega
        subst h3
        have HRUN' : Hid (j + 1 - k - 1 ≤ runS 2 (p.drop (k + 1))) := by
          show _ ≤ _
          have h1 := hrun.out
          have h2 : runS 2 (p.drop (k + 1)) = runL 2 (p.drop (k + 1)) := if_neg (by decide)
          rw [h2] at h1 ⊢
          have := runL_go h1 hg2 rfl
          omega
        have hmo := flat_moreS hjk hf2.out
        have hfl2 : xs2.length = fn2 := hi2.out.len
        have hle2 : (flat ((p.drop k).take (j - k))).length ≤ 1000000 := Nat.le_trans (flat_run_le p k (j - k)) HFM.out
        have hv2 := (HVA.out _ (List.mem_of_getElem? hf2.out)).2.2.1
        have hbd : Below wr.heap.size wr wr.drew := HDR.out
        obtain ⟨A5, c5, w5, hr5, ho5, hb5⟩ := push_ints (w := wr.drew) (row_below ho.out hbd) (hi2.out.below (hbd.mono hwq)) hwq (by have : xs2.length ≤ 255 := hv2; omega)
        have HR5 := Lib.hid hr5
        have HO5 : Hid (Own w5 w.heap.size 3 .i64 (.slice A5 ((flat ((p.drop k).take (j - k))).length + fn2) c5) (flat ((p.drop k).take (j + 1 - k))).length (flat ((p.drop k).take (j + 1 - k)))) := by
          show Own _ _ _ _ _ _ _
          rw [hmo, List.length_append]
          show Own _ _ _ _ _ ((flat ((p.drop k).take (j - k))).length + xs2.length) (flat ((p.drop k).take (j - k)) ++ xs2)
          rw [hfl2]
          exact ho5
        have HB5 : Hid (Below w.heap.size w w5) := (below3 hbq.out hbd).trans hb5
        clear hrun hi hg2 hf2 hi2 hmo hfl2 hle2 hv2 hr5 ho5 hb5 ho hbd g0 g1
        go_wp2_with fail
        refine wp_region_noPanic ?_
        refine wp_region_held_drew (S := fun w' => w'.cell? ⟨b2, o2 + j * 2, none⟩ = some (.int .i64 2) ∧ w'.cell? ⟨b2, o2 + k * 2, none⟩ = some (.int .i64 2)) (by kernel_rfl) (HS.out _ HDR.out) (fun hHeld => ?_)
        refine take_in (i := 0) _ (some 27) (by kernel_rfl) (by kernel_rfl) (by kernel_rfl) (by kernel_rfl) (fun _ _ _ h => h) (by rfl) (fun o ho w hSw => by cases ho; (try dsimp only at hSw); (try go_split_ands); go_simp; (try with_reducible rfl)) hHeld ?_
        try simp only [Act.put, List.setIfInBounds_toArray, List.set_cons_zero, List.set_cons_succ]
        refine take_in (i := 1) _ (some 28) (by kernel_rfl) (by kernel_rfl) (by kernel_rfl) (by kernel_rfl) (fun _ _ _ h => h) (by rfl) (fun o ho w hSw => by cases ho; (try dsimp only at hSw); (try go_split_ands); go_simp; (try with_reducible rfl)) hHeld ?_
        try simp only [Act.put, List.setIfInBounds_toArray, List.set_cons_zero, List.set_cons_succ]
        refine take_in (i := 2) _ (some 29) (by kernel_rfl) (by kernel_rfl) (by kernel_rfl) (by kernel_rfl) (fun _ _ _ h => h) (by rfl) (fun o ho w hSw => by cases ho; (try dsimp only at hSw); (try go_split_ands); go_simp; (try with_reducible rfl)) hHeld ?_
        try simp only [Act.put, List.setIfInBounds_toArray, List.set_cons_zero, List.set_cons_succ]
        refine take_in (i := 3) _ (some 30) (by kernel_rfl) (by kernel_rfl) (by kernel_rfl) (by kernel_rfl) (fun _ _ _ h => h) (by rfl) (fun o ho w hSw => by cases ho; (try dsimp only at hSw); (try go_split_ands); go_simp; (try with_reducible rfl)) hHeld ?_
        try simp only [Act.put, List.setIfInBounds_toArray, List.set_cons_zero, List.set_cons_succ]
        refine take_in (i := 4) _ (some 31) (by kernel_rfl) (by kernel_rfl) (by kernel_rfl) (by kernel_rfl) (fun _ _ _ h => h) (by rfl) (fun o ho w hSw => by cases ho; (try dsimp only at hSw); (try go_split_ands); go_simp; (try with_reducible rfl)) hHeld ?_
        try simp only [Act.put, List.setIfInBounds_toArray, List.set_cons_zero, List.set_cons_succ]
        refine take_in (i := 5) _ (some 32) (by kernel_rfl) (by kernel_rfl) (by kernel_rfl) (by kernel_rfl) (fun _ _ _ h => h) (by rfl) (fun o ho w hSw => by cases ho; (try dsimp only at hSw); (try go_split_ands); go_simp; (try with_reducible rfl)) hHeld ?_
        try simp only [Act.put, List.setIfInBounds_toArray, List.set_cons_zero, List.set_cons_succ]
        refine take_in (i := 6) _ (some 33) (by kernel_rfl) (by kernel_rfl) (by kernel_rfl) (by kernel_rfl) (fun _ _ _ h => h) (by rfl) (fun o ho w hSw => by cases ho; (try dsimp only at hSw); (try go_split_ands); go_simp; (try with_reducible rfl)) hHeld ?_
        try simp only [Act.put, List.setIfInBounds_toArray, List.set_cons_zero, List.set_cons_succ]
        refine take_in (i := 7) _ (some 34) (by kernel_rfl) (by kernel_rfl) (by kernel_rfl) (by kernel_rfl) (fun _ _ _ h => h) (by rfl) (fun o ho w hSw => by cases ho; (try dsimp only at hSw); (try go_split_ands); go_simp; (try with_reducible rfl)) hHeld ?_
        try simp only [Act.put, List.setIfInBounds_toArray, List.set_cons_zero, List.set_cons_succ]
        refine take_in (i := 8) _ (some 35) (by kernel_rfl) (by kernel_rfl) (by kernel_rfl) (by kernel_rfl) (fun _ _ _ h => h) (by rfl) (fun o ho w hSw => by cases ho; (try dsimp only at hSw); (try go_split_ands); go_simp; (try with_reducible rfl)) hHeld ?_
        try simp only [Act.put, List.setIfInBounds_toArray, List.set_cons_zero, List.set_cons_succ]
        refine take_in (i := 9) _ (some 36) (by kernel_rfl) (by kernel_rfl) (by kernel_rfl) (by kernel_rfl) (fun _ _ _ h => h) (by rfl) (fun o ho w hSw => by cases ho; (try dsimp only at hSw); (try go_split_ands); go_simp; (try with_reducible rfl)) hHeld ?_
        try simp only [Act.put, List.setIfInBounds_toArray, List.set_cons_zero, List.set_cons_succ]
        refine take_in (i := 10) _ (some 37) (by kernel_rfl) (by kernel_rfl) (by kernel_rfl) (by kernel_rfl) (fun _ _ _ h => h) (by rfl) (fun o ho w hSw => by cases ho; (try dsimp only at hSw); (try go_split_ands); go_simp; (try with_reducible rfl)) hHeld ?_
        try simp only [Act.put, List.setIfInBounds_toArray, List.set_cons_zero, List.set_cons_succ]
        refine take_in (i := 11) _ (some 38) (by kernel_rfl) (by kernel_rfl) (by kernel_rfl) (by kernel_rfl) (fun _ _ _ h => h) (by rfl) (fun o ho w hSw => by cases ho; (try dsimp only at hSw); (try go_split_ands); go_simp; (try with_reducible rfl)) hHeld ?_
        try simp only [Act.put, List.setIfInBounds_toArray, List.set_cons_zero, List.set_cons_succ]
        refine take_in (i := 12) _ (some 39) (by kernel_rfl) (by kernel_rfl) (by kernel_rfl) (by kernel_rfl) (fun _ _ _ h => h) (by rfl) (fun o ho w hSw => by cases ho; (try dsimp only at hSw); (try go_split_ands); go_simp; (try with_reducible rfl)) hHeld ?_
        try simp only [Act.put, List.setIfInBounds_toArray, List.set_cons_zero, List.set_cons_succ]
        refine take_in (i := 13) _ (some 40) (by kernel_rfl) (by kernel_rfl) (by kernel_rfl) (by kernel_rfl) (fun _ _ _ h => h) (by rfl) (fun o ho w hSw => by cases ho; (try dsimp only at hSw); (try go_split_ands); go_simp; (try with_reducible rfl)) hHeld ?_
        try simp only [Act.put, List.setIfInBounds_toArray, List.set_cons_zero, List.set_cons_succ]
        refine take_in (i := 14) _ (some 41) (by kernel_rfl) (by kernel_rfl) (by kernel_rfl) (by kernel_rfl) (fun _ _ _ h => h) (by rfl) (fun o ho w hSw => by cases ho; (try dsimp only at hSw); (try go_split_ands); go_simp; (try with_reducible rfl)) hHeld ?_
        try simp only [Act.put, List.setIfInBounds_toArray, List.set_cons_zero, List.set_cons_succ]
        refine take_in (i := 15) _ (some 42) (by kernel_rfl) (by kernel_rfl) (by kernel_rfl) (by kernel_rfl) (fun _ _ _ h => h) (by rfl) (fun o ho w hSw => by cases ho; (try dsimp only at hSw); (try go_split_ands); go_simp; (try with_reducible rfl)) hHeld ?_
        try simp only [Act.put, List.setIfInBounds_toArray, List.set_cons_zero, List.set_cons_succ]
        refine take_in (i := 16) _ (some 43) (by kernel_rfl) (by kernel_rfl) (by kernel_rfl) (by kernel_rfl) (fun _ _ _ h => h) (by rfl) (fun o ho w hSw => by cases ho; (try dsimp only at hSw); (try go_split_ands); go_simp; (try with_reducible rfl)) hHeld ?_
        try simp only [Act.put, List.setIfInBounds_toArray, List.set_cons_zero, List.set_cons_succ]
        refine take_in (i := 17) _ (some 44) (by kernel_rfl) (by kernel_rfl) (by kernel_rfl) (by kernel_rfl) (fun _ _ _ h => h) (by rfl) (fun o ho w hSw => by cases ho; (try dsimp only at hSw); (try go_split_ands); go_simp; (try with_reducible rfl)) hHeld ?_
        try simp only [Act.put, List.setIfInBounds_toArray, List.set_cons_zero, List.set_cons_succ]
        refine take_in (i := 18) _ (some 45) (by kernel_rfl) (by kernel_rfl) (by kernel_rfl) (by kernel_rfl) (fun _ _ _ h => h) (by rfl) (fun o ho w hSw => by cases ho; (try dsimp only at hSw); (try go_split_ands); go_simp; (try with_reducible rfl)) hHeld ?_
        try simp only [Act.put, List.setIfInBounds_toArray, List.set_cons_zero, List.set_cons_succ]
        refine take_in (i := 19) _ (some 46) (by kernel_rfl) (by kernel_rfl) (by kernel_rfl) (by kernel_rfl) (fun _ _ _ h => h) (by rfl) (fun o ho w hSw => by cases ho; (try dsimp only at hSw); (try go_split_ands); go_simp; (try with_reducible rfl)) hHeld ?_
        try simp only [Act.put, List.setIfInBounds_toArray, List.set_cons_zero, List.set_cons_succ]
        refine take_in (i := 20) _ (some 47) (by kernel_rfl) (by kernel_rfl) (by kernel_rfl) (by kernel_rfl) (fun _ _ _ h => h) (by rfl) (fun o ho w hSw => by cases ho; (try dsimp only at hSw); (try go_split_ands); go_simp; (try with_reducible rfl)) hHeld ?_
        try simp only [Act.put, List.setIfInBounds_toArray, List.set_cons_zero, List.set_cons_succ]
        refine take_in (i := 21) _ (some 48) (by kernel_rfl) (by kernel_rfl) (by kernel_rfl) (by kernel_rfl) (fun _ _ _ h => h) (by rfl) (fun o ho w hSw => by cases ho; (try dsimp only at hSw); (try go_split_ands); go_simp; (try with_reducible rfl)) hHeld ?_
        try simp only [Act.put, List.setIfInBounds_toArray, List.set_cons_zero, List.set_cons_succ]
        refine take_in (i := 22) _ (some 49) (by kernel_rfl) (by kernel_rfl) (by kernel_rfl) (by kernel_rfl) (fun _ _ _ h => h) (by rfl) (fun o ho w hSw => by cases ho; (try dsimp only at hSw); (try go_split_ands); go_simp; (try with_reducible rfl)) hHeld ?_
        try simp only [Act.put, List.setIfInBounds_toArray, List.set_cons_zero, List.set_cons_succ]
        refine wpAnyH_ready (rs := [23]) (by kernel_rfl) (by simp) ?_
        refine AllReadyH.cons (o := _) rfl (fun K hK => ?_) AllReadyH.nil
        go_simp
        go_at_call 51
        with_reducible refine (isSet_any _ _).mono ?_
        rintro e w9 ⟨rfl, rfl⟩
        rw [show setB 2 = false from by decide]
        refine hK.out _ _ hHeld (fun hHeld => ?_)
        clear hK K
        try simp only [Act.put, List.setIfInBounds_toArray, List.set_cons_zero, List.set_cons_succ]
        refine take_in (i := 24) _ (some 51) (by kernel_rfl) (by kernel_rfl) (by kernel_rfl) (by kernel_rfl) (fun _ _ _ h => h) (by rfl) (fun o ho w hSw => by cases ho; (try dsimp only at hSw); (try go_split_ands); go_simp; (try with_reducible rfl)) hHeld ?_
        try simp only [Act.put, List.setIfInBounds_toArray, List.set_cons_zero, List.set_cons_succ]
        refine take_in (i := 25) _ (some 52) (by kernel_rfl) (by kernel_rfl) (by kernel_rfl) (by kernel_rfl) (fun _ _ _ h => h) (by rfl) (fun o ho w hSw => by cases ho; (try dsimp only at hSw); (try go_split_ands); go_simp; (try with_reducible rfl)) hHeld ?_
        try simp only [Act.put, List.setIfInBounds_toArray, List.set_cons_zero, List.set_cons_succ]
        refine wpAnyH_done (by kernel_rfl) ?_ _
        refine NoPanic.normal ?_
        go_wp2_with (at_builtin; refine wpList_append_run rfl _ _ _ rfl rfl rfl HR5.out ?_)
        go_roundw
        case rel => exact ⟨j + 1, by omega, by omega, by go_num, HRUN', HO5, HB5⟩
        case measure => simp [intOf]; omega
    · obtain ⟨A4, c4, w4, hr4, ho4, hb4⟩ := copy_ints hi.out hwr rfl (by omega)
      have HR4 := Lib.hid hr4
      have HO4 : Hid (Own w4 w.heap.size 3 .i64 (.slice A4 fn c4) (flat ((p.drop k).take (k + 1 - k))).length (flat ((p.drop k).take (k + 1 - k)))) := by
        have e : flat ((p.drop k).take (k + 1 - k)) = xs := by
          rw [show k + 1 - k = 1 by omega, drop_next HF.out]
          simp [flat]
        show Own _ _ _ _ _ _ _
        rw [e, hfl]
        exact own_mono ho4 hwr
      have HB4 := Lib.hid (below3 hbw.out hb4)
      clear hr4 ho4 hb4
      go_wp2_with (at_builtin; refine wpList_append_run rfl _ _ _ rfl rfl rfl HR4.out ?_)
      obtain ⟨wo, hwo⟩ : ∃ wo : World, wo = wr := ⟨_, rfl⟩
      subst hwo
      go_loopw [7, 8] (fun lv jv wq => RfInv w p n k 1 lv jv wq) (fun _ jv _ => n - (intOf jv).toNat)
      case atStart => exact ⟨k + 1, by omega, by omega, by go_num, by show _ ≤ _; omega, HO4, HB4⟩
      case round =>
        obtain ⟨j, hjk, hjn, rfl, hrun, ho, hbq⟩ := hrel
        obtain ⟨Al, cl, rfl⟩ := own_form ho.out
        have hwq := hbq.out.size
        have hbq2 : b2 < wr.heap.size := by omega
        have p0 : wr.cell? ⟨b2, o2 + k * 2, none⟩ = some (.int .i64 1) := ((hbq.out.cell (p := ⟨b2, o2 + k * 2, none⟩) hbB).trans (hbw.out.cell (p := ⟨b2, o2 + k * 2, none⟩) hbB).symm).trans g0
        by_cases hj1 : j < n
        case neg =>
          have hnj : ¬ (j : Int) < (n : Int) := by omega
          have HRUN : Hid (runS 1 (p.drop (k + 1)) = j - k - 1) := by
            show _ = _
            have h1 := runS_le 1 (p.drop (k + 1))
            rw [List.length_drop, HL.out] at h1
            have h2 := hrun.out
            omega
          clear hrun hi g0 g1
          go_wp2_with fail
          refine wp_region_noPanic ?_
          refine wp_region_held_drew (S := fun _ => True) (by kernel_rfl) trivial (fun hHeld => ?_)
          refine take_in (i := 0) _ (some 27) (by kernel_rfl) (by kernel_rfl) (by kernel_rfl) (by kernel_rfl) (fun _ _ _ h => h) (by rfl) (fun o ho w hSw => by cases ho; (try dsimp only at hSw); (try go_split_ands); go_simp; (try with_reducible rfl)) hHeld ?_
          try simp only [Act.put, List.setIfInBounds_toArray, List.set_cons_zero, List.set_cons_succ]
          refine take_in (i := 1) _ (some 28) (by kernel_rfl) (by kernel_rfl) (by kernel_rfl) (by kernel_rfl) (fun _ _ _ h => h) (by rfl) (fun o ho w hSw => by cases ho; (try dsimp only at hSw); (try go_split_ands); go_simp; (try with_reducible rfl)) hHeld ?_
          try simp only [Act.put, List.setIfInBounds_toArray, List.set_cons_zero, List.set_cons_succ]
          refine take_in (i := 2) _ (some 29) (by kernel_rfl) (by kernel_rfl) (by kernel_rfl) (by kernel_rfl) (fun _ _ _ h => h) (by rfl) (fun o ho w hSw => by cases ho; (try dsimp only at hSw); (try go_split_ands); go_simp; (try with_reducible rfl)) hHeld ?_
          try simp only [Act.put, List.setIfInBounds_toArray, List.set_cons_zero, List.set_cons_succ]
          refine take_in (i := 3) _ (some 30) (by kernel_rfl) (by kernel_rfl) (by kernel_rfl) (by kernel_rfl) (fun _ _ _ h => h) (by rfl) (fun o ho w hSw => by cases ho; (try dsimp only at hSw); (try go_split_ands); go_simp; (try with_reducible rfl)) hHeld ?_
          try simp only [Act.put, List.setIfInBounds_toArray, List.set_cons_zero, List.set_cons_succ]
          refine take_in (i := 4) _ (some 31) (by kernel_rfl) (by kernel_rfl) (by kernel_rfl) (by kernel_rfl) (fun _ _ _ h => h) (by rfl) (fun o ho w hSw => by cases ho; (try dsimp only at hSw); (try go_split_ands); go_simp; (try with_reducible rfl)) hHeld ?_
          try simp only [Act.put, List.setIfInBounds_toArray, List.set_cons_zero, List.set_cons_succ]
          refine take_un (i := 5) (some 32) (by kernel_rfl) (by kernel_rfl) (by kernel_rfl) (by kernel_rfl) (fun _ _ _ h => h) (by rfl) hHeld ?_
          try simp only [Act.put, List.setIfInBounds_toArray, List.set_cons_zero, List.set_cons_succ]
          refine take_un (i := 6) (some 33) (by kernel_rfl) (by kernel_rfl) (by kernel_rfl) (by kernel_rfl) (fun _ _ _ h => h) (by rfl) hHeld ?_
          try simp only [Act.put, List.setIfInBounds_toArray, List.set_cons_zero, List.set_cons_succ]
          refine take_un (i := 7) (some 34) (by kernel_rfl) (by kernel_rfl) (by kernel_rfl) (by kernel_rfl) (fun _ _ _ h => h) (by rfl) hHeld ?_
          try simp only [Act.put, List.setIfInBounds_toArray, List.set_cons_zero, List.set_cons_succ]
          refine take_un (i := 8) (some 35) (by kernel_rfl) (by kernel_rfl) (by kernel_rfl) (by kernel_rfl) (fun _ _ _ h => h) (by rfl) hHeld ?_
          try simp only [Act.put, List.setIfInBounds_toArray, List.set_cons_zero, List.set_cons_succ]
          refine take_un (i := 9) (some 36) (by kernel_rfl) (by kernel_rfl) (by kernel_rfl) (by kernel_rfl) (fun _ _ _ h => h) (by rfl) hHeld ?_
          try simp only [Act.put, List.setIfInBounds_toArray, List.set_cons_zero, List.set_cons_succ]
          refine take_un (i := 10) (some 37) (by kernel_rfl) (by kernel_rfl) (by kernel_rfl) (by kernel_rfl) (fun _ _ _ h => h) (by rfl) hHeld ?_
          try simp only [Act.put, List.setIfInBounds_toArray, List.set_cons_zero, List.set_cons_succ]
          refine take_un (i := 11) (some 38) (by kernel_rfl) (by kernel_rfl) (by kernel_rfl) (by kernel_rfl) (fun _ _ _ h => h) (by rfl) hHeld ?_
          try simp only [Act.put, List.setIfInBounds_toArray, List.set_cons_zero, List.set_cons_succ]
          refine take_un (i := 12) (some 39) (by kernel_rfl) (by kernel_rfl) (by kernel_rfl) (by kernel_rfl) (fun _ _ _ h => h) (by rfl) hHeld ?_
          try simp only [Act.put, List.setIfInBounds_toArray, List.set_cons_zero, List.set_cons_succ]
          refine take_un (i := 13) (some 40) (by kernel_rfl) (by kernel_rfl) (by kernel_rfl) (by kernel_rfl) (fun _ _ _ h => h) (by rfl) hHeld ?_
          try simp only [Act.put, List.setIfInBounds_toArray, List.set_cons_zero, List.set_cons_succ]
          refine take_un (i := 14) (some 41) (by kernel_rfl) (by kernel_rfl) (by kernel_rfl) (by kernel_rfl) (fun _ _ _ h => h) (by rfl) hHeld ?_
          try simp only [Act.put, List.setIfInBounds_toArray, List.set_cons_zero, List.set_cons_succ]
          refine take_un (i := 15) (some 42) (by kernel_rfl) (by kernel_rfl) (by kernel_rfl) (by kernel_rfl) (fun _ _ _ h => h) (by rfl) hHeld ?_
          try simp only [Act.put, List.setIfInBounds_toArray, List.set_cons_zero, List.set_cons_succ]
          refine take_in (i := 16) _ (some 43) (by kernel_rfl) (by kernel_rfl) (by kernel_rfl) (by kernel_rfl) (fun _ _ _ h => h) (by rfl) (fun o ho w hSw => by cases ho; (try dsimp only at hSw); (try go_split_ands); go_simp; (try with_reducible rfl)) hHeld ?_
          try simp only [Act.put, List.setIfInBounds_toArray, List.set_cons_zero, List.set_cons_succ]
          refine take_in (i := 17) _ (some 44) (by kernel_rfl) (by kernel_rfl) (by kernel_rfl) (by kernel_rfl) (fun _ _ _ h => h) (by rfl) (fun o ho w hSw => by cases ho; (try dsimp only at hSw); (try go_split_ands); go_simp; (try with_reducible rfl)) hHeld ?_
          try simp only [Act.put, List.setIfInBounds_toArray, List.set_cons_zero, List.set_cons_succ]
          refine take_un (i := 18) (some 45) (by kernel_rfl) (by kernel_rfl) (by kernel_rfl) (by kernel_rfl) (fun _ _ _ h => h) (by rfl) hHeld ?_
          try simp only [Act.put, List.setIfInBounds_toArray, List.set_cons_zero, List.set_cons_succ]
          refine take_un (i := 19) (some 46) (by kernel_rfl) (by kernel_rfl) (by kernel_rfl) (by kernel_rfl) (fun _ _ _ h => h) (by rfl) hHeld ?_
          try simp only [Act.put, List.setIfInBounds_toArray, List.set_cons_zero, List.set_cons_succ]
          refine take_un (i := 20) (some 47) (by kernel_rfl) (by kernel_rfl) (by kernel_rfl) (by kernel_rfl) (fun _ _ _ h => h) (by rfl) hHeld ?_
          try simp only [Act.put, List.setIfInBounds_toArray, List.set_cons_zero, List.set_cons_succ]
          refine take_un (i := 21) (some 48) (by kernel_rfl) (by kernel_rfl) (by kernel_rfl) (by kernel_rfl) (fun _ _ _ h => h) (by rfl) hHeld ?_
          try simp only [Act.put, List.setIfInBounds_toArray, List.set_cons_zero, List.set_cons_succ]
          refine take_un (i := 22) (some 49) (by kernel_rfl) (by kernel_rfl) (by kernel_rfl) (by kernel_rfl) (fun _ _ _ h => h) (by rfl) hHeld ?_
          try simp only [Act.put, List.setIfInBounds_toArray, List.set_cons_zero, List.set_cons_succ]
          refine take_un (i := 23) (some 50) (by kernel_rfl) (by kernel_rfl) (by kernel_rfl) (by kernel_rfl) (fun _ _ _ h => h) (by rfl) hHeld ?_
          try simp only [Act.put, List.setIfInBounds_toArray, List.set_cons_zero, List.set_cons_succ]
          refine take_un (i := 24) (some 51) (by kernel_rfl) (by kernel_rfl) (by kernel_rfl) (by kernel_rfl) (fun _ _ _ h => h) (by rfl) hHeld ?_
          try simp only [Act.put, List.setIfInBounds_toArray, List.set_cons_zero, List.set_cons_succ]
          refine take_in (i := 25) _ (some 52) (by kernel_rfl) (by kernel_rfl) (by kernel_rfl) (by kernel_rfl) (fun _ _ _ h => h) (by rfl) (fun o ho w hSw => by cases ho; (try dsimp only at hSw); (try go_split_ands); go_simp; (try with_reducible rfl)) hHeld ?_
          try simp only [Act.put, List.setIfInBounds_toArray, List.set_cons_zero, List.set_cons_succ]
          refine wpAnyH_done (by kernel_rfl) ?_ _
          refine NoPanic.normal ?_
          have HW : Hid (txt (p.drop k) = wordR 1 (flat ((p.drop k).take (j - k))) ++ spt (p.drop (j - 1 + 1))) := by
            show _ = _
            rw [show j - 1 + 1 = j by omega]
            exact txt_runS HF.out (by omega) hjk HRUN.out
          have HLR := Lib.hid (range_run HRG.out k (j - k))
          have HLN : Hid ((flat ((p.drop k).take (j - k))).length ≤ 1000000) := Nat.le_trans (flat_run_le p k (j - k)) HFM.out
          have HLE : Hid (flat ((p.drop k).take (j - k)) ≠ []) := by
            show _ ≠ _
            intro h
            rw [drop_next HF.out, show j - k = (j - k - 1) + 1 by omega, List.take_succ_cons] at h
            unfold flat at h
            rw [List.flatMap_cons, List.append_eq_nil_iff] at h
            exact hv.2.1 h.1
          have HLI := Lib.hid ho.out.ints
          obtain ⟨L, hL⟩ : ∃ L, flat ((p.drop k).take (j - k)) = L := ⟨_, rfl⟩
          rw [hL] at HW HLR HLN HLE HLI ⊢
          have HJ1 : Hid (j = j - 1 + 1) := by show _ = _; omega
          clear hL ho HRUN
          by_cases hk0 : k = 0
          · have d0 : ¬ 0 < k := by omega
            have HK0 := Lib.hid hk0
            clear hk0
            go_wp2_with fail
            refine (word_any Al _ cl _ L (⟨#[44]⟩ : ByteArray) 44 (⟨#[123]⟩ : ByteArray) (⟨#[125]⟩ : ByteArray) wr.drew (HLI.out.below (Below.refl _ _).drew) (Nat.le_refl _) rfl HLR.out (Nat.le_trans HLN.out (by omega)) (by decide) (by decide)).mono ?_
            rintro e w2 ⟨rfl, hb2⟩
            have hbd : Below wr.heap.size wr wr.drew := (Below.refl _ _).drew
            have HBT : Hid (Below w.heap.size w w2) := below3 hbq.out (hbd.trans hb2)
            obtain ⟨pt, hpt⟩ : ∃ x, strB ((⟨#[123]⟩ : ByteArray).data.toList ++ (sepd 44 L ++ (⟨#[125]⟩ : ByteArray).data.toList)) = x := ⟨_, rfl⟩
            have hpl : pt.data.toList = wordR 1 L := by rw [← hpt, strB_list]; simp [wordR]
            have hpz : pt.size ≤ 11000002 := by
              rw [size_list, hpl]
              have := word_short (k := 1) HLR.out
              have := HLN.out
              omega
            rw [hpt]
            have hsz : b.size + pt.size ≤ 9223372036854775807 := by omega
            have hsz2 : (b.size : Int) + (pt.size : Int) ≤ 9223372036854775807 := by omega
            have HN : Hid (TAt p (j - 1 + 1) (b ++ pt)) := by
              have hk0 := HK0.out
              subst hk0
              exact hb.out.zero (word_ne HLE.out) HW.out (by rw [add_list, hpl])
            clear hb hpt hpl hbd hb2
            go_wp2
            go_roundw
            case rel => exact ⟨j - 1 + 1, b ++ pt, by omega, by rw [← HJ1.out], rfl, HN, HBT⟩
            case measure => simp [intOf] <;> omega
          · have d0 : 0 < k := by omega
            have HK0 := Lib.hid hk0
            clear hk0
            have d1 : (0 : Int) < (k : Int) := by omega
            have hsz : b.size + 1 ≤ 9223372036854775807 := by omega
            have hsz1 : (b.size : Int) + 1 ≤ 9223372036854775807 := by omega
            go_wp2_with fail
            refine (word_any Al _ cl _ L (⟨#[44]⟩ : ByteArray) 44 (⟨#[123]⟩ : ByteArray) (⟨#[125]⟩ : ByteArray) wr.drew (HLI.out.below (Below.refl _ _).drew) (Nat.le_refl _) rfl HLR.out (Nat.le_trans HLN.out (by omega)) (by decide) (by decide)).mono ?_
            rintro e w2 ⟨rfl, hb2⟩
            have hbd : Below wr.heap.size wr wr.drew := (Below.refl _ _).drew
            have HBT : Hid (Below w.heap.size w w2) := below3 hbq.out (hbd.trans hb2)
            obtain ⟨pt, hpt⟩ : ∃ x, strB ((⟨#[123]⟩ : ByteArray).data.toList ++ (sepd 44 L ++ (⟨#[125]⟩ : ByteArray).data.toList)) = x := ⟨_, rfl⟩
            have hpl : pt.data.toList = wordR 1 L := by rw [← hpt, strB_list]; simp [wordR]
            have hpz : pt.size ≤ 11000002 := by
              rw [size_list, hpl]
              have := word_short (k := 1) HLR.out
              have := HLN.out
              omega
            rw [hpt]
            have hsz2 : b.size + 1 + pt.size ≤ 9223372036854775807 := by omega
            have hsz3 : (b.size : Int) + 1 + (pt.size : Int) ≤ 9223372036854775807 := by omega
            have HN : Hid (TAt p (j - 1 + 1) ((b ++ (⟨#[32]⟩ : ByteArray)) ++ pt)) := hb.out.next HK0.out (by rw [HL.out]; exact hlt) HW.out (by rw [add_list, add_list, hpl])
            clear hb hpt hpl hbd hb2
            go_wp2
            go_roundw
            case rel => exact ⟨j - 1 + 1, (b ++ (⟨#[32]⟩ : ByteArray)) ++ pt, by omega, by rw [← HJ1.out], rfl, HN, HBT⟩
            case measure => simp [intOf] <;> omega
        have hji : (j : Int) < (n : Int) := by omega
        obtain ⟨b2', o2', f2, hbe2, hbB2, hf2, q0, q1, hi2⟩ := (HX.out.below hbq.out).get hj1
        simp only [Option.some.injEq, Addr.mk.injEq, and_true] at hbe2
        obtain ⟨rfl, rfl⟩ := hbe2
        obtain ⟨y2, fA2, fn2, fc2, xs2⟩ := f2
        dsimp only at q0 q1 hi2
        have hg2 : (p.drop (k + 1))[j - k - 1]? = some (y2, xs2) := by rw [List.getElem?_drop, show k + 1 + (j - k - 1) = j by omega]; exact hf2.out
        have HS : Hid (∀ W, Below wr.heap.size wr W → W.cell? ⟨b2, o2 + j * 2, none⟩ = some (.int .i64 y2) ∧ W.cell? ⟨b2, o2 + k * 2, none⟩ = some (.int .i64 1)) := fun W h => ⟨(h.cell (p := ⟨b2, o2 + j * 2, none⟩) hbq2).trans q0, (h.cell (p := ⟨b2, o2 + k * 2, none⟩) hbq2).trans p0⟩
        have HDR : Hid (Below wr.heap.size wr wr.drew) := (Below.refl _ _).drew
        by_cases h3 : y2 = 1
        case neg =>
          have dy : (y2 == 1) = false := by simp [h3]
          have HRUN : Hid (runS 1 (p.drop (k + 1)) = j - k - 1) := by
            show _ = _
            have h1 := hrun.out
            have h2 : runS 1 (p.drop (k + 1)) = 0 := if_pos (by decide)
            omega
          clear hrun hi hg2 hf2 hi2 h3 g0 g1
          go_wp2_with fail
          refine wp_region_noPanic ?_
          refine wp_region_held_drew (S := fun w' => w'.cell? ⟨b2, o2 + j * 2, none⟩ = some (.int .i64 y2) ∧ w'.cell? ⟨b2, o2 + k * 2, none⟩ = some (.int .i64 1)) (by kernel_rfl) (HS.out _ HDR.out) (fun hHeld => ?_)
          refine take_in (i := 0) _ (some 27) (by kernel_rfl) (by kernel_rfl) (by kernel_rfl) (by kernel_rfl) (fun _ _ _ h => h) (by rfl) (fun o ho w hSw => by cases ho; (try dsimp only at hSw); (try go_split_ands); go_simp; (try with_reducible rfl)) hHeld ?_
          try simp only [Act.put, List.setIfInBounds_toArray, List.set_cons_zero, List.set_cons_succ]
          refine take_in (i := 1) _ (some 28) (by kernel_rfl) (by kernel_rfl) (by kernel_rfl) (by kernel_rfl) (fun _ _ _ h => h) (by rfl) (fun o ho w hSw => by cases ho; (try dsimp only at hSw); (try go_split_ands); go_simp; (try with_reducible rfl)) hHeld ?_
          try simp only [Act.put, List.setIfInBounds_toArray, List.set_cons_zero, List.set_cons_succ]
          refine take_in (i := 2) _ (some 29) (by kernel_rfl) (by kernel_rfl) (by kernel_rfl) (by kernel_rfl) (fun _ _ _ h => h) (by rfl) (fun o ho w hSw => by cases ho; (try dsimp only at hSw); (try go_split_ands); go_simp; (try with_reducible rfl)) hHeld ?_
          try simp only [Act.put, List.setIfInBounds_toArray, List.set_cons_zero, List.set_cons_succ]
          refine take_in (i := 3) _ (some 30) (by kernel_rfl) (by kernel_rfl) (by kernel_rfl) (by kernel_rfl) (fun _ _ _ h => h) (by rfl) (fun o ho w hSw => by cases ho; (try dsimp only at hSw); (try go_split_ands); go_simp; (try with_reducible rfl)) hHeld ?_
          try simp only [Act.put, List.setIfInBounds_toArray, List.set_cons_zero, List.set_cons_succ]
          refine take_in (i := 4) _ (some 31) (by kernel_rfl) (by kernel_rfl) (by kernel_rfl) (by kernel_rfl) (fun _ _ _ h => h) (by rfl) (fun o ho w hSw => by cases ho; (try dsimp only at hSw); (try go_split_ands); go_simp; (try with_reducible rfl)) hHeld ?_
          try simp only [Act.put, List.setIfInBounds_toArray, List.set_cons_zero, List.set_cons_succ]
          refine take_in (i := 5) _ (some 32) (by kernel_rfl) (by kernel_rfl) (by kernel_rfl) (by kernel_rfl) (fun _ _ _ h => h) (by rfl) (fun o ho w hSw => by cases ho; (try dsimp only at hSw); (try go_split_ands); go_simp; (try with_reducible rfl)) hHeld ?_
          try simp only [Act.put, List.setIfInBounds_toArray, List.set_cons_zero, List.set_cons_succ]
          refine take_in (i := 6) _ (some 33) (by kernel_rfl) (by kernel_rfl) (by kernel_rfl) (by kernel_rfl) (fun _ _ _ h => h) (by rfl) (fun o ho w hSw => by cases ho; (try dsimp only at hSw); (try go_split_ands); go_simp; (try with_reducible rfl)) hHeld ?_
          try simp only [Act.put, List.setIfInBounds_toArray, List.set_cons_zero, List.set_cons_succ]
          refine take_in (i := 7) _ (some 34) (by kernel_rfl) (by kernel_rfl) (by kernel_rfl) (by kernel_rfl) (fun _ _ _ h => h) (by rfl) (fun o ho w hSw => by cases ho; (try dsimp only at hSw); (try go_split_ands); go_simp; (try with_reducible rfl)) hHeld ?_
          try simp only [Act.put, List.setIfInBounds_toArray, List.set_cons_zero, List.set_cons_succ]
          refine take_in (i := 8) _ (some 35) (by kernel_rfl) (by kernel_rfl) (by kernel_rfl) (by kernel_rfl) (fun _ _ _ h => h) (by rfl) (fun o ho w hSw => by cases ho; (try dsimp only at hSw); (try go_split_ands); go_simp; (try with_reducible rfl)) hHeld ?_
          try simp only [Act.put, List.setIfInBounds_toArray, List.set_cons_zero, List.set_cons_succ]
          refine take_in (i := 9) _ (some 36) (by kernel_rfl) (by kernel_rfl) (by kernel_rfl) (by kernel_rfl) (fun _ _ _ h => h) (by rfl) (fun o ho w hSw => by cases ho; (try dsimp only at hSw); (try go_split_ands); go_simp; (try with_reducible rfl)) hHeld ?_
          try simp only [Act.put, List.setIfInBounds_toArray, List.set_cons_zero, List.set_cons_succ]
          refine take_in (i := 10) _ (some 37) (by kernel_rfl) (by kernel_rfl) (by kernel_rfl) (by kernel_rfl) (fun _ _ _ h => h) (by rfl) (fun o ho w hSw => by cases ho; (try dsimp only at hSw); (try go_split_ands); go_simp; (try with_reducible rfl)) hHeld ?_
          try simp only [Act.put, List.setIfInBounds_toArray, List.set_cons_zero, List.set_cons_succ]
          refine take_in (i := 11) _ (some 38) (by kernel_rfl) (by kernel_rfl) (by kernel_rfl) (by kernel_rfl) (fun _ _ _ h => h) (by rfl) (fun o ho w hSw => by cases ho; (try dsimp only at hSw); (try go_split_ands); go_simp; (try with_reducible rfl)) hHeld ?_
          try simp only [Act.put, List.setIfInBounds_toArray, List.set_cons_zero, List.set_cons_succ]
          refine take_in (i := 12) _ (some 39) (by kernel_rfl) (by kernel_rfl) (by kernel_rfl) (by kernel_rfl) (fun _ _ _ h => h) (by rfl) (fun o ho w hSw => by cases ho; (try dsimp only at hSw); (try go_split_ands); go_simp; (try with_reducible rfl)) hHeld ?_
          try simp only [Act.put, List.setIfInBounds_toArray, List.set_cons_zero, List.set_cons_succ]
          refine take_in (i := 13) _ (some 40) (by kernel_rfl) (by kernel_rfl) (by kernel_rfl) (by kernel_rfl) (fun _ _ _ h => h) (by rfl) (fun o ho w hSw => by cases ho; (try dsimp only at hSw); (try go_split_ands); go_simp; (try with_reducible rfl)) hHeld ?_
          try simp only [Act.put, List.setIfInBounds_toArray, List.set_cons_zero, List.set_cons_succ]
          refine take_in (i := 14) _ (some 41) (by kernel_rfl) (by kernel_rfl) (by kernel_rfl) (by kernel_rfl) (fun _ _ _ h => h) (by rfl) (fun o ho w hSw => by cases ho; (try dsimp only at hSw); (try go_split_ands); go_simp; (try with_reducible rfl)) hHeld ?_
          try simp only [Act.put, List.setIfInBounds_toArray, List.set_cons_zero, List.set_cons_succ]
          refine take_in (i := 15) _ (some 42) (by kernel_rfl) (by kernel_rfl) (by kernel_rfl) (by kernel_rfl) (fun _ _ _ h => h) (by rfl) (fun o ho w hSw => by cases ho; (try dsimp only at hSw); (try go_split_ands); go_simp; (try with_reducible rfl)) hHeld ?_
          try simp only [Act.put, List.setIfInBounds_toArray, List.set_cons_zero, List.set_cons_succ]
          refine take_in (i := 16) _ (some 43) (by kernel_rfl) (by kernel_rfl) (by kernel_rfl) (by kernel_rfl) (fun _ _ _ h => h) (by rfl) (fun o ho w hSw => by cases ho; (try dsimp only at hSw); (try go_split_ands); go_simp; (try with_reducible rfl)) hHeld ?_
          try simp only [Act.put, List.setIfInBounds_toArray, List.set_cons_zero, List.set_cons_succ]
          refine take_in (i := 17) _ (some 44) (by kernel_rfl) (by kernel_rfl) (by kernel_rfl) (by kernel_rfl) (fun _ _ _ h => h) (by rfl) (fun o ho w hSw => by cases ho; (try dsimp only at hSw); (try go_split_ands); go_simp; (try with_reducible rfl)) hHeld ?_
          try simp only [Act.put, List.setIfInBounds_toArray, List.set_cons_zero, List.set_cons_succ]
          refine take_un (i := 18) (some 45) (by kernel_rfl) (by kernel_rfl) (by kernel_rfl) (by kernel_rfl) (fun _ _ _ h => h) (by rfl) hHeld ?_
          try simp only [Act.put, List.setIfInBounds_toArray, List.set_cons_zero, List.set_cons_succ]
          refine take_un (i := 19) (some 46) (by kernel_rfl) (by kernel_rfl) (by kernel_rfl) (by kernel_rfl) (fun _ _ _ h => h) (by rfl) hHeld ?_
          try simp only [Act.put, List.setIfInBounds_toArray, List.set_cons_zero, List.set_cons_succ]
          refine take_un (i := 20) (some 47) (by kernel_rfl) (by kernel_rfl) (by kernel_rfl) (by kernel_rfl) (fun _ _ _ h => h) (by rfl) hHeld ?_
          try simp only [Act.put, List.setIfInBounds_toArray, List.set_cons_zero, List.set_cons_succ]
          refine take_un (i := 21) (some 48) (by kernel_rfl) (by kernel_rfl) (by kernel_rfl) (by kernel_rfl) (fun _ _ _ h => h) (by rfl) hHeld ?_
          try simp only [Act.put, List.setIfInBounds_toArray, List.set_cons_zero, List.set_cons_succ]
          refine take_un (i := 22) (some 49) (by kernel_rfl) (by kernel_rfl) (by kernel_rfl) (by kernel_rfl) (fun _ _ _ h => h) (by rfl) hHeld ?_
          try simp only [Act.put, List.setIfInBounds_toArray, List.set_cons_zero, List.set_cons_succ]
          refine take_un (i := 23) (some 50) (by kernel_rfl) (by kernel_rfl) (by kernel_rfl) (by kernel_rfl) (fun _ _ _ h => h) (by rfl) hHeld ?_
          try simp only [Act.put, List.setIfInBounds_toArray, List.set_cons_zero, List.set_cons_succ]
          refine take_un (i := 24) (some 51) (by kernel_rfl) (by kernel_rfl) (by kernel_rfl) (by kernel_rfl) (fun _ _ _ h => h) (by rfl) hHeld ?_
          try simp only [Act.put, List.setIfInBounds_toArray, List.set_cons_zero, List.set_cons_succ]
          refine take_in (i := 25) _ (some 52) (by kernel_rfl) (by kernel_rfl) (by kernel_rfl) (by kernel_rfl) (fun _ _ _ h => h) (by rfl) (fun o ho w hSw => by cases ho; (try dsimp only at hSw); (try go_split_ands); go_simp; (try with_reducible rfl)) hHeld ?_
          try simp only [Act.put, List.setIfInBounds_toArray, List.set_cons_zero, List.set_cons_succ]
          refine wpAnyH_done (by kernel_rfl) ?_ _
          refine NoPanic.normal ?_
          have HW : Hid (txt (p.drop k) = wordR 1 (flat ((p.drop k).take (j - k))) ++ spt (p.drop (j - 1 + 1))) := by
            show _ = _
            rw [show j - 1 + 1 = j by omega]
            exact txt_runS HF.out (by omega) hjk HRUN.out
          have HLR := Lib.hid (range_run HRG.out k (j - k))
          have HLN : Hid ((flat ((p.drop k).take (j - k))).length ≤ 1000000) := Nat.le_trans (flat_run_le p k (j - k)) HFM.out
          have HLE : Hid (flat ((p.drop k).take (j - k)) ≠ []) := by
            show _ ≠ _
            intro h
            rw [drop_next HF.out, show j - k = (j - k - 1) + 1 by omega, List.take_succ_cons] at h
            unfold flat at h
            rw [List.flatMap_cons, List.append_eq_nil_iff] at h
            exact hv.2.1 h.1
          have HLI := Lib.hid ho.out.ints
          obtain ⟨L, hL⟩ : ∃ L, flat ((p.drop k).take (j - k)) = L := ⟨_, rfl⟩
          rw [hL] at HW HLR HLN HLE HLI ⊢
          have HJ1 : Hid (j = j - 1 + 1) := by show _ = _; omega
          clear hL ho HRUN
          by_cases hk0 : k = 0
          · have d0 : ¬ 0 < k := by omega
            have HK0 := Lib.hid hk0
            clear hk0
            go_wp2_with fail
            refine (word_any Al _ cl _ L (⟨#[44]⟩ : ByteArray) 44 (⟨#[123]⟩ : ByteArray) (⟨#[125]⟩ : ByteArray) wr.drew (HLI.out.below (Below.refl _ _).drew) (Nat.le_refl _) rfl HLR.out (Nat.le_trans HLN.out (by omega)) (by decide) (by decide)).mono ?_
            rintro e w2 ⟨rfl, hb2⟩
            have hbd : Below wr.heap.size wr wr.drew := (Below.refl _ _).drew
            have HBT : Hid (Below w.heap.size w w2) := below3 hbq.out (hbd.trans hb2)
            obtain ⟨pt, hpt⟩ : ∃ x, strB ((⟨#[123]⟩ : ByteArray).data.toList ++ (sepd 44 L ++ (⟨#[125]⟩ : ByteArray).data.toList)) = x := ⟨_, rfl⟩
            have hpl : pt.data.toList = wordR 1 L := by rw [← hpt, strB_list]; simp [wordR]
            have hpz : pt.size ≤ 11000002 := by
              rw [size_list, hpl]
              have := word_short (k := 1) HLR.out
              have := HLN.out
              omega
            rw [hpt]
            have hsz : b.size + pt.size ≤ 9223372036854775807 := by omega
            have hsz2 : (b.size : Int) + (pt.size : Int) ≤ 9223372036854775807 := by omega
            have HN : Hid (TAt p (j - 1 + 1) (b ++ pt)) := by
              have hk0 := HK0.out
              subst hk0
              exact hb.out.zero (word_ne HLE.out) HW.out (by rw [add_list, hpl])
            clear hb hpt hpl hbd hb2
            go_wp2
            go_roundw
            case rel => exact ⟨j - 1 + 1, b ++ pt, by omega, by rw [← HJ1.out], rfl, HN, HBT⟩
            case measure => simp [intOf] <;> omega
          · have d0 : 0 < k := by omega
            have HK0 := Lib.hid hk0
            clear hk0
            have d1 : (0 : Int) < (k : Int) := by omega
            have hsz : b.size + 1 ≤ 9223372036854775807 := by omega
            have hsz1 : (b.size : Int) + 1 ≤ 9223372036854775807 := by omega
            go_wp2_with fail
            refine (word_any Al _ cl _ L (⟨#[44]⟩ : ByteArray) 44 (⟨#[123]⟩ : ByteArray) (⟨#[125]⟩ : ByteArray) wr.drew (HLI.out.below (Below.refl _ _).drew) (Nat.le_refl _) rfl HLR.out (Nat.le_trans HLN.out (by omega)) (by decide) (by decide)).mono ?_
            rintro e w2 ⟨rfl, hb2⟩
            have hbd : Below wr.heap.size wr wr.drew := (Below.refl _ _).drew
            have HBT : Hid (Below w.heap.size w w2) := below3 hbq.out (hbd.trans hb2)
            obtain ⟨pt, hpt⟩ : ∃ x, strB ((⟨#[123]⟩ : ByteArray).data.toList ++ (sepd 44 L ++ (⟨#[125]⟩ : ByteArray).data.toList)) = x := ⟨_, rfl⟩
            have hpl : pt.data.toList = wordR 1 L := by rw [← hpt, strB_list]; simp [wordR]
            have hpz : pt.size ≤ 11000002 := by
              rw [size_list, hpl]
              have := word_short (k := 1) HLR.out
              have := HLN.out
              omega
            rw [hpt]
            have hsz2 : b.size + 1 + pt.size ≤ 9223372036854775807 := by omega
            have hsz3 : (b.size : Int) + 1 + (pt.size : Int) ≤ 9223372036854775807 := by omega
            have HN : Hid (TAt p (j - 1 + 1) ((b ++ (⟨#[32]⟩ : ByteArray)) ++ pt)) := hb.out.next HK0.out (by rw [HL.out]; exact hlt) HW.out (by rw [add_list, add_list, hpl])
            clear hb hpt hpl hbd hb2
            go_wp2
            go_roundw
            case rel => exact ⟨j - 1 + 1, (b ++ (⟨#[32]⟩ : ByteArray)) ++ pt, by omega, by rw [← HJ1.out], rfl, HN, HBT⟩
            case measure => simp [intOf] <;> omega
        subst h3
        have HRUN : Hid (runS 1 (p.drop (k + 1)) = j - k - 1) := by
          show _ = _
          have h1 := hrun.out
          have h2 : runS 1 (p.drop (k + 1)) = 0 := if_pos (by decide)
          omega
        clear hrun hi hg2 hf2 hi2 g0 g1
        go_wp2_with fail
        refine wp_region_noPanic ?_
        refine wp_region_held_drew (S := fun w' => w'.cell? ⟨b2, o2 + j * 2, none⟩ = some (.int .i64 1) ∧ w'.cell? ⟨b2, o2 + k * 2, none⟩ = some (.int .i64 1)) (by kernel_rfl) (HS.out _ HDR.out) (fun hHeld => ?_)
        refine take_in (i := 0) _ (some 27) (by kernel_rfl) (by kernel_rfl) (by kernel_rfl) (by kernel_rfl) (fun _ _ _ h => h) (by rfl) (fun o ho w hSw => by cases ho; (try dsimp only at hSw); (try go_split_ands); go_simp; (try with_reducible rfl)) hHeld ?_
        try simp only [Act.put, List.setIfInBounds_toArray, List.set_cons_zero, List.set_cons_succ]
        refine take_in (i := 1) _ (some 28) (by kernel_rfl) (by kernel_rfl) (by kernel_rfl) (by kernel_rfl) (fun _ _ _ h => h) (by rfl) (fun o ho w hSw => by cases ho; (try dsimp only at hSw); (try go_split_ands); go_simp; (try with_reducible rfl)) hHeld ?_
        try simp only [Act.put, List.setIfInBounds_toArray, List.set_cons_zero, List.set_cons_succ]
        refine take_in (i := 2) _ (some 29) (by kernel_rfl) (by kernel_rfl) (by kernel_rfl) (by kernel_rfl) (fun _ _ _ h => h) (by rfl) (fun o ho w hSw => by cases ho; (try dsimp only at hSw); (try go_split_ands); go_simp; (try with_reducible rfl)) hHeld ?_
        try simp only [Act.put, List.setIfInBounds_toArray, List.set_cons_zero, List.set_cons_succ]
        refine take_in (i := 3) _ (some 30) (by kernel_rfl) (by kernel_rfl) (by kernel_rfl) (by kernel_rfl) (fun _ _ _ h => h) (by rfl) (fun o ho w hSw => by cases ho; (try dsimp only at hSw); (try go_split_ands); go_simp; (try with_reducible rfl)) hHeld ?_
        try simp only [Act.put, List.setIfInBounds_toArray, List.set_cons_zero, List.set_cons_succ]
        refine take_in (i := 4) _ (some 31) (by kernel_rfl) (by kernel_rfl) (by kernel_rfl) (by kernel_rfl) (fun _ _ _ h => h) (by rfl) (fun o ho w hSw => by cases ho; (try dsimp only at hSw); (try go_split_ands); go_simp; (try with_reducible rfl)) hHeld ?_
        try simp only [Act.put, List.setIfInBounds_toArray, List.set_cons_zero, List.set_cons_succ]
        refine take_in (i := 5) _ (some 32) (by kernel_rfl) (by kernel_rfl) (by kernel_rfl) (by kernel_rfl) (fun _ _ _ h => h) (by rfl) (fun o ho w hSw => by cases ho; (try dsimp only at hSw); (try go_split_ands); go_simp; (try with_reducible rfl)) hHeld ?_
        try simp only [Act.put, List.setIfInBounds_toArray, List.set_cons_zero, List.set_cons_succ]
        refine take_in (i := 6) _ (some 33) (by kernel_rfl) (by kernel_rfl) (by kernel_rfl) (by kernel_rfl) (fun _ _ _ h => h) (by rfl) (fun o ho w hSw => by cases ho; (try dsimp only at hSw); (try go_split_ands); go_simp; (try with_reducible rfl)) hHeld ?_
        try simp only [Act.put, List.setIfInBounds_toArray, List.set_cons_zero, List.set_cons_succ]
        refine take_in (i := 7) _ (some 34) (by kernel_rfl) (by kernel_rfl) (by kernel_rfl) (by kernel_rfl) (fun _ _ _ h => h) (by rfl) (fun o ho w hSw => by cases ho; (try dsimp only at hSw); (try go_split_ands); go_simp; (try with_reducible rfl)) hHeld ?_
        try simp only [Act.put, List.setIfInBounds_toArray, List.set_cons_zero, List.set_cons_succ]
        refine take_in (i := 8) _ (some 35) (by kernel_rfl) (by kernel_rfl) (by kernel_rfl) (by kernel_rfl) (fun _ _ _ h => h) (by rfl) (fun o ho w hSw => by cases ho; (try dsimp only at hSw); (try go_split_ands); go_simp; (try with_reducible rfl)) hHeld ?_
        try simp only [Act.put, List.setIfInBounds_toArray, List.set_cons_zero, List.set_cons_succ]
        refine take_in (i := 9) _ (some 36) (by kernel_rfl) (by kernel_rfl) (by kernel_rfl) (by kernel_rfl) (fun _ _ _ h => h) (by rfl) (fun o ho w hSw => by cases ho; (try dsimp only at hSw); (try go_split_ands); go_simp; (try with_reducible rfl)) hHeld ?_
        try simp only [Act.put, List.setIfInBounds_toArray, List.set_cons_zero, List.set_cons_succ]
        refine take_in (i := 10) _ (some 37) (by kernel_rfl) (by kernel_rfl) (by kernel_rfl) (by kernel_rfl) (fun _ _ _ h => h) (by rfl) (fun o ho w hSw => by cases ho; (try dsimp only at hSw); (try go_split_ands); go_simp; (try with_reducible rfl)) hHeld ?_
        try simp only [Act.put, List.setIfInBounds_toArray, List.set_cons_zero, List.set_cons_succ]
        refine take_in (i := 11) _ (some 38) (by kernel_rfl) (by kernel_rfl) (by kernel_rfl) (by kernel_rfl) (fun _ _ _ h => h) (by rfl) (fun o ho w hSw => by cases ho; (try dsimp only at hSw); (try go_split_ands); go_simp; (try with_reducible rfl)) hHeld ?_
        try simp only [Act.put, List.setIfInBounds_toArray, List.set_cons_zero, List.set_cons_succ]
        refine take_in (i := 12) _ (some 39) (by kernel_rfl) (by kernel_rfl) (by kernel_rfl) (by kernel_rfl) (fun _ _ _ h => h) (by rfl) (fun o ho w hSw => by cases ho; (try dsimp only at hSw); (try go_split_ands); go_simp; (try with_reducible rfl)) hHeld ?_
        try simp only [Act.put, List.setIfInBounds_toArray, List.set_cons_zero, List.set_cons_succ]
        refine take_in (i := 13) _ (some 40) (by kernel_rfl) (by kernel_rfl) (by kernel_rfl) (by kernel_rfl) (fun _ _ _ h => h) (by rfl) (fun o ho w hSw => by cases ho; (try dsimp only at hSw); (try go_split_ands); go_simp; (try with_reducible rfl)) hHeld ?_
        try simp only [Act.put, List.setIfInBounds_toArray, List.set_cons_zero, List.set_cons_succ]
        refine take_in (i := 14) _ (some 41) (by kernel_rfl) (by kernel_rfl) (by kernel_rfl) (by kernel_rfl) (fun _ _ _ h => h) (by rfl) (fun o ho w hSw => by cases ho; (try dsimp only at hSw); (try go_split_ands); go_simp; (try with_reducible rfl)) hHeld ?_
        try simp only [Act.put, List.setIfInBounds_toArray, List.set_cons_zero, List.set_cons_succ]
        refine take_in (i := 15) _ (some 42) (by kernel_rfl) (by kernel_rfl) (by kernel_rfl) (by kernel_rfl) (fun _ _ _ h => h) (by rfl) (fun o ho w hSw => by cases ho; (try dsimp only at hSw); (try go_split_ands); go_simp; (try with_reducible rfl)) hHeld ?_
        try simp only [Act.put, List.setIfInBounds_toArray, List.set_cons_zero, List.set_cons_succ]
        refine take_in (i := 16) _ (some 43) (by kernel_rfl) (by kernel_rfl) (by kernel_rfl) (by kernel_rfl) (fun _ _ _ h => h) (by rfl) (fun o ho w hSw => by cases ho; (try dsimp only at hSw); (try go_split_ands); go_simp; (try with_reducible rfl)) hHeld ?_
        try simp only [Act.put, List.setIfInBounds_toArray, List.set_cons_zero, List.set_cons_succ]
        refine take_in (i := 17) _ (some 44) (by kernel_rfl) (by kernel_rfl) (by kernel_rfl) (by kernel_rfl) (fun _ _ _ h => h) (by rfl) (fun o ho w hSw => by cases ho; (try dsimp only at hSw); (try go_split_ands); go_simp; (try with_reducible rfl)) hHeld ?_
        try simp only [Act.put, List.setIfInBounds_toArray, List.set_cons_zero, List.set_cons_succ]
        refine take_in (i := 18) _ (some 45) (by kernel_rfl) (by kernel_rfl) (by kernel_rfl) (by kernel_rfl) (fun _ _ _ h => h) (by rfl) (fun o ho w hSw => by cases ho; (try dsimp only at hSw); (try go_split_ands); go_simp; (try with_reducible rfl)) hHeld ?_
        try simp only [Act.put, List.setIfInBounds_toArray, List.set_cons_zero, List.set_cons_succ]
        refine take_in (i := 19) _ (some 46) (by kernel_rfl) (by kernel_rfl) (by kernel_rfl) (by kernel_rfl) (fun _ _ _ h => h) (by rfl) (fun o ho w hSw => by cases ho; (try dsimp only at hSw); (try go_split_ands); go_simp; (try with_reducible rfl)) hHeld ?_
        try simp only [Act.put, List.setIfInBounds_toArray, List.set_cons_zero, List.set_cons_succ]
        refine take_in (i := 20) _ (some 47) (by kernel_rfl) (by kernel_rfl) (by kernel_rfl) (by kernel_rfl) (fun _ _ _ h => h) (by rfl) (fun o ho w hSw => by cases ho; (try dsimp only at hSw); (try go_split_ands); go_simp; (try with_reducible rfl)) hHeld ?_
        try simp only [Act.put, List.setIfInBounds_toArray, List.set_cons_zero, List.set_cons_succ]
        refine take_in (i := 21) _ (some 48) (by kernel_rfl) (by kernel_rfl) (by kernel_rfl) (by kernel_rfl) (fun _ _ _ h => h) (by rfl) (fun o ho w hSw => by cases ho; (try dsimp only at hSw); (try go_split_ands); go_simp; (try with_reducible rfl)) hHeld ?_
        try simp only [Act.put, List.setIfInBounds_toArray, List.set_cons_zero, List.set_cons_succ]
        refine take_in (i := 22) _ (some 49) (by kernel_rfl) (by kernel_rfl) (by kernel_rfl) (by kernel_rfl) (fun _ _ _ h => h) (by rfl) (fun o ho w hSw => by cases ho; (try dsimp only at hSw); (try go_split_ands); go_simp; (try with_reducible rfl)) hHeld ?_
        try simp only [Act.put, List.setIfInBounds_toArray, List.set_cons_zero, List.set_cons_succ]
        refine wpAnyH_ready (rs := [23]) (by kernel_rfl) (by simp) ?_
        refine AllReadyH.cons (o := _) rfl (fun K hK => ?_) AllReadyH.nil
        go_simp
        go_at_call 51
        with_reducible refine (isSet_any _ _).mono ?_
        rintro e w9 ⟨rfl, rfl⟩
        rw [show setB 1 = true from by decide]
        refine hK.out _ _ hHeld (fun hHeld => ?_)
        clear hK K
        try simp only [Act.put, List.setIfInBounds_toArray, List.set_cons_zero, List.set_cons_succ]
        refine take_in (i := 24) _ (some 51) (by kernel_rfl) (by kernel_rfl) (by kernel_rfl) (by kernel_rfl) (fun _ _ _ h => h) (by rfl) (fun o ho w hSw => by cases ho; (try dsimp only at hSw); (try go_split_ands); go_simp; (try with_reducible rfl)) hHeld ?_
        try simp only [Act.put, List.setIfInBounds_toArray, List.set_cons_zero, List.set_cons_succ]
        refine take_in (i := 25) _ (some 52) (by kernel_rfl) (by kernel_rfl) (by kernel_rfl) (by kernel_rfl) (fun _ _ _ h => h) (by rfl) (fun o ho w hSw => by cases ho; (try dsimp only at hSw); (try go_split_ands); go_simp; (try with_reducible rfl)) hHeld ?_
        try simp only [Act.put, List.setIfInBounds_toArray, List.set_cons_zero, List.set_cons_succ]
        refine wpAnyH_done (by kernel_rfl) ?_ _
        refine NoPanic.normal ?_
        have HW : Hid (txt (p.drop k) = wordR 1 (flat ((p.drop k).take (j - k))) ++ spt (p.drop (j - 1 + 1))) := by
          show _ = _
          rw [show j - 1 + 1 = j by omega]
          exact txt_runS HF.out (by omega) hjk HRUN.out
        have HLR := Lib.hid (range_run HRG.out k (j - k))
        have HLN : Hid ((flat ((p.drop k).take (j - k))).length ≤ 1000000) := Nat.le_trans (flat_run_le p k (j - k)) HFM.out
        have HLE : Hid (flat ((p.drop k).take (j - k)) ≠ []) := by
          show _ ≠ _
          intro h
          rw [drop_next HF.out, show j - k = (j - k - 1) + 1 by omega, List.take_succ_cons] at h
          unfold flat at h
          rw [List.flatMap_cons, List.append_eq_nil_iff] at h
          exact hv.2.1 h.1
        have HLI := Lib.hid ho.out.ints
        obtain ⟨L, hL⟩ : ∃ L, flat ((p.drop k).take (j - k)) = L := ⟨_, rfl⟩
        rw [hL] at HW HLR HLN HLE HLI ⊢
        have HJ1 : Hid (j = j - 1 + 1) := by show _ = _; omega
        clear hL ho HRUN
        by_cases hk0 : k = 0
        · have d0 : ¬ 0 < k := by omega
          have HK0 := Lib.hid hk0
          clear hk0
          go_wp2_with fail
          refine (word_any Al _ cl _ L (⟨#[44]⟩ : ByteArray) 44 (⟨#[123]⟩ : ByteArray) (⟨#[125]⟩ : ByteArray) wr.drew (HLI.out.below (Below.refl _ _).drew) (Nat.le_refl _) rfl HLR.out (Nat.le_trans HLN.out (by omega)) (by decide) (by decide)).mono ?_
          rintro e w2 ⟨rfl, hb2⟩
          have hbd : Below wr.heap.size wr wr.drew := (Below.refl _ _).drew
          have HBT : Hid (Below w.heap.size w w2) := below3 hbq.out (hbd.trans hb2)
          obtain ⟨pt, hpt⟩ : ∃ x, strB ((⟨#[123]⟩ : ByteArray).data.toList ++ (sepd 44 L ++ (⟨#[125]⟩ : ByteArray).data.toList)) = x := ⟨_, rfl⟩
          have hpl : pt.data.toList = wordR 1 L := by rw [← hpt, strB_list]; simp [wordR]
          have hpz : pt.size ≤ 11000002 := by
            rw [size_list, hpl]
            have := word_short (k := 1) HLR.out
            have := HLN.out
            omega
          rw [hpt]
          have hsz : b.size + pt.size ≤ 9223372036854775807 := by omega
          have hsz2 : (b.size : Int) + (pt.size : Int) ≤ 9223372036854775807 := by omega
          have HN : Hid (TAt p (j - 1 + 1) (b ++ pt)) := by
            have hk0 := HK0.out
            subst hk0
            exact hb.out.zero (word_ne HLE.out) HW.out (by rw [add_list, hpl])
          clear hb hpt hpl hbd hb2
          go_wp2
          go_roundw
          case rel => exact ⟨j - 1 + 1, b ++ pt, by omega, by rw [← HJ1.out], rfl, HN, HBT⟩
          case measure => simp [intOf] <;> omega
        · have d0 : 0 < k := by omega
          have HK0 := Lib.hid hk0
          clear hk0
          have d1 : (0 : Int) < (k : Int) := by omega
          have hsz : b.size + 1 ≤ 9223372036854775807 := by omega
          have hsz1 : (b.size : Int) + 1 ≤ 9223372036854775807 := by omega
          go_wp2_with fail
          refine (word_any Al _ cl _ L (⟨#[44]⟩ : ByteArray) 44 (⟨#[123]⟩ : ByteArray) (⟨#[125]⟩ : ByteArray) wr.drew (HLI.out.below (Below.refl _ _).drew) (Nat.le_refl _) rfl HLR.out (Nat.le_trans HLN.out (by omega)) (by decide) (by decide)).mono ?_
          rintro e w2 ⟨rfl, hb2⟩
          have hbd : Below wr.heap.size wr wr.drew := (Below.refl _ _).drew
          have HBT : Hid (Below w.heap.size w w2) := below3 hbq.out (hbd.trans hb2)
          obtain ⟨pt, hpt⟩ : ∃ x, strB ((⟨#[123]⟩ : ByteArray).data.toList ++ (sepd 44 L ++ (⟨#[125]⟩ : ByteArray).data.toList)) = x := ⟨_, rfl⟩
          have hpl : pt.data.toList = wordR 1 L := by rw [← hpt, strB_list]; simp [wordR]
          have hpz : pt.size ≤ 11000002 := by
            rw [size_list, hpl]
            have := word_short (k := 1) HLR.out
            have := HLN.out
            omega
          rw [hpt]
          have hsz2 : b.size + 1 + pt.size ≤ 9223372036854775807 := by omega
          have hsz3 : (b.size : Int) + 1 + (pt.size : Int) ≤ 9223372036854775807 := by omega
          have HN : Hid (TAt p (j - 1 + 1) ((b ++ (⟨#[32]⟩ : ByteArray)) ++ pt)) := hb.out.next HK0.out (by rw [HL.out]; exact hlt) HW.out (by rw [add_list, add_list, hpl])
          clear hb hpt hpl hbd hb2
          go_wp2
          go_roundw
          case rel => exact ⟨j - 1 + 1, (b ++ (⟨#[32]⟩ : ByteArray)) ++ pt, by omega, by rw [← HJ1.out], rfl, HN, HBT⟩
          case measure => simp [intOf] <;> omega
    · obtain ⟨A4, c4, w4, hr4, ho4, hb4⟩ := copy_ints hi.out hwr rfl (by omega)
      have HR4 := Lib.hid hr4
      have HO4 : Hid (Own w4 w.heap.size 3 .i64 (.slice A4 fn c4) (flat ((p.drop k).take (k + 1 - k))).length (flat ((p.drop k).take (k + 1 - k)))) := by
        have e : flat ((p.drop k).take (k + 1 - k)) = xs := by
          rw [show k + 1 - k = 1 by omega, drop_next HF.out]
          simp [flat]
        show Own _ _ _ _ _ _ _
        rw [e, hfl]
        exact own_mono ho4 hwr
      have HB4 := Lib.hid (below3 hbw.out hb4)
      clear hr4 ho4 hb4
      go_wp2_with (at_builtin; refine wpList_append_run rfl _ _ _ rfl rfl rfl HR4.out ?_)
      obtain ⟨wo, hwo⟩ : ∃ wo : World, wo = wr := ⟨_, rfl⟩
      subst hwo
      go_loopw [7, 8] (fun lv jv wq => RfInv w p n k 4 lv jv wq) (fun _ jv _ => n - (intOf jv).toNat)
      case atStart => exact ⟨k + 1, by omega, by omega, by go_num, by show _ ≤ _; omega, HO4, HB4⟩
      case round =>
        obtain ⟨j, hjk, hjn, rfl, hrun, ho, hbq⟩ := hrel
        obtain ⟨Al, cl, rfl⟩ := own_form ho.out
        have hwq := hbq.out.size
        have hbq2 : b2 < wr.heap.size := by omega
        have p0 : wr.cell? ⟨b2, o2 + k * 2, none⟩ = some (.int .i64 4) := ((hbq.out.cell (p := ⟨b2, o2 + k * 2, none⟩) hbB).trans (hbw.out.cell (p := ⟨b2, o2 + k * 2, none⟩) hbB).symm).trans g0
        by_cases hj1 : j < n
        case neg =>
          have hnj : ¬ (j : Int) < (n : Int) := by omega
          have HRUN : Hid (runS 4 (p.drop (k + 1)) = j - k - 1) := by
            show _ = _
            have h1 := runS_le 4 (p.drop (k + 1))
            rw [List.length_drop, HL.out] at h1
            have h2 := hrun.out
            omega
          clear hrun hi g0 g1
          go_wp2_with fail
          refine wp_region_noPanic ?_
          refine wp_region_held_drew (S := fun _ => True) (by kernel_rfl) trivial (fun hHeld => ?_)
          refine take_in (i := 0) _ (some 27) (by kernel_rfl) (by kernel_rfl) (by kernel_rfl) (by kernel_rfl) (fun _ _ _ h => h) (by rfl) (fun o ho w hSw => by cases ho; (try dsimp only at hSw); (try go_split_ands); go_simp; (try with_reducible rfl)) hHeld ?_
          try simp only [Act.put, List.setIfInBounds_toArray, List.set_cons_zero, List.set_cons_succ]
          refine take_in (i := 1) _ (some 28) (by kernel_rfl) (by kernel_rfl) (by kernel_rfl) (by kernel_rfl) (fun _ _ _ h => h) (by rfl) (fun o ho w hSw => by cases ho; (try dsimp only at hSw); (try go_split_ands); go_simp; (try with_reducible rfl)) hHeld ?_
          try simp only [Act.put, List.setIfInBounds_toArray, List.set_cons_zero, List.set_cons_succ]
          refine take_in (i := 2) _ (some 29) (by kernel_rfl) (by kernel_rfl) (by kernel_rfl) (by kernel_rfl) (fun _ _ _ h => h) (by rfl) (fun o ho w hSw => by cases ho; (try dsimp only at hSw); (try go_split_ands); go_simp; (try with_reducible rfl)) hHeld ?_
          try simp only [Act.put, List.setIfInBounds_toArray, List.set_cons_zero, List.set_cons_succ]
          refine take_in (i := 3) _ (some 30) (by kernel_rfl) (by kernel_rfl) (by kernel_rfl) (by kernel_rfl) (fun _ _ _ h => h) (by rfl) (fun o ho w hSw => by cases ho; (try dsimp only at hSw); (try go_split_ands); go_simp; (try with_reducible rfl)) hHeld ?_
          try simp only [Act.put, List.setIfInBounds_toArray, List.set_cons_zero, List.set_cons_succ]
          refine take_in (i := 4) _ (some 31) (by kernel_rfl) (by kernel_rfl) (by kernel_rfl) (by kernel_rfl) (fun _ _ _ h => h) (by rfl) (fun o ho w hSw => by cases ho; (try dsimp only at hSw); (try go_split_ands); go_simp; (try with_reducible rfl)) hHeld ?_
          try simp only [Act.put, List.setIfInBounds_toArray, List.set_cons_zero, List.set_cons_succ]
          refine take_un (i := 5) (some 32) (by kernel_rfl) (by kernel_rfl) (by kernel_rfl) (by kernel_rfl) (fun _ _ _ h => h) (by rfl) hHeld ?_
          try simp only [Act.put, List.setIfInBounds_toArray, List.set_cons_zero, List.set_cons_succ]
          refine take_un (i := 6) (some 33) (by kernel_rfl) (by kernel_rfl) (by kernel_rfl) (by kernel_rfl) (fun _ _ _ h => h) (by rfl) hHeld ?_
          try simp only [Act.put, List.setIfInBounds_toArray, List.set_cons_zero, List.set_cons_succ]
          refine take_un (i := 7) (some 34) (by kernel_rfl) (by kernel_rfl) (by kernel_rfl) (by kernel_rfl) (fun _ _ _ h => h) (by rfl) hHeld ?_
          try simp only [Act.put, List.setIfInBounds_toArray, List.set_cons_zero, List.set_cons_succ]
          refine take_un (i := 8) (some 35) (by kernel_rfl) (by kernel_rfl) (by kernel_rfl) (by kernel_rfl) (fun _ _ _ h => h) (by rfl) hHeld ?_
          try simp only [Act.put, List.setIfInBounds_toArray, List.set_cons_zero, List.set_cons_succ]
          refine take_un (i := 9) (some 36) (by kernel_rfl) (by kernel_rfl) (by kernel_rfl) (by kernel_rfl) (fun _ _ _ h => h) (by rfl) hHeld ?_
          try simp only [Act.put, List.setIfInBounds_toArray, List.set_cons_zero, List.set_cons_succ]
          refine take_un (i := 10) (some 37) (by kernel_rfl) (by kernel_rfl) (by kernel_rfl) (by kernel_rfl) (fun _ _ _ h => h) (by rfl) hHeld ?_
          try simp only [Act.put, List.setIfInBounds_toArray, List.set_cons_zero, List.set_cons_succ]
          refine take_un (i := 11) (some 38) (by kernel_rfl) (by kernel_rfl) (by kernel_rfl) (by kernel_rfl) (fun _ _ _ h => h) (by rfl) hHeld ?_
          try simp only [Act.put, List.setIfInBounds_toArray, List.set_cons_zero, List.set_cons_succ]
          refine take_un (i := 12) (some 39) (by kernel_rfl) (by kernel_rfl) (by kernel_rfl) (by kernel_rfl) (fun _ _ _ h => h) (by rfl) hHeld ?_
          try simp only [Act.put, List.setIfInBounds_toArray, List.set_cons_zero, List.set_cons_succ]
          refine take_un (i := 13) (some 40) (by kernel_rfl) (by kernel_rfl) (by kernel_rfl) (by kernel_rfl) (fun _ _ _ h => h) (by rfl) hHeld ?_
          try simp only [Act.put, List.setIfInBounds_toArray, List.set_cons_zero, List.set_cons_succ]
          refine take_un (i := 14) (some 41) (by kernel_rfl) (by kernel_rfl) (by kernel_rfl) (by kernel_rfl) (fun _ _ _ h => h) (by rfl) hHeld ?_
          try simp only [Act.put, List.setIfInBounds_toArray, List.set_cons_zero, List.set_cons_succ]
          refine take_un (i := 15) (some 42) (by kernel_rfl) (by kernel_rfl) (by kernel_rfl) (by kernel_rfl) (fun _ _ _ h => h) (by rfl) hHeld ?_
          try simp only [Act.put, List.setIfInBounds_toArray, List.set_cons_zero, List.set_cons_succ]
          refine take_in (i := 16) _ (some 43) (by kernel_rfl) (by kernel_rfl) (by kernel_rfl) (by kernel_rfl) (fun _ _ _ h => h) (by rfl) (fun o ho w hSw => by cases ho; (try dsimp only at hSw); (try go_split_ands); go_simp; (try with_reducible rfl)) hHeld ?_
          try simp only [Act.put, List.setIfInBounds_toArray, List.set_cons_zero, List.set_cons_succ]
          refine take_in (i := 17) _ (some 44) (by kernel_rfl) (by kernel_rfl) (by kernel_rfl) (by kernel_rfl) (fun _ _ _ h => h) (by rfl) (fun o ho w hSw => by cases ho; (try dsimp only at hSw); (try go_split_ands); go_simp; (try with_reducible rfl)) hHeld ?_
          try simp only [Act.put, List.setIfInBounds_toArray, List.set_cons_zero, List.set_cons_succ]
          refine take_un (i := 18) (some 45) (by kernel_rfl) (by kernel_rfl) (by kernel_rfl) (by kernel_rfl) (fun _ _ _ h => h) (by rfl) hHeld ?_
          try simp only [Act.put, List.setIfInBounds_toArray, List.set_cons_zero, List.set_cons_succ]
          refine take_un (i := 19) (some 46) (by kernel_rfl) (by kernel_rfl) (by kernel_rfl) (by kernel_rfl) (fun _ _ _ h => h) (by rfl) hHeld ?_
          try simp only [Act.put, List.setIfInBounds_toArray, List.set_cons_zero, List.set_cons_succ]
          refine take_un (i := 20) (some 47) (by kernel_rfl) (by kernel_rfl) (by kernel_rfl) (by kernel_rfl) (fun _ _ _ h => h) (by rfl) hHeld ?_
          try simp only [Act.put, List.setIfInBounds_toArray, List.set_cons_zero, List.set_cons_succ]
          refine take_un (i := 21) (some 48) (by kernel_rfl) (by kernel_rfl) (by kernel_rfl) (by kernel_rfl) (fun _ _ _ h => h) (by rfl) hHeld ?_
          try simp only [Act.put, List.setIfInBounds_toArray, List.set_cons_zero, List.set_cons_succ]
          refine take_un (i := 22) (some 49) (by kernel_rfl) (by kernel_rfl) (by kernel_rfl) (by kernel_rfl) (fun _ _ _ h => h) (by rfl) hHeld ?_
          try simp only [Act.put, List.setIfInBounds_toArray, List.set_cons_zero, List.set_cons_succ]
          refine take_un (i := 23) (some 50) (by kernel_rfl) (by kernel_rfl) (by kernel_rfl) (by kernel_rfl) (fun _ _ _ h => h) (by rfl) hHeld ?_
          try simp only [Act.put, List.setIfInBounds_toArray, List.set_cons_zero, List.set_cons_succ]
          refine take_un (i := 24) (some 51) (by kernel_rfl) (by kernel_rfl) (by kernel_rfl) (by kernel_rfl) (fun _ _ _ h => h) (by rfl) hHeld ?_
          try simp only [Act.put, List.setIfInBounds_toArray, List.set_cons_zero, List.set_cons_succ]
          refine take_in (i := 25) _ (some 52) (by kernel_rfl) (by kernel_rfl) (by kernel_rfl) (by kernel_rfl) (fun _ _ _ h => h) (by rfl) (fun o ho w hSw => by cases ho; (try dsimp only at hSw); (try go_split_ands); go_simp; (try with_reducible rfl)) hHeld ?_
          try simp only [Act.put, List.setIfInBounds_toArray, List.set_cons_zero, List.set_cons_succ]
          refine wpAnyH_done (by kernel_rfl) ?_ _
          refine NoPanic.normal ?_
          have HW : Hid (txt (p.drop k) = wordR 4 (flat ((p.drop k).take (j - k))) ++ spt (p.drop (j - 1 + 1))) := by
            show _ = _
            rw [show j - 1 + 1 = j by omega]
            exact txt_runS HF.out (by omega) hjk HRUN.out
          have HLR := Lib.hid (range_run HRG.out k (j - k))
          have HLN : Hid ((flat ((p.drop k).take (j - k))).length ≤ 1000000) := Nat.le_trans (flat_run_le p k (j - k)) HFM.out
          have HLE : Hid (flat ((p.drop k).take (j - k)) ≠ []) := by
            show _ ≠ _
            intro h
            rw [drop_next HF.out, show j - k = (j - k - 1) + 1 by omega, List.take_succ_cons] at h
            unfold flat at h
            rw [List.flatMap_cons, List.append_eq_nil_iff] at h
            exact hv.2.1 h.1
          have HLI := Lib.hid ho.out.ints
          obtain ⟨L, hL⟩ : ∃ L, flat ((p.drop k).take (j - k)) = L := ⟨_, rfl⟩
          rw [hL] at HW HLR HLN HLE HLI ⊢
          have HJ1 : Hid (j = j - 1 + 1) := by show _ = _; omega
          clear hL ho HRUN
          by_cases hk0 : k = 0
          · have d0 : ¬ 0 < k := by omega
            have HK0 := Lib.hid hk0
            clear hk0
            go_wp2_with fail
            refine (word_any Al _ cl _ L (⟨#[44]⟩ : ByteArray) 44 (⟨#[91]⟩ : ByteArray) (⟨#[93]⟩ : ByteArray) wr.drew (HLI.out.below (Below.refl _ _).drew) (Nat.le_refl _) rfl HLR.out (Nat.le_trans HLN.out (by omega)) (by decide) (by decide)).mono ?_
            rintro e w2 ⟨rfl, hb2⟩
            have hbd : Below wr.heap.size wr wr.drew := (Below.refl _ _).drew
            have HBT : Hid (Below w.heap.size w w2) := below3 hbq.out (hbd.trans hb2)
            obtain ⟨pt, hpt⟩ : ∃ x, strB ((⟨#[91]⟩ : ByteArray).data.toList ++ (sepd 44 L ++ (⟨#[93]⟩ : ByteArray).data.toList)) = x := ⟨_, rfl⟩
            have hpl : pt.data.toList = wordR 4 L := by rw [← hpt, strB_list]; simp [wordR]
            have hpz : pt.size ≤ 11000002 := by
              rw [size_list, hpl]
              have := word_short (k := 4) HLR.out
              have := HLN.out
              omega
            rw [hpt]
            have hsz : b.size + pt.size ≤ 9223372036854775807 := by omega
            have hsz2 : (b.size : Int) + (pt.size : Int) ≤ 9223372036854775807 := by omega
            have HN : Hid (TAt p (j - 1 + 1) (b ++ pt)) := by
              have hk0 := HK0.out
              subst hk0
              exact hb.out.zero (word_ne HLE.out) HW.out (by rw [add_list, hpl])
            clear hb hpt hpl hbd hb2
            go_wp2
            go_roundw
            case rel => exact ⟨j - 1 + 1, b ++ pt, by omega, by rw [← HJ1.out], rfl, HN, HBT⟩
            case measure => simp [intOf] <;> omega
          · have d0 : 0 < k := by omega
            have HK0 := Lib.hid hk0
            clear hk0
            have d1 : (0 : Int) < (k : Int) := by omega
            have hsz : b.size + 1 ≤ 9223372036854775807 := by omega
            have hsz1 : (b.size : Int) + 1 ≤ 9223372036854775807 := by omega
            go_wp2_with fail
            refine (word_any Al _ cl _ L (⟨#[44]⟩ : ByteArray) 44 (⟨#[91]⟩ : ByteArray) (⟨#[93]⟩ : ByteArray) wr.drew (HLI.out.below (Below.refl _ _).drew) (Nat.le_refl _) rfl HLR.out (Nat.le_trans HLN.out (by omega)) (by decide) (by decide)).mono ?_
            rintro e w2 ⟨rfl, hb2⟩
            have hbd : Below wr.heap.size wr wr.drew := (Below.refl _ _).drew
            have HBT : Hid (Below w.heap.size w w2) := below3 hbq.out (hbd.trans hb2)
            obtain ⟨pt, hpt⟩ : ∃ x, strB ((⟨#[91]⟩ : ByteArray).data.toList ++ (sepd 44 L ++ (⟨#[93]⟩ : ByteArray).data.toList)) = x := ⟨_, rfl⟩
            have hpl : pt.data.toList = wordR 4 L := by rw [← hpt, strB_list]; simp [wordR]
            have hpz : pt.size ≤ 11000002 := by
              rw [size_list, hpl]
              have := word_short (k := 4) HLR.out
              have := HLN.out
              omega
            rw [hpt]
            have hsz2 : b.size + 1 + pt.size ≤ 9223372036854775807 := by omega
            have hsz3 : (b.size : Int) + 1 + (pt.size : Int) ≤ 9223372036854775807 := by omega
            have HN : Hid (TAt p (j - 1 + 1) ((b ++ (⟨#[32]⟩ : ByteArray)) ++ pt)) := hb.out.next HK0.out (by rw [HL.out]; exact hlt) HW.out (by rw [add_list, add_list, hpl])
            clear hb hpt hpl hbd hb2
            go_wp2
            go_roundw
            case rel => exact ⟨j - 1 + 1, (b ++ (⟨#[32]⟩ : ByteArray)) ++ pt, by omega, by rw [← HJ1.out], rfl, HN, HBT⟩
            case measure => simp [intOf] <;> omega
        have hji : (j : Int) < (n : Int) := by omega
        obtain ⟨b2', o2', f2, hbe2, hbB2, hf2, q0, q1, hi2⟩ := (HX.out.below hbq.out).get hj1
        simp only [Option.some.injEq, Addr.mk.injEq, and_true] at hbe2
        obtain ⟨rfl, rfl⟩ := hbe2
        obtain ⟨y2, fA2, fn2, fc2, xs2⟩ := f2
        dsimp only at q0 q1 hi2
        have hg2 : (p.drop (k + 1))[j - k - 1]? = some (y2, xs2) := by rw [List.getElem?_drop, show k + 1 + (j - k - 1) = j by omega]; exact hf2.out
        have HS : Hid (∀ W, Below wr.heap.size wr W → W.cell? ⟨b2, o2 + j * 2, none⟩ = some (.int .i64 y2) ∧ W.cell? ⟨b2, o2 + k * 2, none⟩ = some (.int .i64 4)) := fun W h => ⟨(h.cell (p := ⟨b2, o2 + j * 2, none⟩) hbq2).trans q0, (h.cell (p := ⟨b2, o2 + k * 2, none⟩) hbq2).trans p0⟩
        have HDR : Hid (Below wr.heap.size wr wr.drew) := (Below.refl _ _).drew
        by_cases h3 : y2 = 4
        case neg =>
          have dy : (y2 == 4) = false := by simp [h3]
          have HRUN : Hid (runS 4 (p.drop (k + 1)) = j - k - 1) := by
            show _ = _
            have h1 := hrun.out
            have h2 : runS 4 (p.drop (k + 1)) = 0 := if_pos (by decide)
            omega
          clear hrun hi hg2 hf2 hi2 h3 g0 g1
          go_wp2_with fail
          refine wp_region_noPanic ?_
          refine wp_region_held_drew (S := fun w' => w'.cell? ⟨b2, o2 + j * 2, none⟩ = some (.int .i64 y2) ∧ w'.cell? ⟨b2, o2 + k * 2, none⟩ = some (.int .i64 4)) (by kernel_rfl) (HS.out _ HDR.out) (fun hHeld => ?_)
          refine take_in (i := 0) _ (some 27) (by kernel_rfl) (by kernel_rfl) (by kernel_rfl) (by kernel_rfl) (fun _ _ _ h => h) (by rfl) (fun o ho w hSw => by cases ho; (try dsimp only at hSw); (try go_split_ands); go_simp; (try with_reducible rfl)) hHeld ?_
          try simp only [Act.put, List.setIfInBounds_toArray, List.set_cons_zero, List.set_cons_succ]
          refine take_in (i := 1) _ (some 28) (by kernel_rfl) (by kernel_rfl) (by kernel_rfl) (by kernel_rfl) (fun _ _ _ h => h) (by rfl) (fun o ho w hSw => by cases ho; (try dsimp only at hSw); (try go_split_ands); go_simp; (try with_reducible rfl)) hHeld ?_
          try simp only [Act.put, List.setIfInBounds_toArray, List.set_cons_zero, List.set_cons_succ]
          refine take_in (i := 2) _ (some 29) (by kernel_rfl) (by kernel_rfl) (by kernel_rfl) (by kernel_rfl) (fun _ _ _ h => h) (by rfl) (fun o ho w hSw => by cases ho; (try dsimp only at hSw); (try go_split_ands); go_simp; (try with_reducible rfl)) hHeld ?_
          try simp only [Act.put, List.setIfInBounds_toArray, List.set_cons_zero, List.set_cons_succ]
          refine take_in (i := 3) _ (some 30) (by kernel_rfl) (by kernel_rfl) (by kernel_rfl) (by kernel_rfl) (fun _ _ _ h => h) (by rfl) (fun o ho w hSw => by cases ho; (try dsimp only at hSw); (try go_split_ands); go_simp; (try with_reducible rfl)) hHeld ?_
          try simp only [Act.put, List.setIfInBounds_toArray, List.set_cons_zero, List.set_cons_succ]
          refine take_in (i := 4) _ (some 31) (by kernel_rfl) (by kernel_rfl) (by kernel_rfl) (by kernel_rfl) (fun _ _ _ h => h) (by rfl) (fun o ho w hSw => by cases ho; (try dsimp only at hSw); (try go_split_ands); go_simp; (try with_reducible rfl)) hHeld ?_
          try simp only [Act.put, List.setIfInBounds_toArray, List.set_cons_zero, List.set_cons_succ]
          refine take_in (i := 5) _ (some 32) (by kernel_rfl) (by kernel_rfl) (by kernel_rfl) (by kernel_rfl) (fun _ _ _ h => h) (by rfl) (fun o ho w hSw => by cases ho; (try dsimp only at hSw); (try go_split_ands); go_simp; (try with_reducible rfl)) hHeld ?_
          try simp only [Act.put, List.setIfInBounds_toArray, List.set_cons_zero, List.set_cons_succ]
          refine take_in (i := 6) _ (some 33) (by kernel_rfl) (by kernel_rfl) (by kernel_rfl) (by kernel_rfl) (fun _ _ _ h => h) (by rfl) (fun o ho w hSw => by cases ho; (try dsimp only at hSw); (try go_split_ands); go_simp; (try with_reducible rfl)) hHeld ?_
          try simp only [Act.put, List.setIfInBounds_toArray, List.set_cons_zero, List.set_cons_succ]
          refine take_in (i := 7) _ (some 34) (by kernel_rfl) (by kernel_rfl) (by kernel_rfl) (by kernel_rfl) (fun _ _ _ h => h) (by rfl) (fun o ho w hSw => by cases ho; (try dsimp only at hSw); (try go_split_ands); go_simp; (try with_reducible rfl)) hHeld ?_
          try simp only [Act.put, List.setIfInBounds_toArray, List.set_cons_zero, List.set_cons_succ]
          refine take_in (i := 8) _ (some 35) (by kernel_rfl) (by kernel_rfl) (by kernel_rfl) (by kernel_rfl) (fun _ _ _ h => h) (by rfl) (fun o ho w hSw => by cases ho; (try dsimp only at hSw); (try go_split_ands); go_simp; (try with_reducible rfl)) hHeld ?_
          try simp only [Act.put, List.setIfInBounds_toArray, List.set_cons_zero, List.set_cons_succ]
          refine take_in (i := 9) _ (some 36) (by kernel_rfl) (by kernel_rfl) (by kernel_rfl) (by kernel_rfl) (fun _ _ _ h => h) (by rfl) (fun o ho w hSw => by cases ho; (try dsimp only at hSw); (try go_split_ands); go_simp; (try with_reducible rfl)) hHeld ?_
          try simp only [Act.put, List.setIfInBounds_toArray, List.set_cons_zero, List.set_cons_succ]
          refine take_in (i := 10) _ (some 37) (by kernel_rfl) (by kernel_rfl) (by kernel_rfl) (by kernel_rfl) (fun _ _ _ h => h) (by rfl) (fun o ho w hSw => by cases ho; (try dsimp only at hSw); (try go_split_ands); go_simp; (try with_reducible rfl)) hHeld ?_
          try simp only [Act.put, List.setIfInBounds_toArray, List.set_cons_zero, List.set_cons_succ]
          refine take_in (i := 11) _ (some 38) (by kernel_rfl) (by kernel_rfl) (by kernel_rfl) (by kernel_rfl) (fun _ _ _ h => h) (by rfl) (fun o ho w hSw => by cases ho; (try dsimp only at hSw); (try go_split_ands); go_simp; (try with_reducible rfl)) hHeld ?_
          try simp only [Act.put, List.setIfInBounds_toArray, List.set_cons_zero, List.set_cons_succ]
          refine take_in (i := 12) _ (some 39) (by kernel_rfl) (by kernel_rfl) (by kernel_rfl) (by kernel_rfl) (fun _ _ _ h => h) (by rfl) (fun o ho w hSw => by cases ho; (try dsimp only at hSw); (try go_split_ands); go_simp; (try with_reducible rfl)) hHeld ?_
          try simp only [Act.put, List.setIfInBounds_toArray, List.set_cons_zero, List.set_cons_succ]
          refine take_in (i := 13) _ (some 40) (by kernel_rfl) (by kernel_rfl) (by kernel_rfl) (by kernel_rfl) (fun _ _ _ h => h) (by rfl) (fun o ho w hSw => by cases ho; (try dsimp only at hSw); (try go_split_ands); go_simp; (try with_reducible rfl)) hHeld ?_
          try simp only [Act.put, List.setIfInBounds_toArray, List.set_cons_zero, List.set_cons_succ]
          refine take_in (i := 14) _ (some 41) (by kernel_rfl) (by kernel_rfl) (by kernel_rfl) (by kernel_rfl) (fun _ _ _ h => h) (by rfl) (fun o ho w hSw => by cases ho; (try dsimp only at hSw); (try go_split_ands); go_simp; (try with_reducible rfl)) hHeld ?_
          try simp only [Act.put, List.setIfInBounds_toArray, List.set_cons_zero, List.set_cons_succ]
          refine take_in (i := 15) _ (some 42) (by kernel_rfl) (by kernel_rfl) (by kernel_rfl) (by kernel_rfl) (fun _ _ _ h => h) (by rfl) (fun o ho w hSw => by cases ho; (try dsimp only at hSw); (try go_split_ands); go_simp; (try with_reducible rfl)) hHeld ?_
          try simp only [Act.put, List.setIfInBounds_toArray, List.set_cons_zero, List.set_cons_succ]
          refine take_in (i := 16) _ (some 43) (by kernel_rfl) (by kernel_rfl) (by kernel_rfl) (by kernel_rfl) (fun _ _ _ h => h) (by rfl) (fun o ho w hSw => by cases ho; (try dsimp only at hSw); (try go_split_ands); go_simp; (try with_reducible rfl)) hHeld ?_
          try simp only [Act.put, List.setIfInBounds_toArray, List.set_cons_zero, List.set_cons_succ]
          refine take_in (i := 17) _ (some 44) (by kernel_rfl) (by kernel_rfl) (by kernel_rfl) (by kernel_rfl) (fun _ _ _ h => h) (by rfl) (fun o ho w hSw => by cases ho; (try dsimp only at hSw); (try go_split_ands); go_simp; (try with_reducible rfl)) hHeld ?_
          try simp only [Act.put, List.setIfInBounds_toArray, List.set_cons_zero, List.set_cons_succ]
          refine take_un (i := 18) (some 45) (by kernel_rfl) (by kernel_rfl) (by kernel_rfl) (by kernel_rfl) (fun _ _ _ h => h) (by rfl) hHeld ?_
          try simp only [Act.put, List.setIfInBounds_toArray, List.set_cons_zero, List.set_cons_succ]
          refine take_un (i := 19) (some 46) (by kernel_rfl) (by kernel_rfl) (by kernel_rfl) (by kernel_rfl) (fun _ _ _ h => h) (by rfl) hHeld ?_
          try simp only [Act.put, List.setIfInBounds_toArray, List.set_cons_zero, List.set_cons_succ]
          refine take_un (i := 20) (some 47) (by kernel_rfl) (by kernel_rfl) (by kernel_rfl) (by kernel_rfl) (fun _ _ _ h => h) (by rfl) hHeld ?_
          try simp only [Act.put, List.setIfInBounds_toArray, List.set_cons_zero, List.set_cons_succ]
          refine take_un (i := 21) (some 48) (by kernel_rfl) (by kernel_rfl) (by kernel_rfl) (by kernel_rfl) (fun _ _ _ h => h) (by rfl) hHeld ?_
          try simp only [Act.put, List.setIfInBounds_toArray, List.set_cons_zero, List.set_cons_succ]
          refine take_un (i := 22) (some 49) (by kernel_rfl) (by kernel_rfl) (by kernel_rfl) (by kernel_rfl) (fun _ _ _ h => h) (by rfl) hHeld ?_
          try simp only [Act.put, List.setIfInBounds_toArray, List.set_cons_zero, List.set_cons_succ]
          refine take_un (i := 23) (some 50) (by kernel_rfl) (by kernel_rfl) (by kernel_rfl) (by kernel_rfl) (fun _ _ _ h => h) (by rfl) hHeld ?_
          try simp only [Act.put, List.setIfInBounds_toArray, List.set_cons_zero, List.set_cons_succ]
          refine take_un (i := 24) (some 51) (by kernel_rfl) (by kernel_rfl) (by kernel_rfl) (by kernel_rfl) (fun _ _ _ h => h) (by rfl) hHeld ?_
          try simp only [Act.put, List.setIfInBounds_toArray, List.set_cons_zero, List.set_cons_succ]
          refine take_in (i := 25) _ (some 52) (by kernel_rfl) (by kernel_rfl) (by kernel_rfl) (by kernel_rfl) (fun _ _ _ h => h) (by rfl) (fun o ho w hSw => by cases ho; (try dsimp only at hSw); (try go_split_ands); go_simp; (try with_reducible rfl)) hHeld ?_
          try simp only [Act.put, List.setIfInBounds_toArray, List.set_cons_zero, List.set_cons_succ]
          refine wpAnyH_done (by kernel_rfl) ?_ _
          refine NoPanic.normal ?_
          have HW : Hid (txt (p.drop k) = wordR 4 (flat ((p.drop k).take (j - k))) ++ spt (p.drop (j - 1 + 1))) := by
            show _ = _
            rw [show j - 1 + 1 = j by omega]
            exact txt_runS HF.out (by omega) hjk HRUN.out
          have HLR := Lib.hid (range_run HRG.out k (j - k))
          have HLN : Hid ((flat ((p.drop k).take (j - k))).length ≤ 1000000) := Nat.le_trans (flat_run_le p k (j - k)) HFM.out
          have HLE : Hid (flat ((p.drop k).take (j - k)) ≠ []) := by
            show _ ≠ _
            intro h
            rw [drop_next HF.out, show j - k = (j - k - 1) + 1 by omega, List.take_succ_cons] at h
            unfold flat at h
            rw [List.flatMap_cons, List.append_eq_nil_iff] at h
            exact hv.2.1 h.1
          have HLI := Lib.hid ho.out.ints
          obtain ⟨L, hL⟩ : ∃ L, flat ((p.drop k).take (j - k)) = L := ⟨_, rfl⟩
          rw [hL] at HW HLR HLN HLE HLI ⊢
          have HJ1 : Hid (j = j - 1 + 1) := by show _ = _; omega
          clear hL ho HRUN
          by_cases hk0 : k = 0
          · have d0 : ¬ 0 < k := by omega
            have HK0 := Lib.hid hk0
            clear hk0
            go_wp2_with fail
            refine (word_any Al _ cl _ L (⟨#[44]⟩ : ByteArray) 44 (⟨#[91]⟩ : ByteArray) (⟨#[93]⟩ : ByteArray) wr.drew (HLI.out.below (Below.refl _ _).drew) (Nat.le_refl _) rfl HLR.out (Nat.le_trans HLN.out (by omega)) (by decide) (by decide)).mono ?_
            rintro e w2 ⟨rfl, hb2⟩
            have hbd : Below wr.heap.size wr wr.drew := (Below.refl _ _).drew
            have HBT : Hid (Below w.heap.size w w2) := below3 hbq.out (hbd.trans hb2)
            obtain ⟨pt, hpt⟩ : ∃ x, strB ((⟨#[91]⟩ : ByteArray).data.toList ++ (sepd 44 L ++ (⟨#[93]⟩ : ByteArray).data.toList)) = x := ⟨_, rfl⟩
            have hpl : pt.data.toList = wordR 4 L := by rw [← hpt, strB_list]; simp [wordR]
            have hpz : pt.size ≤ 11000002 := by
              rw [size_list, hpl]
              have := word_short (k := 4) HLR.out
              have := HLN.out
              omega
            rw [hpt]
            have hsz : b.size + pt.size ≤ 9223372036854775807 := by omega
            have hsz2 : (b.size : Int) + (pt.size : Int) ≤ 9223372036854775807 := by omega
            have HN : Hid (TAt p (j - 1 + 1) (b ++ pt)) := by
              have hk0 := HK0.out
              subst hk0
              exact hb.out.zero (word_ne HLE.out) HW.out (by rw [add_list, hpl])
            clear hb hpt hpl hbd hb2
            go_wp2
            go_roundw
            case rel => exact ⟨j - 1 + 1, b ++ pt, by omega, by rw [← HJ1.out], rfl, HN, HBT⟩
            case measure => simp [intOf] <;> omega
          · have d0 : 0 < k := by omega
            have HK0 := Lib.hid hk0
            clear hk0
            have d1 : (0 : Int) < (k : Int) := by omega
            have hsz : b.size + 1 ≤ 9223372036854775807 := by omega
            have hsz1 : (b.size : Int) + 1 ≤ 9223372036854775807 := by omega
            go_wp2_with fail
            refine (word_any Al _ cl _ L (⟨#[44]⟩ : ByteArray) 44 (⟨#[91]⟩ : ByteArray) (⟨#[93]⟩ : ByteArray) wr.drew (HLI.out.below (Below.refl _ _).drew) (Nat.le_refl _) rfl HLR.out (Nat.le_trans HLN.out (by omega)) (by decide) (by decide)).mono ?_
            rintro e w2 ⟨rfl, hb2⟩
            have hbd : Below wr.heap.size wr wr.drew := (Below.refl _ _).drew
            have HBT : Hid (Below w.heap.size w w2) := below3 hbq.out (hbd.trans hb2)
            obtain ⟨pt, hpt⟩ : ∃ x, strB ((⟨#[91]⟩ : ByteArray).data.toList ++ (sepd 44 L ++ (⟨#[93]⟩ : ByteArray).data.toList)) = x := ⟨_, rfl⟩
            have hpl : pt.data.toList = wordR 4 L := by rw [← hpt, strB_list]; simp [wordR]
            have hpz : pt.size ≤ 11000002 := by
              rw [size_list, hpl]
              have := word_short (k := 4) HLR.out
              have := HLN.out
              omega
            rw [hpt]
            have hsz2 : b.size + 1 + pt.size ≤ 9223372036854775807 := by omega
            have hsz3 : (b.size : Int) + 1 + (pt.size : Int) ≤ 9223372036854775807 := by omega
            have HN : Hid (TAt p (j - 1 + 1) ((b ++ (⟨#[32]⟩ : ByteArray)) ++ pt)) := hb.out.next HK0.out (by rw [HL.out]; exact hlt) HW.out (by rw [add_list, add_list, hpl])
            clear hb hpt hpl hbd hb2
            go_wp2
            go_roundw
            case rel => exact ⟨j - 1 + 1, (b ++ (⟨#[32]⟩ : ByteArray)) ++ pt, by omega, by rw [← HJ1.out], rfl, HN, HBT⟩
            case measure => simp [intOf] <;> omega
        subst h3
        have HRUN : Hid (runS 4 (p.drop (k + 1)) = j - k - 1) := by
          show _ = _
          have h1 := hrun.out
          have h2 : runS 4 (p.drop (k + 1)) = 0 := if_pos (by decide)
          omega
        clear hrun hi hg2 hf2 hi2 g0 g1
        go_wp2_with fail
        refine wp_region_noPanic ?_
        refine wp_region_held_drew (S := fun w' => w'.cell? ⟨b2, o2 + j * 2, none⟩ = some (.int .i64 4) ∧ w'.cell? ⟨b2, o2 + k * 2, none⟩ = some (.int .i64 4)) (by kernel_rfl) (HS.out _ HDR.out) (fun hHeld => ?_)
        refine take_in (i := 0) _ (some 27) (by kernel_rfl) (by kernel_rfl) (by kernel_rfl) (by kernel_rfl) (fun _ _ _ h => h) (by rfl) (fun o ho w hSw => by cases ho; (try dsimp only at hSw); (try go_split_ands); go_simp; (try with_reducible rfl)) hHeld ?_
        try simp only [Act.put, List.setIfInBounds_toArray, List.set_cons_zero, List.set_cons_succ]
        refine take_in (i := 1) _ (some 28) (by kernel_rfl) (by kernel_rfl) (by kernel_rfl) (by kernel_rfl) (fun _ _ _ h => h) (by rfl) (fun o ho w hSw => by cases ho; (try dsimp only at hSw); (try go_split_ands); go_simp; (try with_reducible rfl)) hHeld ?_
        try simp only [Act.put, List.setIfInBounds_toArray, List.set_cons_zero, List.set_cons_succ]
        refine take_in (i := 2) _ (some 29) (by kernel_rfl) (by kernel_rfl) (by kernel_rfl) (by kernel_rfl) (fun _ _ _ h => h) (by rfl) (fun o ho w hSw => by cases ho; (try dsimp only at hSw); (try go_split_ands); go_simp; (try with_reducible rfl)) hHeld ?_
        try simp only [Act.put, List.setIfInBounds_toArray, List.set_cons_zero, List.set_cons_succ]
        refine take_in (i := 3) _ (some 30) (by kernel_rfl) (by kernel_rfl) (by kernel_rfl) (by kernel_rfl) (fun _ _ _ h => h) (by rfl) (fun o ho w hSw => by cases ho; (try dsimp only at hSw); (try go_split_ands); go_simp; (try with_reducible rfl)) hHeld ?_
        try simp only [Act.put, List.setIfInBounds_toArray, List.set_cons_zero, List.set_cons_succ]
        refine take_in (i := 4) _ (some 31) (by kernel_rfl) (by kernel_rfl) (by kernel_rfl) (by kernel_rfl) (fun _ _ _ h => h) (by rfl) (fun o ho w hSw => by cases ho; (try dsimp only at hSw); (try go_split_ands); go_simp; (try with_reducible rfl)) hHeld ?_
        try simp only [Act.put, List.setIfInBounds_toArray, List.set_cons_zero, List.set_cons_succ]
        refine take_in (i := 5) _ (some 32) (by kernel_rfl) (by kernel_rfl) (by kernel_rfl) (by kernel_rfl) (fun _ _ _ h => h) (by rfl) (fun o ho w hSw => by cases ho; (try dsimp only at hSw); (try go_split_ands); go_simp; (try with_reducible rfl)) hHeld ?_
        try simp only [Act.put, List.setIfInBounds_toArray, List.set_cons_zero, List.set_cons_succ]
        refine take_in (i := 6) _ (some 33) (by kernel_rfl) (by kernel_rfl) (by kernel_rfl) (by kernel_rfl) (fun _ _ _ h => h) (by rfl) (fun o ho w hSw => by cases ho; (try dsimp only at hSw); (try go_split_ands); go_simp; (try with_reducible rfl)) hHeld ?_
        try simp only [Act.put, List.setIfInBounds_toArray, List.set_cons_zero, List.set_cons_succ]
        refine take_in (i := 7) _ (some 34) (by kernel_rfl) (by kernel_rfl) (by kernel_rfl) (by kernel_rfl) (fun _ _ _ h => h) (by rfl) (fun o ho w hSw => by cases ho; (try dsimp only at hSw); (try go_split_ands); go_simp; (try with_reducible rfl)) hHeld ?_
        try simp only [Act.put, List.setIfInBounds_toArray, List.set_cons_zero, List.set_cons_succ]
        refine take_in (i := 8) _ (some 35) (by kernel_rfl) (by kernel_rfl) (by kernel_rfl) (by kernel_rfl) (fun _ _ _ h => h) (by rfl) (fun o ho w hSw => by cases ho; (try dsimp only at hSw); (try go_split_ands); go_simp; (try with_reducible rfl)) hHeld ?_
        try simp only [Act.put, List.setIfInBounds_toArray, List.set_cons_zero, List.set_cons_succ]
        refine take_in (i := 9) _ (some 36) (by kernel_rfl) (by kernel_rfl) (by kernel_rfl) (by kernel_rfl) (fun _ _ _ h => h) (by rfl) (fun o ho w hSw => by cases ho; (try dsimp only at hSw); (try go_split_ands); go_simp; (try with_reducible rfl)) hHeld ?_
        try simp only [Act.put, List.setIfInBounds_toArray, List.set_cons_zero, List.set_cons_succ]
        refine take_in (i := 10) _ (some 37) (by kernel_rfl) (by kernel_rfl) (by kernel_rfl) (by kernel_rfl) (fun _ _ _ h => h) (by rfl) (fun o ho w hSw => by cases ho; (try dsimp only at hSw); (try go_split_ands); go_simp; (try with_reducible rfl)) hHeld ?_
        try simp only [Act.put, List.setIfInBounds_toArray, List.set_cons_zero, List.set_cons_succ]
        refine take_in (i := 11) _ (some 38) (by kernel_rfl) (by kernel_rfl) (by kernel_rfl) (by kernel_rfl) (fun _ _ _ h => h) (by rfl) (fun o ho w hSw => by cases ho; (try dsimp only at hSw); (try go_split_ands); go_simp; (try with_reducible rfl)) hHeld ?_
        try simp only [Act.put, List.setIfInBounds_toArray, List.set_cons_zero, List.set_cons_succ]
        refine take_in (i := 12) _ (some 39) (by kernel_rfl) (by kernel_rfl) (by kernel_rfl) (by kernel_rfl) (fun _ _ _ h => h) (by rfl) (fun o ho w hSw => by cases ho; (try dsimp only at hSw); (try go_split_ands); go_simp; (try with_reducible rfl)) hHeld ?_
        try simp only [Act.put, List.setIfInBounds_toArray, List.set_cons_zero, List.set_cons_succ]
        refine take_in (i := 13) _ (some 40) (by kernel_rfl) (by kernel_rfl) (by kernel_rfl) (by kernel_rfl) (fun _ _ _ h => h) (by rfl) (fun o ho w hSw => by cases ho; (try dsimp only at hSw); (try go_split_ands); go_simp; (try with_reducible rfl)) hHeld ?_
        try simp only [Act.put, List.setIfInBounds_toArray, List.set_cons_zero, List.set_cons_succ]
        refine take_in (i := 14) _ (some 41) (by kernel_rfl) (by kernel_rfl) (by kernel_rfl) (by kernel_rfl) (fun _ _ _ h => h) (by rfl) (fun o ho w hSw => by cases ho; (try dsimp only at hSw); (try go_split_ands); go_simp; (try with_reducible rfl)) hHeld ?_
        try simp only [Act.put, List.setIfInBounds_toArray, List.set_cons_zero, List.set_cons_succ]
        refine take_in (i := 15) _ (some 42) (by kernel_rfl) (by kernel_rfl) (by kernel_rfl) (by kernel_rfl) (fun _ _ _ h => h) (by rfl) (fun o ho w hSw => by cases ho; (try dsimp only at hSw); (try go_split_ands); go_simp; (try with_reducible rfl)) hHeld ?_
        try simp only [Act.put, List.setIfInBounds_toArray, List.set_cons_zero, List.set_cons_succ]
        refine take_in (i := 16) _ (some 43) (by kernel_rfl) (by kernel_rfl) (by kernel_rfl) (by kernel_rfl) (fun _ _ _ h => h) (by rfl) (fun o ho w hSw => by cases ho; (try dsimp only at hSw); (try go_split_ands); go_simp; (try with_reducible rfl)) hHeld ?_
        try simp only [Act.put, List.setIfInBounds_toArray, List.set_cons_zero, List.set_cons_succ]
        refine take_in (i := 17) _ (some 44) (by kernel_rfl) (by kernel_rfl) (by kernel_rfl) (by kernel_rfl) (fun _ _ _ h => h) (by rfl) (fun o ho w hSw => by cases ho; (try dsimp only at hSw); (try go_split_ands); go_simp; (try with_reducible rfl)) hHeld ?_
        try simp only [Act.put, List.setIfInBounds_toArray, List.set_cons_zero, List.set_cons_succ]
        refine take_in (i := 18) _ (some 45) (by kernel_rfl) (by kernel_rfl) (by kernel_rfl) (by kernel_rfl) (fun _ _ _ h => h) (by rfl) (fun o ho w hSw => by cases ho; (try dsimp only at hSw); (try go_split_ands); go_simp; (try with_reducible rfl)) hHeld ?_
        try simp only [Act.put, List.setIfInBounds_toArray, List.set_cons_zero, List.set_cons_succ]
        refine take_in (i := 19) _ (some 46) (by kernel_rfl) (by kernel_rfl) (by kernel_rfl) (by kernel_rfl) (fun _ _ _ h => h) (by rfl) (fun o ho w hSw => by cases ho; (try dsimp only at hSw); (try go_split_ands); go_simp; (try with_reducible rfl)) hHeld ?_
        try simp only [Act.put, List.setIfInBounds_toArray, List.set_cons_zero, List.set_cons_succ]
        refine take_in (i := 20) _ (some 47) (by kernel_rfl) (by kernel_rfl) (by kernel_rfl) (by kernel_rfl) (fun _ _ _ h => h) (by rfl) (fun o ho w hSw => by cases ho; (try dsimp only at hSw); (try go_split_ands); go_simp; (try with_reducible rfl)) hHeld ?_
        try simp only [Act.put, List.setIfInBounds_toArray, List.set_cons_zero, List.set_cons_succ]
        refine take_in (i := 21) _ (some 48) (by kernel_rfl) (by kernel_rfl) (by kernel_rfl) (by kernel_rfl) (fun _ _ _ h => h) (by rfl) (fun o ho w hSw => by cases ho; (try dsimp only at hSw); (try go_split_ands); go_simp; (try with_reducible rfl)) hHeld ?_
        try simp only [Act.put, List.setIfInBounds_toArray, List.set_cons_zero, List.set_cons_succ]
        refine take_in (i := 22) _ (some 49) (by kernel_rfl) (by kernel_rfl) (by kernel_rfl) (by kernel_rfl) (fun _ _ _ h => h) (by rfl) (fun o ho w hSw => by cases ho; (try dsimp only at hSw); (try go_split_ands); go_simp; (try with_reducible rfl)) hHeld ?_
        try simp only [Act.put, List.setIfInBounds_toArray, List.set_cons_zero, List.set_cons_succ]
        refine wpAnyH_ready (rs := [23]) (by kernel_rfl) (by simp) ?_
        refine AllReadyH.cons (o := _) rfl (fun K hK => ?_) AllReadyH.nil
        go_simp
        go_at_call 51
        with_reducible refine (isSet_any _ _).mono ?_
        rintro e w9 ⟨rfl, rfl⟩
        rw [show setB 4 = true from by decide]
        refine hK.out _ _ hHeld (fun hHeld => ?_)
        clear hK K
        try simp only [Act.put, List.setIfInBounds_toArray, List.set_cons_zero, List.set_cons_succ]
        refine take_in (i := 24) _ (some 51) (by kernel_rfl) (by kernel_rfl) (by kernel_rfl) (by kernel_rfl) (fun _ _ _ h => h) (by rfl) (fun o ho w hSw => by cases ho; (try dsimp only at hSw); (try go_split_ands); go_simp; (try with_reducible rfl)) hHeld ?_
        try simp only [Act.put, List.setIfInBounds_toArray, List.set_cons_zero, List.set_cons_succ]
        refine take_in (i := 25) _ (some 52) (by kernel_rfl) (by kernel_rfl) (by kernel_rfl) (by kernel_rfl) (fun _ _ _ h => h) (by rfl) (fun o ho w hSw => by cases ho; (try dsimp only at hSw); (try go_split_ands); go_simp; (try with_reducible rfl)) hHeld ?_
        try simp only [Act.put, List.setIfInBounds_toArray, List.set_cons_zero, List.set_cons_succ]
        refine wpAnyH_done (by kernel_rfl) ?_ _
        refine NoPanic.normal ?_
        have HW : Hid (txt (p.drop k) = wordR 4 (flat ((p.drop k).take (j - k))) ++ spt (p.drop (j - 1 + 1))) := by
          show _ = _
          rw [show j - 1 + 1 = j by omega]
          exact txt_runS HF.out (by omega) hjk HRUN.out
        have HLR := Lib.hid (range_run HRG.out k (j - k))
        have HLN : Hid ((flat ((p.drop k).take (j - k))).length ≤ 1000000) := Nat.le_trans (flat_run_le p k (j - k)) HFM.out
        have HLE : Hid (flat ((p.drop k).take (j - k)) ≠ []) := by
          show _ ≠ _
          intro h
          rw [drop_next HF.out, show j - k = (j - k - 1) + 1 by omega, List.take_succ_cons] at h
          unfold flat at h
          rw [List.flatMap_cons, List.append_eq_nil_iff] at h
          exact hv.2.1 h.1
        have HLI := Lib.hid ho.out.ints
        obtain ⟨L, hL⟩ : ∃ L, flat ((p.drop k).take (j - k)) = L := ⟨_, rfl⟩
        rw [hL] at HW HLR HLN HLE HLI ⊢
        have HJ1 : Hid (j = j - 1 + 1) := by show _ = _; omega
        clear hL ho HRUN
        by_cases hk0 : k = 0
        · have d0 : ¬ 0 < k := by omega
          have HK0 := Lib.hid hk0
          clear hk0
          go_wp2_with fail
          refine (word_any Al _ cl _ L (⟨#[44]⟩ : ByteArray) 44 (⟨#[91]⟩ : ByteArray) (⟨#[93]⟩ : ByteArray) wr.drew (HLI.out.below (Below.refl _ _).drew) (Nat.le_refl _) rfl HLR.out (Nat.le_trans HLN.out (by omega)) (by decide) (by decide)).mono ?_
          rintro e w2 ⟨rfl, hb2⟩
          have hbd : Below wr.heap.size wr wr.drew := (Below.refl _ _).drew
          have HBT : Hid (Below w.heap.size w w2) := below3 hbq.out (hbd.trans hb2)
          obtain ⟨pt, hpt⟩ : ∃ x, strB ((⟨#[91]⟩ : ByteArray).data.toList ++ (sepd 44 L ++ (⟨#[93]⟩ : ByteArray).data.toList)) = x := ⟨_, rfl⟩
          have hpl : pt.data.toList = wordR 4 L := by rw [← hpt, strB_list]; simp [wordR]
          have hpz : pt.size ≤ 11000002 := by
            rw [size_list, hpl]
            have := word_short (k := 4) HLR.out
            have := HLN.out
            omega
          rw [hpt]
          have hsz : b.size + pt.size ≤ 9223372036854775807 := by omega
          have hsz2 : (b.size : Int) + (pt.size : Int) ≤ 9223372036854775807 := by omega
          have HN : Hid (TAt p (j - 1 + 1) (b ++ pt)) := by
            have hk0 := HK0.out
            subst hk0
            exact hb.out.zero (word_ne HLE.out) HW.out (by rw [add_list, hpl])
          clear hb hpt hpl hbd hb2
          go_wp2
          go_roundw
          case rel => exact ⟨j - 1 + 1, b ++ pt, by omega, by rw [← HJ1.out], rfl, HN, HBT⟩
          case measure => simp [intOf] <;> omega
        · have d0 : 0 < k := by omega
          have HK0 := Lib.hid hk0
          clear hk0
          have d1 : (0 : Int) < (k : Int) := by omega
          have hsz : b.size + 1 ≤ 9223372036854775807 := by omega
          have hsz1 : (b.size : Int) + 1 ≤ 9223372036854775807 := by omega
          go_wp2_with fail
          refine (word_any Al _ cl _ L (⟨#[44]⟩ : ByteArray) 44 (⟨#[91]⟩ : ByteArray) (⟨#[93]⟩ : ByteArray) wr.drew (HLI.out.below (Below.refl _ _).drew) (Nat.le_refl _) rfl HLR.out (Nat.le_trans HLN.out (by omega)) (by decide) (by decide)).mono ?_
          rintro e w2 ⟨rfl, hb2⟩
          have hbd : Below wr.heap.size wr wr.drew := (Below.refl _ _).drew
          have HBT : Hid (Below w.heap.size w w2) := below3 hbq.out (hbd.trans hb2)
          obtain ⟨pt, hpt⟩ : ∃ x, strB ((⟨#[91]⟩ : ByteArray).data.toList ++ (sepd 44 L ++ (⟨#[93]⟩ : ByteArray).data.toList)) = x := ⟨_, rfl⟩
          have hpl : pt.data.toList = wordR 4 L := by rw [← hpt, strB_list]; simp [wordR]
          have hpz : pt.size ≤ 11000002 := by
            rw [size_list, hpl]
            have := word_short (k := 4) HLR.out
            have := HLN.out
            omega
          rw [hpt]
          have hsz2 : b.size + 1 + pt.size ≤ 9223372036854775807 := by omega
          have hsz3 : (b.size : Int) + 1 + (pt.size : Int) ≤ 9223372036854775807 := by omega
          have HN : Hid (TAt p (j - 1 + 1) ((b ++ (⟨#[32]⟩ : ByteArray)) ++ pt)) := hb.out.next HK0.out (by rw [HL.out]; exact hlt) HW.out (by rw [add_list, add_list, hpl])
          clear hb hpt hpl hbd hb2
          go_wp2
          go_roundw
          case rel => exact ⟨j - 1 + 1, (b ++ (⟨#[32]⟩ : ByteArray)) ++ pt, by omega, by rw [← HJ1.out], rfl, HN, HBT⟩
          case measure => simp [intOf] <;> omega
    · obtain ⟨A4, c4, w4, hr4, ho4, hb4⟩ := copy_ints hi.out hwr rfl (by omega)
      have HR4 := Lib.hid hr4
      have HO4 : Hid (Own w4 w.heap.size 3 .i64 (.slice A4 fn c4) (flat ((p.drop k).take (k + 1 - k))).length (flat ((p.drop k).take (k + 1 - k)))) := by
        have e : flat ((p.drop k).take (k + 1 - k)) = xs := by
          rw [show k + 1 - k = 1 by omega, drop_next HF.out]
          simp [flat]
        show Own _ _ _ _ _ _ _
        rw [e, hfl]
        exact own_mono ho4 hwr
      have HB4 := Lib.hid (below3 hbw.out hb4)
      clear hr4 ho4 hb4
      go_wp2_with (at_builtin; refine wpList_append_run rfl _ _ _ rfl rfl rfl HR4.out ?_)
      obtain ⟨wo, hwo⟩ : ∃ wo : World, wo = wr := ⟨_, rfl⟩
      subst hwo
      go_loopw [7, 8] (fun lv jv wq => RfInv w p n k 3 lv jv wq) (fun _ jv _ => n - (intOf jv).toNat)
      case atStart => exact ⟨k + 1, by omega, by omega, by go_num, by show _ ≤ _; omega, HO4, HB4⟩
      case round =>
        obtain ⟨j, hjk, hjn, rfl, hrun, ho, hbq⟩ := hrel
        obtain ⟨Al, cl, rfl⟩ := own_form ho.out
        have hwq := hbq.out.size
        have hbq2 : b2 < wr.heap.size := by omega
        have p0 : wr.cell? ⟨b2, o2 + k * 2, none⟩ = some (.int .i64 3) := ((hbq.out.cell (p := ⟨b2, o2 + k * 2, none⟩) hbB).trans (hbw.out.cell (p := ⟨b2, o2 + k * 2, none⟩) hbB).symm).trans g0
        by_cases hj1 : j < n
        case neg =>
          have hnj : ¬ (j : Int) < (n : Int) := by omega
          have HRUN : Hid (runS 3 (p.drop (k + 1)) = j - k - 1) := by
            show _ = _
            have h1 := runS_le 3 (p.drop (k + 1))
            rw [List.length_drop, HL.out] at h1
            have h2 := hrun.out
            omega
          clear hrun hi g0 g1
          go_wp2_with fail
          refine wp_region_noPanic ?_
          refine wp_region_held_drew (S := fun _ => True) (by kernel_rfl) trivial (fun hHeld => ?_)
          refine take_in (i := 0) _ (some 27) (by kernel_rfl) (by kernel_rfl) (by kernel_rfl) (by kernel_rfl) (fun _ _ _ h => h) (by rfl) (fun o ho w hSw => by cases ho; (try dsimp only at hSw); (try go_split_ands); go_simp; (try with_reducible rfl)) hHeld ?_
          try simp only [Act.put, List.setIfInBounds_toArray, List.set_cons_zero, List.set_cons_succ]
          refine take_in (i := 1) _ (some 28) (by kernel_rfl) (by kernel_rfl) (by kernel_rfl) (by kernel_rfl) (fun _ _ _ h => h) (by rfl) (fun o ho w hSw => by cases ho; (try dsimp only at hSw); (try go_split_ands); go_simp; (try with_reducible rfl)) hHeld ?_
          try simp only [Act.put, List.setIfInBounds_toArray, List.set_cons_zero, List.set_cons_succ]
          refine take_in (i := 2) _ (some 29) (by kernel_rfl) (by kernel_rfl) (by kernel_rfl) (by kernel_rfl) (fun _ _ _ h => h) (by rfl) (fun o ho w hSw => by cases ho; (try dsimp only at hSw); (try go_split_ands); go_simp; (try with_reducible rfl)) hHeld ?_
          try simp only [Act.put, List.setIfInBounds_toArray, List.set_cons_zero, List.set_cons_succ]
          refine take_in (i := 3) _ (some 30) (by kernel_rfl) (by kernel_rfl) (by kernel_rfl) (by kernel_rfl) (fun _ _ _ h => h) (by rfl) (fun o ho w hSw => by cases ho; (try dsimp only at hSw); (try go_split_ands); go_simp; (try with_reducible rfl)) hHeld ?_
          try simp only [Act.put, List.setIfInBounds_toArray, List.set_cons_zero, List.set_cons_succ]
          refine take_in (i := 4) _ (some 31) (by kernel_rfl) (by kernel_rfl) (by kernel_rfl) (by kernel_rfl) (fun _ _ _ h => h) (by rfl) (fun o ho w hSw => by cases ho; (try dsimp only at hSw); (try go_split_ands); go_simp; (try with_reducible rfl)) hHeld ?_
          try simp only [Act.put, List.setIfInBounds_toArray, List.set_cons_zero, List.set_cons_succ]
          refine take_un (i := 5) (some 32) (by kernel_rfl) (by kernel_rfl) (by kernel_rfl) (by kernel_rfl) (fun _ _ _ h => h) (by rfl) hHeld ?_
          try simp only [Act.put, List.setIfInBounds_toArray, List.set_cons_zero, List.set_cons_succ]
          refine take_un (i := 6) (some 33) (by kernel_rfl) (by kernel_rfl) (by kernel_rfl) (by kernel_rfl) (fun _ _ _ h => h) (by rfl) hHeld ?_
          try simp only [Act.put, List.setIfInBounds_toArray, List.set_cons_zero, List.set_cons_succ]
          refine take_un (i := 7) (some 34) (by kernel_rfl) (by kernel_rfl) (by kernel_rfl) (by kernel_rfl) (fun _ _ _ h => h) (by rfl) hHeld ?_
          try simp only [Act.put, List.setIfInBounds_toArray, List.set_cons_zero, List.set_cons_succ]
          refine take_un (i := 8) (some 35) (by kernel_rfl) (by kernel_rfl) (by kernel_rfl) (by kernel_rfl) (fun _ _ _ h => h) (by rfl) hHeld ?_
          try simp only [Act.put, List.setIfInBounds_toArray, List.set_cons_zero, List.set_cons_succ]
          refine take_un (i := 9) (some 36) (by kernel_rfl) (by kernel_rfl) (by kernel_rfl) (by kernel_rfl) (fun _ _ _ h => h) (by rfl) hHeld ?_
          try simp only [Act.put, List.setIfInBounds_toArray, List.set_cons_zero, List.set_cons_succ]
          refine take_un (i := 10) (some 37) (by kernel_rfl) (by kernel_rfl) (by kernel_rfl) (by kernel_rfl) (fun _ _ _ h => h) (by rfl) hHeld ?_
          try simp only [Act.put, List.setIfInBounds_toArray, List.set_cons_zero, List.set_cons_succ]
          refine take_un (i := 11) (some 38) (by kernel_rfl) (by kernel_rfl) (by kernel_rfl) (by kernel_rfl) (fun _ _ _ h => h) (by rfl) hHeld ?_
          try simp only [Act.put, List.setIfInBounds_toArray, List.set_cons_zero, List.set_cons_succ]
          refine take_un (i := 12) (some 39) (by kernel_rfl) (by kernel_rfl) (by kernel_rfl) (by kernel_rfl) (fun _ _ _ h => h) (by rfl) hHeld ?_
          try simp only [Act.put, List.setIfInBounds_toArray, List.set_cons_zero, List.set_cons_succ]
          refine take_un (i := 13) (some 40) (by kernel_rfl) (by kernel_rfl) (by kernel_rfl) (by kernel_rfl) (fun _ _ _ h => h) (by rfl) hHeld ?_
          try simp only [Act.put, List.setIfInBounds_toArray, List.set_cons_zero, List.set_cons_succ]
          refine take_un (i := 14) (some 41) (by kernel_rfl) (by kernel_rfl) (by kernel_rfl) (by kernel_rfl) (fun _ _ _ h => h) (by rfl) hHeld ?_
          try simp only [Act.put, List.setIfInBounds_toArray, List.set_cons_zero, List.set_cons_succ]
          refine take_un (i := 15) (some 42) (by kernel_rfl) (by kernel_rfl) (by kernel_rfl) (by kernel_rfl) (fun _ _ _ h => h) (by rfl) hHeld ?_
          try simp only [Act.put, List.setIfInBounds_toArray, List.set_cons_zero, List.set_cons_succ]
          refine take_in (i := 16) _ (some 43) (by kernel_rfl) (by kernel_rfl) (by kernel_rfl) (by kernel_rfl) (fun _ _ _ h => h) (by rfl) (fun o ho w hSw => by cases ho; (try dsimp only at hSw); (try go_split_ands); go_simp; (try with_reducible rfl)) hHeld ?_
          try simp only [Act.put, List.setIfInBounds_toArray, List.set_cons_zero, List.set_cons_succ]
          refine take_in (i := 17) _ (some 44) (by kernel_rfl) (by kernel_rfl) (by kernel_rfl) (by kernel_rfl) (fun _ _ _ h => h) (by rfl) (fun o ho w hSw => by cases ho; (try dsimp only at hSw); (try go_split_ands); go_simp; (try with_reducible rfl)) hHeld ?_
          try simp only [Act.put, List.setIfInBounds_toArray, List.set_cons_zero, List.set_cons_succ]
          refine take_un (i := 18) (some 45) (by kernel_rfl) (by kernel_rfl) (by kernel_rfl) (by kernel_rfl) (fun _ _ _ h => h) (by rfl) hHeld ?_
          try simp only [Act.put, List.setIfInBounds_toArray, List.set_cons_zero, List.set_cons_succ]
          refine take_un (i := 19) (some 46) (by kernel_rfl) (by kernel_rfl) (by kernel_rfl) (by kernel_rfl) (fun _ _ _ h => h) (by rfl) hHeld ?_
          try simp only [Act.put, List.setIfInBounds_toArray, List.set_cons_zero, List.set_cons_succ]
          refine take_un (i := 20) (some 47) (by kernel_rfl) (by kernel_rfl) (by kernel_rfl) (by kernel_rfl) (fun _ _ _ h => h) (by rfl) hHeld ?_
          try simp only [Act.put, List.setIfInBounds_toArray, List.set_cons_zero, List.set_cons_succ]
          refine take_un (i := 21) (some 48) (by kernel_rfl) (by kernel_rfl) (by kernel_rfl) (by kernel_rfl) (fun _ _ _ h => h) (by rfl) hHeld ?_
          try simp only [Act.put, List.setIfInBounds_toArray, List.set_cons_zero, List.set_cons_succ]
          refine take_un (i := 22) (some 49) (by kernel_rfl) (by kernel_rfl) (by kernel_rfl) (by kernel_rfl) (fun _ _ _ h => h) (by rfl) hHeld ?_
          try simp only [Act.put, List.setIfInBounds_toArray, List.set_cons_zero, List.set_cons_succ]
          refine take_un (i := 23) (some 50) (by kernel_rfl) (by kernel_rfl) (by kernel_rfl) (by kernel_rfl) (fun _ _ _ h => h) (by rfl) hHeld ?_
          try simp only [Act.put, List.setIfInBounds_toArray, List.set_cons_zero, List.set_cons_succ]
          refine take_un (i := 24) (some 51) (by kernel_rfl) (by kernel_rfl) (by kernel_rfl) (by kernel_rfl) (fun _ _ _ h => h) (by rfl) hHeld ?_
          try simp only [Act.put, List.setIfInBounds_toArray, List.set_cons_zero, List.set_cons_succ]
          refine take_in (i := 25) _ (some 52) (by kernel_rfl) (by kernel_rfl) (by kernel_rfl) (by kernel_rfl) (fun _ _ _ h => h) (by rfl) (fun o ho w hSw => by cases ho; (try dsimp only at hSw); (try go_split_ands); go_simp; (try with_reducible rfl)) hHeld ?_
          try simp only [Act.put, List.setIfInBounds_toArray, List.set_cons_zero, List.set_cons_succ]
          refine wpAnyH_done (by kernel_rfl) ?_ _
          refine NoPanic.normal ?_
          have HW : Hid (txt (p.drop k) = wordR 3 (flat ((p.drop k).take (j - k))) ++ spt (p.drop (j - 1 + 1))) := by
            show _ = _
            rw [show j - 1 + 1 = j by omega]
            exact txt_runS HF.out (by omega) hjk HRUN.out
          have HLR := Lib.hid (range_run HRG.out k (j - k))
          have HLN : Hid ((flat ((p.drop k).take (j - k))).length ≤ 1000000) := Nat.le_trans (flat_run_le p k (j - k)) HFM.out
          have HLE : Hid (flat ((p.drop k).take (j - k)) ≠ []) := by
            show _ ≠ _
            intro h
            rw [drop_next HF.out, show j - k = (j - k - 1) + 1 by omega, List.take_succ_cons] at h
            unfold flat at h
            rw [List.flatMap_cons, List.append_eq_nil_iff] at h
            exact hv.2.1 h.1
          have HLI := Lib.hid ho.out.ints
          obtain ⟨L, hL⟩ : ∃ L, flat ((p.drop k).take (j - k)) = L := ⟨_, rfl⟩
          rw [hL] at HW HLR HLN HLE HLI ⊢
          have HJ1 : Hid (j = j - 1 + 1) := by show _ = _; omega
          clear hL ho HRUN
          by_cases hk0 : k = 0
          · have d0 : ¬ 0 < k := by omega
            have HK0 := Lib.hid hk0
            clear hk0
            go_wp2_with fail
            refine (word_any Al _ cl _ L (⟨#[32]⟩ : ByteArray) 32 (⟨#[40]⟩ : ByteArray) (⟨#[41]⟩ : ByteArray) wr.drew (HLI.out.below (Below.refl _ _).drew) (Nat.le_refl _) rfl HLR.out (Nat.le_trans HLN.out (by omega)) (by decide) (by decide)).mono ?_
            rintro e w2 ⟨rfl, hb2⟩
            have hbd : Below wr.heap.size wr wr.drew := (Below.refl _ _).drew
            have HBT : Hid (Below w.heap.size w w2) := below3 hbq.out (hbd.trans hb2)
            obtain ⟨pt, hpt⟩ : ∃ x, strB ((⟨#[40]⟩ : ByteArray).data.toList ++ (sepd 32 L ++ (⟨#[41]⟩ : ByteArray).data.toList)) = x := ⟨_, rfl⟩
            have hpl : pt.data.toList = wordR 3 L := by rw [← hpt, strB_list]; simp [wordR]
            have hpz : pt.size ≤ 11000002 := by
              rw [size_list, hpl]
              have := word_short (k := 3) HLR.out
              have := HLN.out
              omega
            rw [hpt]
            have hsz : b.size + pt.size ≤ 9223372036854775807 := by omega
            have hsz2 : (b.size : Int) + (pt.size : Int) ≤ 9223372036854775807 := by omega
            have HN : Hid (TAt p (j - 1 + 1) (b ++ pt)) := by
              have hk0 := HK0.out
              subst hk0
              exact hb.out.zero (word_ne HLE.out) HW.out (by rw [add_list, hpl])
            clear hb hpt hpl hbd hb2
            go_wp2
            go_roundw
            case rel => exact ⟨j - 1 + 1, b ++ pt, by omega, by rw [← HJ1.out], rfl, HN, HBT⟩
            case measure => simp [intOf] <;> omega
          · have d0 : 0 < k := by omega
            have HK0 := Lib.hid hk0
            clear hk0
            have d1 : (0 : Int) < (k : Int) := by omega
            have hsz : b.size + 1 ≤ 9223372036854775807 := by omega
            have hsz1 : (b.size : Int) + 1 ≤ 9223372036854775807 := by omega
            go_wp2_with fail
            refine (word_any Al _ cl _ L (⟨#[32]⟩ : ByteArray) 32 (⟨#[40]⟩ : ByteArray) (⟨#[41]⟩ : ByteArray) wr.drew (HLI.out.below (Below.refl _ _).drew) (Nat.le_refl _) rfl HLR.out (Nat.le_trans HLN.out (by omega)) (by decide) (by decide)).mono ?_
            rintro e w2 ⟨rfl, hb2⟩
            have hbd : Below wr.heap.size wr wr.drew := (Below.refl _ _).drew
            have HBT : Hid (Below w.heap.size w w2) := below3 hbq.out (hbd.trans hb2)
            obtain ⟨pt, hpt⟩ : ∃ x, strB ((⟨#[40]⟩ : ByteArray).data.toList ++ (sepd 32 L ++ (⟨#[41]⟩ : ByteArray).data.toList)) = x := ⟨_, rfl⟩
            have hpl : pt.data.toList = wordR 3 L := by rw [← hpt, strB_list]; simp [wordR]
            have hpz : pt.size ≤ 11000002 := by
              rw [size_list, hpl]
              have := word_short (k := 3) HLR.out
              have := HLN.out
              omega
            rw [hpt]
            have hsz2 : b.size + 1 + pt.size ≤ 9223372036854775807 := by omega
            have hsz3 : (b.size : Int) + 1 + (pt.size : Int) ≤ 9223372036854775807 := by omega
            have HN : Hid (TAt p (j - 1 + 1) ((b ++ (⟨#[32]⟩ : ByteArray)) ++ pt)) := hb.out.next HK0.out (by rw [HL.out]; exact hlt) HW.out (by rw [add_list, add_list, hpl])
            clear hb hpt hpl hbd hb2
            go_wp2
            go_roundw
            case rel => exact ⟨j - 1 + 1, (b ++ (⟨#[32]⟩ : ByteArray)) ++ pt, by omega, by rw [← HJ1.out], rfl, HN, HBT⟩
            case measure => simp [intOf] <;> omega
        have hji : (j : Int) < (n : Int) := by omega
        obtain ⟨b2', o2', f2, hbe2, hbB2, hf2, q0, q1, hi2⟩ := (HX.out.below hbq.out).get hj1
        simp only [Option.some.injEq, Addr.mk.injEq, and_true] at hbe2
        obtain ⟨rfl, rfl⟩ := hbe2
        obtain ⟨y2, fA2, fn2, fc2, xs2⟩ := f2
        dsimp only at q0 q1 hi2
        have hg2 : (p.drop (k + 1))[j - k - 1]? = some (y2, xs2) := by rw [List.getElem?_drop, show k + 1 + (j - k - 1) = j by omega]; exact hf2.out
        have HS : Hid (∀ W, Below wr.heap.size wr W → W.cell? ⟨b2, o2 + j * 2, none⟩ = some (.int .i64 y2) ∧ W.cell? ⟨b2, o2 + k * 2, none⟩ = some (.int .i64 3)) := fun W h => ⟨(h.cell (p := ⟨b2, o2 + j * 2, none⟩) hbq2).trans q0, (h.cell (p := ⟨b2, o2 + k * 2, none⟩) hbq2).trans p0⟩
        have HDR : Hid (Below wr.heap.size wr wr.drew) := (Below.refl _ _).drew
        by_cases h3 : y2 = 3
        case neg =>
          have dy : (y2 == 3) = false := by simp [h3]
          have HRUN : Hid (runS 3 (p.drop (k + 1)) = j - k - 1) := by
            show _ = _
            have h1 := hrun.out
            have h2 : runS 3 (p.drop (k + 1)) = runL 3 (p.drop (k + 1)) := if_neg (by decide)
            rw [h2] at h1 ⊢
            exact runL_stop h1 hg2 h3
          clear hrun hi hg2 hf2 hi2 h3 g0 g1
          go_wp2_with fail
          refine wp_region_noPanic ?_
          refine wp_region_held_drew (S := fun w' => w'.cell? ⟨b2, o2 + j * 2, none⟩ = some (.int .i64 y2) ∧ w'.cell? ⟨b2, o2 + k * 2, none⟩ = some (.int .i64 3)) (by kernel_rfl) (HS.out _ HDR.out) (fun hHeld => ?_)
          refine take_in (i := 0) _ (some 27) (by kernel_rfl) (by kernel_rfl) (by kernel_rfl) (by kernel_rfl) (fun _ _ _ h => h) (by rfl) (fun o ho w hSw => by cases ho; (try dsimp only at hSw); (try go_split_ands); go_simp; (try with_reducible rfl)) hHeld ?_
          try simp only [Act.put, List.setIfInBounds_toArray, List.set_cons_zero, List.set_cons_succ]
          refine take_in (i := 1) _ (some 28) (by kernel_rfl) (by kernel_rfl) (by kernel_rfl) (by kernel_rfl) (fun _ _ _ h => h) (by rfl) (fun o ho w hSw => by cases ho; (try dsimp only at hSw); (try go_split_ands); go_simp; (try with_reducible rfl)) hHeld ?_
          try simp only [Act.put, List.setIfInBounds_toArray, List.set_cons_zero, List.set_cons_succ]
          refine take_in (i := 2) _ (some 29) (by kernel_rfl) (by kernel_rfl) (by kernel_rfl) (by kernel_rfl) (fun _ _ _ h => h) (by rfl) (fun o ho w hSw => by cases ho; (try dsimp only at hSw); (try go_split_ands); go_simp; (try with_reducible rfl)) hHeld ?_
          try simp only [Act.put, List.setIfInBounds_toArray, List.set_cons_zero, List.set_cons_succ]
          refine take_in (i := 3) _ (some 30) (by kernel_rfl) (by kernel_rfl) (by kernel_rfl) (by kernel_rfl) (fun _ _ _ h => h) (by rfl) (fun o ho w hSw => by cases ho; (try dsimp only at hSw); (try go_split_ands); go_simp; (try with_reducible rfl)) hHeld ?_
          try simp only [Act.put, List.setIfInBounds_toArray, List.set_cons_zero, List.set_cons_succ]
          refine take_in (i := 4) _ (some 31) (by kernel_rfl) (by kernel_rfl) (by kernel_rfl) (by kernel_rfl) (fun _ _ _ h => h) (by rfl) (fun o ho w hSw => by cases ho; (try dsimp only at hSw); (try go_split_ands); go_simp; (try with_reducible rfl)) hHeld ?_
          try simp only [Act.put, List.setIfInBounds_toArray, List.set_cons_zero, List.set_cons_succ]
          refine take_in (i := 5) _ (some 32) (by kernel_rfl) (by kernel_rfl) (by kernel_rfl) (by kernel_rfl) (fun _ _ _ h => h) (by rfl) (fun o ho w hSw => by cases ho; (try dsimp only at hSw); (try go_split_ands); go_simp; (try with_reducible rfl)) hHeld ?_
          try simp only [Act.put, List.setIfInBounds_toArray, List.set_cons_zero, List.set_cons_succ]
          refine take_in (i := 6) _ (some 33) (by kernel_rfl) (by kernel_rfl) (by kernel_rfl) (by kernel_rfl) (fun _ _ _ h => h) (by rfl) (fun o ho w hSw => by cases ho; (try dsimp only at hSw); (try go_split_ands); go_simp; (try with_reducible rfl)) hHeld ?_
          try simp only [Act.put, List.setIfInBounds_toArray, List.set_cons_zero, List.set_cons_succ]
          refine take_in (i := 7) _ (some 34) (by kernel_rfl) (by kernel_rfl) (by kernel_rfl) (by kernel_rfl) (fun _ _ _ h => h) (by rfl) (fun o ho w hSw => by cases ho; (try dsimp only at hSw); (try go_split_ands); go_simp; (try with_reducible rfl)) hHeld ?_
          try simp only [Act.put, List.setIfInBounds_toArray, List.set_cons_zero, List.set_cons_succ]
          refine take_in (i := 8) _ (some 35) (by kernel_rfl) (by kernel_rfl) (by kernel_rfl) (by kernel_rfl) (fun _ _ _ h => h) (by rfl) (fun o ho w hSw => by cases ho; (try dsimp only at hSw); (try go_split_ands); go_simp; (try with_reducible rfl)) hHeld ?_
          try simp only [Act.put, List.setIfInBounds_toArray, List.set_cons_zero, List.set_cons_succ]
          refine take_in (i := 9) _ (some 36) (by kernel_rfl) (by kernel_rfl) (by kernel_rfl) (by kernel_rfl) (fun _ _ _ h => h) (by rfl) (fun o ho w hSw => by cases ho; (try dsimp only at hSw); (try go_split_ands); go_simp; (try with_reducible rfl)) hHeld ?_
          try simp only [Act.put, List.setIfInBounds_toArray, List.set_cons_zero, List.set_cons_succ]
          refine take_in (i := 10) _ (some 37) (by kernel_rfl) (by kernel_rfl) (by kernel_rfl) (by kernel_rfl) (fun _ _ _ h => h) (by rfl) (fun o ho w hSw => by cases ho; (try dsimp only at hSw); (try go_split_ands); go_simp; (try with_reducible rfl)) hHeld ?_
          try simp only [Act.put, List.setIfInBounds_toArray, List.set_cons_zero, List.set_cons_succ]
          refine take_in (i := 11) _ (some 38) (by kernel_rfl) (by kernel_rfl) (by kernel_rfl) (by kernel_rfl) (fun _ _ _ h => h) (by rfl) (fun o ho w hSw => by cases ho; (try dsimp only at hSw); (try go_split_ands); go_simp; (try with_reducible rfl)) hHeld ?_
          try simp only [Act.put, List.setIfInBounds_toArray, List.set_cons_zero, List.set_cons_succ]
          refine take_in (i := 12) _ (some 39) (by kernel_rfl) (by kernel_rfl) (by kernel_rfl) (by kernel_rfl) (fun _ _ _ h => h) (by rfl) (fun o ho w hSw => by cases ho; (try dsimp only at hSw); (try go_split_ands); go_simp; (try with_reducible rfl)) hHeld ?_
          try simp only [Act.put, List.setIfInBounds_toArray, List.set_cons_zero, List.set_cons_succ]
          refine take_in (i := 13) _ (some 40) (by kernel_rfl) (by kernel_rfl) (by kernel_rfl) (by kernel_rfl) (fun _ _ _ h => h) (by rfl) (fun o ho w hSw => by cases ho; (try dsimp only at hSw); (try go_split_ands); go_simp; (try with_reducible rfl)) hHeld ?_
          try simp only [Act.put, List.setIfInBounds_toArray, List.set_cons_zero, List.set_cons_succ]
          refine take_in (i := 14) _ (some 41) (by kernel_rfl) (by kernel_rfl) (by kernel_rfl) (by kernel_rfl) (fun _ _ _ h => h) (by rfl) (fun o ho w hSw => by cases ho; (try dsimp only at hSw); (try go_split_ands); go_simp; (try with_reducible rfl)) hHeld ?_
          try simp only [Act.put, List.setIfInBounds_toArray, List.set_cons_zero, List.set_cons_succ]
          refine take_in (i := 15) _ (some 42) (by kernel_rfl) (by kernel_rfl) (by kernel_rfl) (by kernel_rfl) (fun _ _ _ h => h) (by rfl) (fun o ho w hSw => by cases ho; (try dsimp only at hSw); (try go_split_ands); go_simp; (try with_reducible rfl)) hHeld ?_
          try simp only [Act.put, List.setIfInBounds_toArray, List.set_cons_zero, List.set_cons_succ]
          refine take_in (i := 16) _ (some 43) (by kernel_rfl) (by kernel_rfl) (by kernel_rfl) (by kernel_rfl) (fun _ _ _ h => h) (by rfl) (fun o ho w hSw => by cases ho; (try dsimp only at hSw); (try go_split_ands); go_simp; (try with_reducible rfl)) hHeld ?_
          try simp only [Act.put, List.setIfInBounds_toArray, List.set_cons_zero, List.set_cons_succ]
          refine take_in (i := 17) _ (some 44) (by kernel_rfl) (by kernel_rfl) (by kernel_rfl) (by kernel_rfl) (fun _ _ _ h => h) (by rfl) (fun o ho w hSw => by cases ho; (try dsimp only at hSw); (try go_split_ands); go_simp; (try with_reducible rfl)) hHeld ?_
          try simp only [Act.put, List.setIfInBounds_toArray, List.set_cons_zero, List.set_cons_succ]
          refine take_un (i := 18) (some 45) (by kernel_rfl) (by kernel_rfl) (by kernel_rfl) (by kernel_rfl) (fun _ _ _ h => h) (by rfl) hHeld ?_
          try simp only [Act.put, List.setIfInBounds_toArray, List.set_cons_zero, List.set_cons_succ]
          refine take_un (i := 19) (some 46) (by kernel_rfl) (by kernel_rfl) (by kernel_rfl) (by kernel_rfl) (fun _ _ _ h => h) (by rfl) hHeld ?_
          try simp only [Act.put, List.setIfInBounds_toArray, List.set_cons_zero, List.set_cons_succ]
          refine take_un (i := 20) (some 47) (by kernel_rfl) (by kernel_rfl) (by kernel_rfl) (by kernel_rfl) (fun _ _ _ h => h) (by rfl) hHeld ?_
          try simp only [Act.put, List.setIfInBounds_toArray, List.set_cons_zero, List.set_cons_succ]
          refine take_un (i := 21) (some 48) (by kernel_rfl) (by kernel_rfl) (by kernel_rfl) (by kernel_rfl) (fun _ _ _ h => h) (by rfl) hHeld ?_
          try simp only [Act.put, List.setIfInBounds_toArray, List.set_cons_zero, List.set_cons_succ]
          refine take_un (i := 22) (some 49) (by kernel_rfl) (by kernel_rfl) (by kernel_rfl) (by kernel_rfl) (fun _ _ _ h => h) (by rfl) hHeld ?_
          try simp only [Act.put, List.setIfInBounds_toArray, List.set_cons_zero, List.set_cons_succ]
          refine take_un (i := 23) (some 50) (by kernel_rfl) (by kernel_rfl) (by kernel_rfl) (by kernel_rfl) (fun _ _ _ h => h) (by rfl) hHeld ?_
          try simp only [Act.put, List.setIfInBounds_toArray, List.set_cons_zero, List.set_cons_succ]
          refine take_un (i := 24) (some 51) (by kernel_rfl) (by kernel_rfl) (by kernel_rfl) (by kernel_rfl) (fun _ _ _ h => h) (by rfl) hHeld ?_
          try simp only [Act.put, List.setIfInBounds_toArray, List.set_cons_zero, List.set_cons_succ]
          refine take_in (i := 25) _ (some 52) (by kernel_rfl) (by kernel_rfl) (by kernel_rfl) (by kernel_rfl) (fun _ _ _ h => h) (by rfl) (fun o ho w hSw => by cases ho; (try dsimp only at hSw); (try go_split_ands); go_simp; (try with_reducible rfl)) hHeld ?_
          try simp only [Act.put, List.setIfInBounds_toArray, List.set_cons_zero, List.set_cons_succ]
          refine wpAnyH_done (by kernel_rfl) ?_ _
          refine NoPanic.normal ?_
          have HW : Hid (txt (p.drop k) = wordR 3 (flat ((p.drop k).take (j - k))) ++ spt (p.drop (j - 1 + 1))) := by
            show _ = _
            rw [show j - 1 + 1 = j by omega]
            exact txt_runS HF.out (by omega) hjk HRUN.out
          have HLR := Lib.hid (range_run HRG.out k (j - k))
          have HLN : Hid ((flat ((p.drop k).take (j - k))).length ≤ 1000000) := Nat.le_trans (flat_run_le p k (j - k)) HFM.out
          have HLE : Hid (flat ((p.drop k).take (j - k)) ≠ []) := by
            show _ ≠ _
            intro h
            rw [drop_next HF.out, show j - k = (j - k - 1) + 1 by omega, List.take_succ_cons] at h
            unfold flat at h
            rw [List.flatMap_cons, List.append_eq_nil_iff] at h
            exact hv.2.1 h.1
          have HLI := Lib.hid ho.out.ints
          obtain ⟨L, hL⟩ : ∃ L, flat ((p.drop k).take (j - k)) = L := ⟨_, rfl⟩
          rw [hL] at HW HLR HLN HLE HLI ⊢
          have HJ1 : Hid (j = j - 1 + 1) := by show _ = _; omega
          clear hL ho HRUN
          by_cases hk0 : k = 0
          · have d0 : ¬ 0 < k := by omega
            have HK0 := Lib.hid hk0
            clear hk0
            go_wp2_with fail
            refine (word_any Al _ cl _ L (⟨#[32]⟩ : ByteArray) 32 (⟨#[40]⟩ : ByteArray) (⟨#[41]⟩ : ByteArray) wr.drew (HLI.out.below (Below.refl _ _).drew) (Nat.le_refl _) rfl HLR.out (Nat.le_trans HLN.out (by omega)) (by decide) (by decide)).mono ?_
            rintro e w2 ⟨rfl, hb2⟩
            have hbd : Below wr.heap.size wr wr.drew := (Below.refl _ _).drew
            have HBT : Hid (Below w.heap.size w w2) := below3 hbq.out (hbd.trans hb2)
            obtain ⟨pt, hpt⟩ : ∃ x, strB ((⟨#[40]⟩ : ByteArray).data.toList ++ (sepd 32 L ++ (⟨#[41]⟩ : ByteArray).data.toList)) = x := ⟨_, rfl⟩
            have hpl : pt.data.toList = wordR 3 L := by rw [← hpt, strB_list]; simp [wordR]
            have hpz : pt.size ≤ 11000002 := by
              rw [size_list, hpl]
              have := word_short (k := 3) HLR.out
              have := HLN.out
              omega
            rw [hpt]
            have hsz : b.size + pt.size ≤ 9223372036854775807 := by omega
            have hsz2 : (b.size : Int) + (pt.size : Int) ≤ 9223372036854775807 := by omega
            have HN : Hid (TAt p (j - 1 + 1) (b ++ pt)) := by
              have hk0 := HK0.out
              subst hk0
              exact hb.out.zero (word_ne HLE.out) HW.out (by rw [add_list, hpl])
            clear hb hpt hpl hbd hb2
            go_wp2
            go_roundw
            case rel => exact ⟨j - 1 + 1, b ++ pt, by omega, by rw [← HJ1.out], rfl, HN, HBT⟩
            case measure => simp [intOf] <;> omega
          · have d0 : 0 < k := by omega
            have HK0 := Lib.hid hk0
            clear hk0
            have d1 : (0 : Int) < (k : Int) := by omega
            have hsz : b.size + 1 ≤ 9223372036854775807 := by omega
            have hsz1 : (b.size : Int) + 1 ≤ 9223372036854775807 := by omega
            go_wp2_with fail
            refine (word_any Al _ cl _ L (⟨#[32]⟩ : ByteArray) 32 (⟨#[40]⟩ : ByteArray) (⟨#[41]⟩ : ByteArray) wr.drew (HLI.out.below (Below.refl _ _).drew) (Nat.le_refl _) rfl HLR.out (Nat.le_trans HLN.out (by omega)) (by decide) (by decide)).mono ?_
            rintro e w2 ⟨rfl, hb2⟩
            have hbd : Below wr.heap.size wr wr.drew := (Below.refl _ _).drew
            have HBT : Hid (Below w.heap.size w w2) := below3 hbq.out (hbd.trans hb2)
            obtain ⟨pt, hpt⟩ : ∃ x, strB ((⟨#[40]⟩ : ByteArray).data.toList ++ (sepd 32 L ++ (⟨#[41]⟩ : ByteArray).data.toList)) = x := ⟨_, rfl⟩
            have hpl : pt.data.toList = wordR 3 L := by rw [← hpt, strB_list]; simp [wordR]
            have hpz : pt.size ≤ 11000002 := by
              rw [size_list, hpl]
              have := word_short (k := 3) HLR.out
              have := HLN.out
              omega
            rw [hpt]
            have hsz2 : b.size + 1 + pt.size ≤ 9223372036854775807 := by omega
            have hsz3 : (b.size : Int) + 1 + (pt.size : Int) ≤ 9223372036854775807 := by omega
            have HN : Hid (TAt p (j - 1 + 1) ((b ++ (⟨#[32]⟩ : ByteArray)) ++ pt)) := hb.out.next HK0.out (by rw [HL.out]; exact hlt) HW.out (by rw [add_list, add_list, hpl])
            clear hb hpt hpl hbd hb2
            go_wp2
            go_roundw
            case rel => exact ⟨j - 1 + 1, (b ++ (⟨#[32]⟩ : ByteArray)) ++ pt, by omega, by rw [← HJ1.out], rfl, HN, HBT⟩
            case measure => simp [intOf] <;> omega
        subst h3
        have HRUN' : Hid (j + 1 - k - 1 ≤ runS 3 (p.drop (k + 1))) := by
          show _ ≤ _
          have h1 := hrun.out
          have h2 : runS 3 (p.drop (k + 1)) = runL 3 (p.drop (k + 1)) := if_neg (by decide)
          rw [h2] at h1 ⊢
          have := runL_go h1 hg2 rfl
          omega
        have hmo := flat_moreS hjk hf2.out
        have hfl2 : xs2.length = fn2 := hi2.out.len
        have hle2 : (flat ((p.drop k).take (j - k))).length ≤ 1000000 := Nat.le_trans (flat_run_le p k (j - k)) HFM.out
        have hv2 := (HVA.out _ (List.mem_of_getElem? hf2.out)).2.2.1
        have hbd : Below wr.heap.size wr wr.drew := HDR.out
        obtain ⟨A5, c5, w5, hr5, ho5, hb5⟩ := push_ints (w := wr.drew) (row_below ho.out hbd) (hi2.out.below (hbd.mono hwq)) hwq (by have : xs2.length ≤ 255 := hv2; omega)
        have HR5 := Lib.hid hr5
        have HO5 : Hid (Own w5 w.heap.size 3 .i64 (.slice A5 ((flat ((p.drop k).take (j - k))).length + fn2) c5) (flat ((p.drop k).take (j + 1 - k))).length (flat ((p.drop k).take (j + 1 - k)))) := by
          show Own _ _ _ _ _ _ _
          rw [hmo, List.length_append]
          show Own _ _ _ _ _ ((flat ((p.drop k).take (j - k))).length + xs2.length) (flat ((p.drop k).take (j - k)) ++ xs2)
          rw [hfl2]
          exact ho5
        have HB5 : Hid (Below w.heap.size w w5) := (below3 hbq.out hbd).trans hb5
        clear hrun hi hg2 hf2 hi2 hmo hfl2 hle2 hv2 hr5 ho5 hb5 ho hbd g0 g1
        go_wp2_with fail
        refine wp_region_noPanic ?_
        refine wp_region_held_drew (S := fun w' => w'.cell? ⟨b2, o2 + j * 2, none⟩ = some (.int .i64 3) ∧ w'.cell? ⟨b2, o2 + k * 2, none⟩ = some (.int .i64 3)) (by kernel_rfl) (HS.out _ HDR.out) (fun hHeld => ?_)
        refine take_in (i := 0) _ (some 27) (by kernel_rfl) (by kernel_rfl) (by kernel_rfl) (by kernel_rfl) (fun _ _ _ h => h) (by rfl) (fun o ho w hSw => by cases ho; (try dsimp only at hSw); (try go_split_ands); go_simp; (try with_reducible rfl)) hHeld ?_
        try simp only [Act.put, List.setIfInBounds_toArray, List.set_cons_zero, List.set_cons_succ]
        refine take_in (i := 1) _ (some 28) (by kernel_rfl) (by kernel_rfl) (by kernel_rfl) (by kernel_rfl) (fun _ _ _ h => h) (by rfl) (fun o ho w hSw => by cases ho; (try dsimp only at hSw); (try go_split_ands); go_simp; (try with_reducible rfl)) hHeld ?_
        try simp only [Act.put, List.setIfInBounds_toArray, List.set_cons_zero, List.set_cons_succ]
        refine take_in (i := 2) _ (some 29) (by kernel_rfl) (by kernel_rfl) (by kernel_rfl) (by kernel_rfl) (fun _ _ _ h => h) (by rfl) (fun o ho w hSw => by cases ho; (try dsimp only at hSw); (try go_split_ands); go_simp; (try with_reducible rfl)) hHeld ?_
        try simp only [Act.put, List.setIfInBounds_toArray, List.set_cons_zero, List.set_cons_succ]
        refine take_in (i := 3) _ (some 30) (by kernel_rfl) (by kernel_rfl) (by kernel_rfl) (by kernel_rfl) (fun _ _ _ h => h) (by rfl) (fun o ho w hSw => by cases ho; (try dsimp only at hSw); (try go_split_ands); go_simp; (try with_reducible rfl)) hHeld ?_
        try simp only [Act.put, List.setIfInBounds_toArray, List.set_cons_zero, List.set_cons_succ]
        refine take_in (i := 4) _ (some 31) (by kernel_rfl) (by kernel_rfl) (by kernel_rfl) (by kernel_rfl) (fun _ _ _ h => h) (by rfl) (fun o ho w hSw => by cases ho; (try dsimp only at hSw); (try go_split_ands); go_simp; (try with_reducible rfl)) hHeld ?_
        try simp only [Act.put, List.setIfInBounds_toArray, List.set_cons_zero, List.set_cons_succ]
        refine take_in (i := 5) _ (some 32) (by kernel_rfl) (by kernel_rfl) (by kernel_rfl) (by kernel_rfl) (fun _ _ _ h => h) (by rfl) (fun o ho w hSw => by cases ho; (try dsimp only at hSw); (try go_split_ands); go_simp; (try with_reducible rfl)) hHeld ?_
        try simp only [Act.put, List.setIfInBounds_toArray, List.set_cons_zero, List.set_cons_succ]
        refine take_in (i := 6) _ (some 33) (by kernel_rfl) (by kernel_rfl) (by kernel_rfl) (by kernel_rfl) (fun _ _ _ h => h) (by rfl) (fun o ho w hSw => by cases ho; (try dsimp only at hSw); (try go_split_ands); go_simp; (try with_reducible rfl)) hHeld ?_
        try simp only [Act.put, List.setIfInBounds_toArray, List.set_cons_zero, List.set_cons_succ]
        refine take_in (i := 7) _ (some 34) (by kernel_rfl) (by kernel_rfl) (by kernel_rfl) (by kernel_rfl) (fun _ _ _ h => h) (by rfl) (fun o ho w hSw => by cases ho; (try dsimp only at hSw); (try go_split_ands); go_simp; (try with_reducible rfl)) hHeld ?_
        try simp only [Act.put, List.setIfInBounds_toArray, List.set_cons_zero, List.set_cons_succ]
        refine take_in (i := 8) _ (some 35) (by kernel_rfl) (by kernel_rfl) (by kernel_rfl) (by kernel_rfl) (fun _ _ _ h => h) (by rfl) (fun o ho w hSw => by cases ho; (try dsimp only at hSw); (try go_split_ands); go_simp; (try with_reducible rfl)) hHeld ?_
        try simp only [Act.put, List.setIfInBounds_toArray, List.set_cons_zero, List.set_cons_succ]
        refine take_in (i := 9) _ (some 36) (by kernel_rfl) (by kernel_rfl) (by kernel_rfl) (by kernel_rfl) (fun _ _ _ h => h) (by rfl) (fun o ho w hSw => by cases ho; (try dsimp only at hSw); (try go_split_ands); go_simp; (try with_reducible rfl)) hHeld ?_
        try simp only [Act.put, List.setIfInBounds_toArray, List.set_cons_zero, List.set_cons_succ]
        refine take_in (i := 10) _ (some 37) (by kernel_rfl) (by kernel_rfl) (by kernel_rfl) (by kernel_rfl) (fun _ _ _ h => h) (by rfl) (fun o ho w hSw => by cases ho; (try dsimp only at hSw); (try go_split_ands); go_simp; (try with_reducible rfl)) hHeld ?_
        try simp only [Act.put, List.setIfInBounds_toArray, List.set_cons_zero, List.set_cons_succ]
        refine take_in (i := 11) _ (some 38) (by kernel_rfl) (by kernel_rfl) (by kernel_rfl) (by kernel_rfl) (fun _ _ _ h => h) (by rfl) (fun o ho w hSw => by cases ho; (try dsimp only at hSw); (try go_split_ands); go_simp; (try with_reducible rfl)) hHeld ?_
        try simp only [Act.put, List.setIfInBounds_toArray, List.set_cons_zero, List.set_cons_succ]
        refine take_in (i := 12) _ (some 39) (by kernel_rfl) (by kernel_rfl) (by kernel_rfl) (by kernel_rfl) (fun _ _ _ h => h) (by rfl) (fun o ho w hSw => by cases ho; (try dsimp only at hSw); (try go_split_ands); go_simp; (try with_reducible rfl)) hHeld ?_
        try simp only [Act.put, List.setIfInBounds_toArray, List.set_cons_zero, List.set_cons_succ]
        refine take_in (i := 13) _ (some 40) (by kernel_rfl) (by kernel_rfl) (by kernel_rfl) (by kernel_rfl) (fun _ _ _ h => h) (by rfl) (fun o ho w hSw => by cases ho; (try dsimp only at hSw); (try go_split_ands); go_simp; (try with_reducible rfl)) hHeld ?_
        try simp only [Act.put, List.setIfInBounds_toArray, List.set_cons_zero, List.set_cons_succ]
        refine take_in (i := 14) _ (some 41) (by kernel_rfl) (by kernel_rfl) (by kernel_rfl) (by kernel_rfl) (fun _ _ _ h => h) (by rfl) (fun o ho w hSw => by cases ho; (try dsimp only at hSw); (try go_split_ands); go_simp; (try with_reducible rfl)) hHeld ?_
        try simp only [Act.put, List.setIfInBounds_toArray, List.set_cons_zero, List.set_cons_succ]
        refine take_in (i := 15) _ (some 42) (by kernel_rfl) (by kernel_rfl) (by kernel_rfl) (by kernel_rfl) (fun _ _ _ h => h) (by rfl) (fun o ho w hSw => by cases ho; (try dsimp only at hSw); (try go_split_ands); go_simp; (try with_reducible rfl)) hHeld ?_
        try simp only [Act.put, List.setIfInBounds_toArray, List.set_cons_zero, List.set_cons_succ]
        refine take_in (i := 16) _ (some 43) (by kernel_rfl) (by kernel_rfl) (by kernel_rfl) (by kernel_rfl) (fun _ _ _ h => h) (by rfl) (fun o ho w hSw => by cases ho; (try dsimp only at hSw); (try go_split_ands); go_simp; (try with_reducible rfl)) hHeld ?_
        try simp only [Act.put, List.setIfInBounds_toArray, List.set_cons_zero, List.set_cons_succ]
        refine take_in (i := 17) _ (some 44) (by kernel_rfl) (by kernel_rfl) (by kernel_rfl) (by kernel_rfl) (fun _ _ _ h => h) (by rfl) (fun o ho w hSw => by cases ho; (try dsimp only at hSw); (try go_split_ands); go_simp; (try with_reducible rfl)) hHeld ?_
        try simp only [Act.put, List.setIfInBounds_toArray, List.set_cons_zero, List.set_cons_succ]
        refine take_in (i := 18) _ (some 45) (by kernel_rfl) (by kernel_rfl) (by kernel_rfl) (by kernel_rfl) (fun _ _ _ h => h) (by rfl) (fun o ho w hSw => by cases ho; (try dsimp only at hSw); (try go_split_ands); go_simp; (try with_reducible rfl)) hHeld ?_
        try simp only [Act.put, List.setIfInBounds_toArray, List.set_cons_zero, List.set_cons_succ]
        refine take_in (i := 19) _ (some 46) (by kernel_rfl) (by kernel_rfl) (by kernel_rfl) (by kernel_rfl) (fun _ _ _ h => h) (by rfl) (fun o ho w hSw => by cases ho; (try dsimp only at hSw); (try go_split_ands); go_simp; (try with_reducible rfl)) hHeld ?_
        try simp only [Act.put, List.setIfInBounds_toArray, List.set_cons_zero, List.set_cons_succ]
        refine take_in (i := 20) _ (some 47) (by kernel_rfl) (by kernel_rfl) (by kernel_rfl) (by kernel_rfl) (fun _ _ _ h => h) (by rfl) (fun o ho w hSw => by cases ho; (try dsimp only at hSw); (try go_split_ands); go_simp; (try with_reducible rfl)) hHeld ?_
        try simp only [Act.put, List.setIfInBounds_toArray, List.set_cons_zero, List.set_cons_succ]
        refine take_in (i := 21) _ (some 48) (by kernel_rfl) (by kernel_rfl) (by kernel_rfl) (by kernel_rfl) (fun _ _ _ h => h) (by rfl) (fun o ho w hSw => by cases ho; (try dsimp only at hSw); (try go_split_ands); go_simp; (try with_reducible rfl)) hHeld ?_
        try simp only [Act.put, List.setIfInBounds_toArray, List.set_cons_zero, List.set_cons_succ]
        refine take_in (i := 22) _ (some 49) (by kernel_rfl) (by kernel_rfl) (by kernel_rfl) (by kernel_rfl) (fun _ _ _ h => h) (by rfl) (fun o ho w hSw => by cases ho; (try dsimp only at hSw); (try go_split_ands); go_simp; (try with_reducible rfl)) hHeld ?_
        try simp only [Act.put, List.setIfInBounds_toArray, List.set_cons_zero, List.set_cons_succ]
        refine wpAnyH_ready (rs := [23]) (by kernel_rfl) (by simp) ?_
        refine AllReadyH.cons (o := _) rfl (fun K hK => ?_) AllReadyH.nil
        go_simp
        go_at_call 51
        with_reducible refine (isSet_any _ _).mono ?_
        rintro e w9 ⟨rfl, rfl⟩
        rw [show setB 3 = false from by decide]
        refine hK.out _ _ hHeld (fun hHeld => ?_)
        clear hK K
        try simp only [Act.put, List.setIfInBounds_toArray, List.set_cons_zero, List.set_cons_succ]
        refine take_in (i := 24) _ (some 51) (by kernel_rfl) (by kernel_rfl) (by kernel_rfl) (by kernel_rfl) (fun _ _ _ h => h) (by rfl) (fun o ho w hSw => by cases ho; (try dsimp only at hSw); (try go_split_ands); go_simp; (try with_reducible rfl)) hHeld ?_
        try simp only [Act.put, List.setIfInBounds_toArray, List.set_cons_zero, List.set_cons_succ]
        refine take_in (i := 25) _ (some 52) (by kernel_rfl) (by kernel_rfl) (by kernel_rfl) (by kernel_rfl) (fun _ _ _ h => h) (by rfl) (fun o ho w hSw => by cases ho; (try dsimp only at hSw); (try go_split_ands); go_simp; (try with_reducible rfl)) hHeld ?_
        try simp only [Act.put, List.setIfInBounds_toArray, List.set_cons_zero, List.set_cons_succ]
        refine wpAnyH_done (by kernel_rfl) ?_ _
        refine NoPanic.normal ?_
        go_wp2_with (at_builtin; refine wpList_append_run rfl _ _ _ rfl rfl rfl HR5.out ?_)
        go_roundw
        case rel => exact ⟨j + 1, by omega, by omega, by go_num, HRUN', HO5, HB5⟩
        case measure => simp [intOf]; omega
end Go.Proofs.YteohdanlcaoaiaaDoor
