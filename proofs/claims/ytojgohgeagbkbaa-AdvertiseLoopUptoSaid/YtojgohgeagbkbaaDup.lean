/- duplicate, Clone: paths in new memory. -/
import Derived.Test.YtojgohgeagbkbaaSeqs
import Derived.Test.YtojgohgeagbkbaaTake
namespace Go.Proofs.Ytojgohgeagbkbaa
open Go.RowKit

/-- the loop -/
def DInv (w : World) (p : Path) (n : Nat) (ov iv : Value) (W : World) : Prop := ∃ k : Nat, k ≤ n ∧ iv = .int .i64 k ∧ Hid (SOut W w.heap.size w.heap.size ov k (p.take k)) ∧ Hid (Below w.heap.size w W)
set_option linter.unusedSimpArgs false in
set_option maxHeartbeats 4000000 in
theorem duplicate_any (A : Option Addr) (n c B : Nat) (p : Path) (w : World) (hx : Segs w B A n c p) (hB : B ≤ w.heap.size) (hs : Sm p) :
    Calls Try.prog 91 #[.slice A n c] w (GivesSegs p w) := by
  have HX := Lib.hid hx
  have HL := Lib.hid hx.len
  have HSM := Lib.hid hs
  have hn : n ≤ 1000000 := by have h1 := hx.len; unfold Sm at hs; omega
  clear hx hs
  go_enter Try.func91, Try.ntmps91
  go_wp2
  go_loopw [3, 8] (fun ov iv wr => DInv w p n ov iv wr) (fun _ iv _ => n - (intOf iv).toNat)
  case atStart => exact ⟨0, Nat.zero_le _, rfl, SOut.nil _ _ _, Below.refl _ _⟩
  case round =>
    obtain ⟨k, hk, rfl, ho, hbw⟩ := hrel
    obtain ⟨Ao, co, rfl⟩ := ho.out.form
    by_cases hlt : k < n
    case neg =>
      obtain rfl : k = n := by omega
      have e : p.take k = p := List.take_of_length_le (Nat.le_of_eq HL.out)
      rw [e] at ho
      clear e
      go_wp2
      go_ret
      exact ⟨Ao, k, co, rfl, ho.out, hbw.out⟩
    obtain ⟨b, o, f, rfl, hbB, hf, g0, g1, hi⟩ := (HX.out.below (hbw.out.mono hB)).get hlt
    obtain ⟨y, fA, fn, fc, xs⟩ := f
    dsimp only at g0 g1 hi
    have hwr := hbw.out.size
    have hfs : fn ≤ 1000000 := by have := seg_le hf.out; have h1 := HSM.out; unfold Sm at h1; have h2 : (SV.key ⟨y, fA, fn, fc, xs⟩).2.length = fn := hi.out.len; omega
    have HPK : Hid (p.take (k + 1) = p.take k ++ [(y, xs)]) := by
      show _ = _
      rw [List.take_add_one, hf.out]
      rfl
    have HB1 : Hid (SBox wr y (.slice fA fn fc) (wr.alloc (.cells #[.int .i64 y, .slice fA fn fc] 75))) := SBox.new _ _ _
    obtain ⟨W, hW⟩ : ∃ W, wr.alloc (.cells #[.int .i64 y, .slice fA fn fc] 75) = W := ⟨_, rfl⟩
    have HWE := Lib.hid hW
    go_upto_region 5 with fail
    rw [hW] at HB1
    clear hW
    have HS : Hid (∀ V, Below W.heap.size W V → V.cell? ⟨wr.heap.size, 0, none⟩ = some (.int .i64 y) ∧ V.cell? ⟨wr.heap.size, 1, none⟩ = some (.slice fA fn fc)) := fun V h => ⟨(HB1.out.step h).1, (HB1.out.step h).2.1⟩
    have hWz : wr.heap.size ≤ W.heap.size := HB1.out.2.2.1.out.size
    have hdr : Below W.heap.size W W.drew := (Below.refl _ _).drew
    have hc3 : Below W.heap.size W (W.drew.alloc (.cells #[] 3)) := hdr.alloc (Nat.le_refl _) _
    obtain ⟨A4, c4, w4, hr4, ho4, hb4⟩ := copy_ints (W := W.drew) ((hi.out.below (HB1.out.2.2.1.out.mono (Nat.le_trans hB hwr))).below (hdr.mono (Nat.le_trans hB (Nat.le_trans hwr hWz)))) (Nat.le_trans hB (Nat.le_trans hwr hWz)) rfl (by omega)
    have hb4' : Below W.heap.size W w4 := hdr.trans hb4
    have hs4 := ho.out.below (HB1.out.2.2.1.out.trans (hb4'.mono hWz))
    have hf4 := free_new (lo' := w.heap.size) (ho.out.below (HB1.out.2.2.1.out.trans (hdr.mono hWz))) ho4 (Nat.le_trans hwr hWz)
    obtain ⟨A5, c5, w5, hr5, ho5, hb5, hfar⟩ := hs4.pushFar y ho4.ints hf4 rfl (Nat.le_trans (Nat.le_trans hwr hWz) hb4.size) (by omega)
    have HC0 := Lib.hid hdr
    have HC3 := Lib.hid hc3
    have HC4 := Lib.hid hb4'
    have HC5 : Hid (Below W.heap.size W (w4.alloc (.cells #[.int .i64 y, .slice A4 fn c4] 75))) := hb4'.alloc hb4'.size _
    have HR4 := Lib.hid hr4
    have HR5 := Lib.hid hr5
    have HO5 := Lib.hid ho5
    have HS5 : Hid (w5.cell? ⟨wr.heap.size, 0, none⟩ = some (.int .i64 y) ∧ w5.cell? ⟨wr.heap.size, 1, none⟩ = some (.slice fA fn fc)) := by
      have hlt4 : wr.heap.size < w4.heap.size := Nat.lt_of_lt_of_le (by rw [← HWE.out]; simp) hb4'.size
      have hne : (Value.slice Ao k co).ownBlock ≠ some wr.heap.size := fun h => by
        have := (ho.out.block _ h).2
        omega
      exact ⟨(hfar ⟨wr.heap.size, 0, none⟩ hlt4 hne).trans (HS.out _ hb4').1, (hfar ⟨wr.heap.size, 1, none⟩ hlt4 hne).trans (HS.out _ hb4').2⟩
    have HB5 : Hid (Below w.heap.size w w5) := (hbw.out.trans ((HB1.out.2.2.1.out.mono hwr).trans (hb4'.mono (Nat.le_trans hwr hWz)))).trans hb5
    clear hdr hc3 hr4 ho4 hb4 hb4' hs4 hf4 hr5 ho5 hb5 hfar g0 g1 hi hf
    refine wp_region_noPanic ?_
    refine wp_region_held_drew (S := fun w' => w'.cell? ⟨wr.heap.size, 0, none⟩ = some (.int .i64 y) ∧ w'.cell? ⟨wr.heap.size, 1, none⟩ = some (.slice fA fn fc)) (by kernel_rfl) (HS.out _ HC0.out) (fun hHeld => ?_)
    refine take_in (i := 0) _ (some 12) (by kernel_rfl) (by kernel_rfl) (by kernel_rfl) (by kernel_rfl) (fun _ _ _ h => h) (by rfl) (fun o ho w hSw => by cases ho; (try dsimp only at hSw); (try go_split_ands); go_simp; (try with_reducible rfl)) hHeld ?_
    try simp only [Act.put, List.setIfInBounds_toArray, List.set_cons_zero, List.set_cons_succ]
    refine take_in (i := 1) _ (some 13) (by kernel_rfl) (by kernel_rfl) (by kernel_rfl) (by kernel_rfl) (fun _ _ _ h => h) (by rfl) (fun o ho w hSw => by cases ho; (try dsimp only at hSw); (try go_split_ands); go_simp; (try with_reducible rfl)) hHeld ?_
    try simp only [Act.put, List.setIfInBounds_toArray, List.set_cons_zero, List.set_cons_succ]
    refine take_in (i := 2) _ (some 14) (by kernel_rfl) (by kernel_rfl) (by kernel_rfl) (by kernel_rfl) (fun _ _ _ h => h) (by rfl) (fun o ho w hSw => by cases ho; (try dsimp only at hSw); (try go_split_ands); go_simp; (try with_reducible rfl)) hHeld ?_
    try simp only [Act.put, List.setIfInBounds_toArray, List.set_cons_zero, List.set_cons_succ]
    refine take_in (i := 4) _ (some 16) (by kernel_rfl) (by kernel_rfl) (by kernel_rfl) (by kernel_rfl) (fun _ _ _ h => h) (by rfl) (fun o ho w hSw => by cases ho; (try dsimp only at hSw); (try go_split_ands); go_simp; (try with_reducible rfl)) hHeld ?_
    try simp only [Act.put, List.setIfInBounds_toArray, List.set_cons_zero, List.set_cons_succ]
    refine take_in (i := 5) _ (some 17) (by kernel_rfl) (by kernel_rfl) (by kernel_rfl) (by kernel_rfl) (fun _ _ _ h => h) (by rfl) (fun o ho w hSw => by cases ho; (try dsimp only at hSw); (try go_split_ands); go_simp; (try with_reducible rfl)) hHeld ?_
    try simp only [Act.put, List.setIfInBounds_toArray, List.set_cons_zero, List.set_cons_succ]
    refine wpAnyH_ready (rs := [3]) (by kernel_rfl) (by simp) ?_
    refine AllReadyH.cons (o := _) rfl (fun K hK => ?_) AllReadyH.nil
    go_simp
    refine hK.out _ _ (HS.out _ HC3.out) (fun hHeld => ?_)
    clear hK K
    try simp only [Act.put, List.setIfInBounds_toArray, List.set_cons_zero, List.set_cons_succ]
    refine wpAnyH_ready (rs := [6]) (by kernel_rfl) (by simp) ?_
    refine AllReadyH.cons (o := _) rfl (fun K hK => ?_) AllReadyH.nil
    refine step_append_run (by rfl) _ _ _ (by rfl) (by rfl) (by rfl) HR4.out ?_
    refine hK.out _ _ (HS.out _ HC4.out) (fun hHeld => ?_)
    clear hK K
    try simp only [Act.put, List.setIfInBounds_toArray, List.set_cons_zero, List.set_cons_succ]
    refine take_in (i := 7) _ (some 19) (by kernel_rfl) (by kernel_rfl) (by kernel_rfl) (by kernel_rfl) (fun _ _ _ h => h) (by rfl) (fun o ho w hSw => by cases ho; (try dsimp only at hSw); (try go_split_ands); go_simp; (try with_reducible rfl)) hHeld ?_
    try simp only [Act.put, List.setIfInBounds_toArray, List.set_cons_zero, List.set_cons_succ]
    refine wpAnyH_ready (rs := [8]) (by kernel_rfl) (by simp) ?_
    refine AllReadyH.cons (o := _) rfl (fun K hK => ?_) AllReadyH.nil
    go_simp
    refine hK.out _ _ (HS.out _ HC5.out) (fun hHeld => ?_)
    clear hK K
    try simp only [Act.put, List.setIfInBounds_toArray, List.set_cons_zero, List.set_cons_succ]
    refine wpAnyH_ready (rs := [9]) (by kernel_rfl) (by simp) ?_
    refine AllReadyH.cons (o := _) rfl (fun K hK => ?_) AllReadyH.nil
    refine step_append_run (by rfl) _ _ _ (by rfl) (by rfl) (by rfl) HR5.out ?_
    refine hK.out _ _ HS5.out (fun hHeld => ?_)
    clear hK K
    try simp only [Act.put, List.setIfInBounds_toArray, List.set_cons_zero, List.set_cons_succ]
    refine take_in (i := 10) _ (some 3) (by kernel_rfl) (by kernel_rfl) (by kernel_rfl) (by kernel_rfl) (fun _ _ _ h => h) (by rfl) (fun o ho w hSw => by cases ho; (try dsimp only at hSw); (try go_split_ands); go_simp; (try with_reducible rfl)) hHeld ?_
    try simp only [Act.put, List.setIfInBounds_toArray, List.set_cons_zero, List.set_cons_succ]
    refine wpAnyH_done (by kernel_rfl) ?_ _
    refine NoPanic.normal ?_
    go_wp2_with fail
    clear HB1 HWE HS HC0 HC3 HC4 HC5 HR4 HR5 HS5 hHeld
    go_roundw
    case rel => exact ⟨k + 1, by omega, by go_num, by rw [HPK.out]; exact HO5, HB5⟩
    case measure => simp [intOf]; omega
set_option linter.unusedSimpArgs false in
set_option maxHeartbeats 4000000 in
theorem clone_any (A : Option Addr) (n c B : Nat) (p : Path) (w : World) (hx : Segs w B A n c p) (hB : B ≤ w.heap.size) (hs : Sm p) :
    Calls Try.prog 61 #[.slice A n c] w (GivesSegs p w) := by
  have HX := Lib.hid hx
  have HL := Lib.hid hx.len
  have HSM := Lib.hid hs
  have hn : n ≤ 1000000 := by have h1 := hx.len; unfold Sm at hs; omega
  clear hx hs
  go_enter Try.func61, Try.ntmps61
  go_wp2
  go_loopw [3, 8] (fun ov iv wr => DInv w p n ov iv wr) (fun _ iv _ => n - (intOf iv).toNat)
  case atStart => exact ⟨0, Nat.zero_le _, rfl, SOut.nil _ _ _, Below.refl _ _⟩
  case round =>
    obtain ⟨k, hk, rfl, ho, hbw⟩ := hrel
    obtain ⟨Ao, co, rfl⟩ := ho.out.form
    by_cases hlt : k < n
    case neg =>
      obtain rfl : k = n := by omega
      have e : p.take k = p := List.take_of_length_le (Nat.le_of_eq HL.out)
      rw [e] at ho
      clear e
      go_wp2
      go_ret
      exact ⟨Ao, k, co, rfl, ho.out, hbw.out⟩
    obtain ⟨b, o, f, rfl, hbB, hf, g0, g1, hi⟩ := (HX.out.below (hbw.out.mono hB)).get hlt
    obtain ⟨y, fA, fn, fc, xs⟩ := f
    dsimp only at g0 g1 hi
    have hwr := hbw.out.size
    have hfs : fn ≤ 1000000 := by have := seg_le hf.out; have h1 := HSM.out; unfold Sm at h1; have h2 : (SV.key ⟨y, fA, fn, fc, xs⟩).2.length = fn := hi.out.len; omega
    have HPK : Hid (p.take (k + 1) = p.take k ++ [(y, xs)]) := by
      show _ = _
      rw [List.take_add_one, hf.out]
      rfl
    have HB1 : Hid (SBox wr y (.slice fA fn fc) (wr.alloc (.cells #[.int .i64 y, .slice fA fn fc] 75))) := SBox.new _ _ _
    obtain ⟨W, hW⟩ : ∃ W, wr.alloc (.cells #[.int .i64 y, .slice fA fn fc] 75) = W := ⟨_, rfl⟩
    have HWE := Lib.hid hW
    go_upto_region 5 with fail
    rw [hW] at HB1
    clear hW
    have HS : Hid (∀ V, Below W.heap.size W V → V.cell? ⟨wr.heap.size, 0, none⟩ = some (.int .i64 y) ∧ V.cell? ⟨wr.heap.size, 1, none⟩ = some (.slice fA fn fc)) := fun V h => ⟨(HB1.out.step h).1, (HB1.out.step h).2.1⟩
    have hWz : wr.heap.size ≤ W.heap.size := HB1.out.2.2.1.out.size
    have hdr : Below W.heap.size W W.drew := (Below.refl _ _).drew
    have hc3 : Below W.heap.size W (W.drew.alloc (.cells #[] 3)) := hdr.alloc (Nat.le_refl _) _
    obtain ⟨A4, c4, w4, hr4, ho4, hb4⟩ := copy_ints (W := W.drew) ((hi.out.below (HB1.out.2.2.1.out.mono (Nat.le_trans hB hwr))).below (hdr.mono (Nat.le_trans hB (Nat.le_trans hwr hWz)))) (Nat.le_trans hB (Nat.le_trans hwr hWz)) rfl (by omega)
    have hb4' : Below W.heap.size W w4 := hdr.trans hb4
    have hs4 := ho.out.below (HB1.out.2.2.1.out.trans (hb4'.mono hWz))
    have hf4 := free_new (lo' := w.heap.size) (ho.out.below (HB1.out.2.2.1.out.trans (hdr.mono hWz))) ho4 (Nat.le_trans hwr hWz)
    obtain ⟨A5, c5, w5, hr5, ho5, hb5, hfar⟩ := hs4.pushFar y ho4.ints hf4 rfl (Nat.le_trans (Nat.le_trans hwr hWz) hb4.size) (by omega)
    have HC0 := Lib.hid hdr
    have HC3 := Lib.hid hc3
    have HC4 := Lib.hid hb4'
    have HC5 : Hid (Below W.heap.size W (w4.alloc (.cells #[.int .i64 y, .slice A4 fn c4] 75))) := hb4'.alloc hb4'.size _
    have HR4 := Lib.hid hr4
    have HR5 := Lib.hid hr5
    have HO5 := Lib.hid ho5
    have HS5 : Hid (w5.cell? ⟨wr.heap.size, 0, none⟩ = some (.int .i64 y) ∧ w5.cell? ⟨wr.heap.size, 1, none⟩ = some (.slice fA fn fc)) := by
      have hlt4 : wr.heap.size < w4.heap.size := Nat.lt_of_lt_of_le (by rw [← HWE.out]; simp) hb4'.size
      have hne : (Value.slice Ao k co).ownBlock ≠ some wr.heap.size := fun h => by
        have := (ho.out.block _ h).2
        omega
      exact ⟨(hfar ⟨wr.heap.size, 0, none⟩ hlt4 hne).trans (HS.out _ hb4').1, (hfar ⟨wr.heap.size, 1, none⟩ hlt4 hne).trans (HS.out _ hb4').2⟩
    have HB5 : Hid (Below w.heap.size w w5) := (hbw.out.trans ((HB1.out.2.2.1.out.mono hwr).trans (hb4'.mono (Nat.le_trans hwr hWz)))).trans hb5
    clear hdr hc3 hr4 ho4 hb4 hb4' hs4 hf4 hr5 ho5 hb5 hfar g0 g1 hi hf
    refine wp_region_noPanic ?_
    refine wp_region_held_drew (S := fun w' => w'.cell? ⟨wr.heap.size, 0, none⟩ = some (.int .i64 y) ∧ w'.cell? ⟨wr.heap.size, 1, none⟩ = some (.slice fA fn fc)) (by kernel_rfl) (HS.out _ HC0.out) (fun hHeld => ?_)
    refine take_in (i := 0) _ (some 12) (by kernel_rfl) (by kernel_rfl) (by kernel_rfl) (by kernel_rfl) (fun _ _ _ h => h) (by rfl) (fun o ho w hSw => by cases ho; (try dsimp only at hSw); (try go_split_ands); go_simp; (try with_reducible rfl)) hHeld ?_
    try simp only [Act.put, List.setIfInBounds_toArray, List.set_cons_zero, List.set_cons_succ]
    refine take_in (i := 1) _ (some 13) (by kernel_rfl) (by kernel_rfl) (by kernel_rfl) (by kernel_rfl) (fun _ _ _ h => h) (by rfl) (fun o ho w hSw => by cases ho; (try dsimp only at hSw); (try go_split_ands); go_simp; (try with_reducible rfl)) hHeld ?_
    try simp only [Act.put, List.setIfInBounds_toArray, List.set_cons_zero, List.set_cons_succ]
    refine take_in (i := 2) _ (some 14) (by kernel_rfl) (by kernel_rfl) (by kernel_rfl) (by kernel_rfl) (fun _ _ _ h => h) (by rfl) (fun o ho w hSw => by cases ho; (try dsimp only at hSw); (try go_split_ands); go_simp; (try with_reducible rfl)) hHeld ?_
    try simp only [Act.put, List.setIfInBounds_toArray, List.set_cons_zero, List.set_cons_succ]
    refine take_in (i := 4) _ (some 16) (by kernel_rfl) (by kernel_rfl) (by kernel_rfl) (by kernel_rfl) (fun _ _ _ h => h) (by rfl) (fun o ho w hSw => by cases ho; (try dsimp only at hSw); (try go_split_ands); go_simp; (try with_reducible rfl)) hHeld ?_
    try simp only [Act.put, List.setIfInBounds_toArray, List.set_cons_zero, List.set_cons_succ]
    refine take_in (i := 5) _ (some 17) (by kernel_rfl) (by kernel_rfl) (by kernel_rfl) (by kernel_rfl) (fun _ _ _ h => h) (by rfl) (fun o ho w hSw => by cases ho; (try dsimp only at hSw); (try go_split_ands); go_simp; (try with_reducible rfl)) hHeld ?_
    try simp only [Act.put, List.setIfInBounds_toArray, List.set_cons_zero, List.set_cons_succ]
    refine wpAnyH_ready (rs := [3]) (by kernel_rfl) (by simp) ?_
    refine AllReadyH.cons (o := _) rfl (fun K hK => ?_) AllReadyH.nil
    go_simp
    refine hK.out _ _ (HS.out _ HC3.out) (fun hHeld => ?_)
    clear hK K
    try simp only [Act.put, List.setIfInBounds_toArray, List.set_cons_zero, List.set_cons_succ]
    refine wpAnyH_ready (rs := [6]) (by kernel_rfl) (by simp) ?_
    refine AllReadyH.cons (o := _) rfl (fun K hK => ?_) AllReadyH.nil
    refine step_append_run (by rfl) _ _ _ (by rfl) (by rfl) (by rfl) HR4.out ?_
    refine hK.out _ _ (HS.out _ HC4.out) (fun hHeld => ?_)
    clear hK K
    try simp only [Act.put, List.setIfInBounds_toArray, List.set_cons_zero, List.set_cons_succ]
    refine take_in (i := 7) _ (some 19) (by kernel_rfl) (by kernel_rfl) (by kernel_rfl) (by kernel_rfl) (fun _ _ _ h => h) (by rfl) (fun o ho w hSw => by cases ho; (try dsimp only at hSw); (try go_split_ands); go_simp; (try with_reducible rfl)) hHeld ?_
    try simp only [Act.put, List.setIfInBounds_toArray, List.set_cons_zero, List.set_cons_succ]
    refine wpAnyH_ready (rs := [8]) (by kernel_rfl) (by simp) ?_
    refine AllReadyH.cons (o := _) rfl (fun K hK => ?_) AllReadyH.nil
    go_simp
    refine hK.out _ _ (HS.out _ HC5.out) (fun hHeld => ?_)
    clear hK K
    try simp only [Act.put, List.setIfInBounds_toArray, List.set_cons_zero, List.set_cons_succ]
    refine wpAnyH_ready (rs := [9]) (by kernel_rfl) (by simp) ?_
    refine AllReadyH.cons (o := _) rfl (fun K hK => ?_) AllReadyH.nil
    refine step_append_run (by rfl) _ _ _ (by rfl) (by rfl) (by rfl) HR5.out ?_
    refine hK.out _ _ HS5.out (fun hHeld => ?_)
    clear hK K
    try simp only [Act.put, List.setIfInBounds_toArray, List.set_cons_zero, List.set_cons_succ]
    refine take_in (i := 10) _ (some 3) (by kernel_rfl) (by kernel_rfl) (by kernel_rfl) (by kernel_rfl) (fun _ _ _ h => h) (by rfl) (fun o ho w hSw => by cases ho; (try dsimp only at hSw); (try go_split_ands); go_simp; (try with_reducible rfl)) hHeld ?_
    try simp only [Act.put, List.setIfInBounds_toArray, List.set_cons_zero, List.set_cons_succ]
    refine wpAnyH_done (by kernel_rfl) ?_ _
    refine NoPanic.normal ?_
    go_wp2_with fail
    clear HB1 HWE HS HC0 HC3 HC4 HC5 HR4 HR5 HS5 hHeld
    go_roundw
    case rel => exact ⟨k + 1, by omega, by go_num, by rw [HPK.out]; exact HO5, HB5⟩
    case measure => simp [intOf]; omega
end Go.Proofs.Ytojgohgeagbkbaa
