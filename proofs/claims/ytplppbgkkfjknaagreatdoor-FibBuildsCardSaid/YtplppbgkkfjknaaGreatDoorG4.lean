/- The list of entries that a lookup collects; down, Above, Lookup. prefix.Make; down; what a lookup visits. Above, Lookup. -/
import Derived.Test.YtplppbgkkfjknaaGreatDoorG3
namespace Go.Proofs.YtplppbgkkfjknaaGreatDoor
open Go.RowKit

set_option linter.unusedVariables false
set_option linter.unusedSimpArgs false
theorem entry_info : (Tryz.prog.info? 79).map (fun i => (i.zero, i.size, i.bytes)) = some (some (.agg #[.int .u32 0, .int .i64 0, .int .i64 0]), 3, 24) := by kernel_rfl
/-- append of one entry to a row of the call's own -/
theorem ent_push {w : World} {base l N : Nat} {v : Value} {us : List Value} (h : w.ownsRow base 79 3 v l us) (a : Nat) (pl x : Int) (hN : N = w.heap.size) (hbase : base ≤ w.heap.size) (hl : l ≤ 1000000000000) :
    ∃ A' c' w', (Builtin.append_ #[32, 32] 32 #[v, .slice (some ⟨N, 0, none⟩) 1 1]).run Tryz.prog (w.alloc (.cells #[.int .u32 a, .int .i64 pl, .int .i64 x] 79)) = .ok (.slice A' (l + 1) c') w' ∧ w'.ownsRow base 79 3 (.slice A' (l + 1) c') (l + 1) (us ++ [.int .u32 a, .int .i64 pl, .int .i64 x]) ∧ Below base w w' ∧
      ∀ k, k < w.heap.size → v.ownBlock ≠ some k → w'.heap[k]? = w.heap[k]? := by
  subst hN
  have hbel := belowA w (.cells #[.int .u32 a, .int .i64 pl, .int .i64 x] 79)
  have hlit : Cells (w.alloc (.cells #[.int .u32 a, .int .i64 pl, .int .i64 x] 79)) (w.alloc (.cells #[.int .u32 a, .int .i64 pl, .int .i64 x] 79)).heap.size 3 (some ⟨w.heap.size, 0, none⟩) 1 1 [.int .u32 a, .int .i64 pl, .int .i64 x] :=
    Cells.of_own (World.ownsRow_lit (base := w.heap.size) (size := 3) w #[.int .u32 a, .int .i64 pl, .int .i64 x] 1 (Nat.le_refl _) (by simp [maxLen]) rfl)
  obtain ⟨v', w', k1, k2, k3, k4⟩ := Cells.append (P := Tryz.prog) (t := 32) (ty := 32) Tryz.underlying32 entry_info rfl (by omega) (row_below h hbel) hlit (by
    intro u hu
    simp only [List.mem_cons, List.not_mem_nil, or_false] at hu
    rcases hu with rfl | rfl | rfl <;> rfl) (by simp only [maxLen]; omega) (by omega) (by have := hbel.size; omega)
  obtain ⟨A', c', rfl⟩ := own_form k2
  exact ⟨A', c', w', k1, k2, (hbel.mono hbase).grown k3 (by have := hbel.size; omega) (fun k hk => (World.ownsRow.lt h k hk).1), fun k hk hne => (k3.block k (Nat.lt_of_lt_of_le hk hbel.size) (fun e => hne e.symm)).trans (hbel.block k hk)⟩
/-- the list at block L -/
def LAt (w : World) (L m : Nat) (rows : List Value) : Prop := ∃ A c, Blk w L 160 [.slice A m c] ∧ w.ownsRow (L + 1) 79 3 (.slice A m c) m rows
theorem LAt.keep {w w' : World} {L m : Nat} {rows : List Value} (h : LAt w L m rows) (hb : Below w.heap.size w w') : LAt w' L m rows := by
  obtain ⟨A, c, h1, h2⟩ := h
  exact ⟨A, c, h1.keep hb, row_below h2 hb⟩
set_option maxRecDepth 100000 in
set_option maxHeartbeats 4000000 in
theorem add_any (L m d : Nat) (rows : List Value) (pa : Nat) (pl val : Int) (has : Bool) (w : World) (hl : LAt w L m rows) (hL : L < w.heap.size) (hm : m ≤ 1000000) (hd : d < L)
    (h2 : w.cell? ⟨d, 2, none⟩ = some (.bool has)) (h3 : w.cell? ⟨d, 3, none⟩ = some (.int .i64 val)) :
    Calls Tryz.prog 100 #[.pointer (some ⟨L, 0, none⟩), .agg #[.int .u32 pa, .int .i64 pl], .pointer (some ⟨d, 0, none⟩)] w fun e w' =>
      e = .returned (.tuple #[]) ∧ LAt w' L (if has = true then m + 1 else m) (if has = true then rows ++ [.int .u32 pa, .int .i64 pl, .int .i64 val] else rows) ∧ Below L w w' := by
  have HL := Lib.hid hl
  obtain ⟨A, c, hk, ho⟩ := hl
  obtain ⟨w1, hw1⟩ : ∃ w1, w.alloc (.cells #[.int .u32 pa, .int .i64 pl] 65) = w1 := ⟨_, rfl⟩
  have hbA : Blk w1 w.heap.size 65 [.int .u32 pa, .int .i64 pl] := by rw [← hw1]; exact Blk.new w _ _
  have hb1 : Below w.heap.size w w1 := by rw [← hw1]; exact belowA _ _
  have HB1 := Lib.hid hb1
  have HKA := Lib.hid hbA
  have d2 : w1.cell? ⟨d, 2, none⟩ = some (.bool has) := (hb1.cell (p := ⟨d, 2, none⟩) (by show d < _; omega)).trans h2
  have d3 : w1.cell? ⟨d, 3, none⟩ = some (.int .i64 val) := (hb1.cell (p := ⟨d, 3, none⟩) (by show d < _; omega)).trans h3
  have HL1 := Lib.hid (HL.out.keep hb1)
  have hlt1 : w.heap.size < w1.heap.size := hbA.lt
  have hdw : d < w1.heap.size := by omega
  have hown : ∀ b, (Value.slice A m c).ownBlock = some b → L + 1 ≤ b ∧ b < w.heap.size := fun b e => World.ownsRow.lt ho b e
  have HK := Lib.hid (hk.keep hb1)
  have HO := Lib.hid (row_below ho hb1)
  clear h2 h3 hbA hb1 hk ho
  cases has
  case false =>
    go_enter Tryz.func100, Tryz.ntmps100
    go_wp2
    go_end0
    exact ⟨rfl, by simpa using HL1.out, HB1.out.mono (by omega)⟩
  obtain ⟨wD, hwD⟩ : ∃ wD, w1.drew = wD := ⟨_, rfl⟩
  have hbD : Below w1.heap.size w1 wD := by rw [← hwD]; exact (Below.refl _ _).drew
  have hszD := hbD.size
  obtain ⟨A', c', w3, hr3, ho3, hb3, hfar⟩ := ent_push (w := wD) (row_below HO.out hbD) pa pl val rfl (show L + 1 ≤ wD.heap.size by omega) (by omega)
  have HR := Lib.hid hr3
  obtain ⟨wA, hwA⟩ : ∃ wA, wD.alloc (.cells #[.int .u32 pa, .int .i64 pl, .int .i64 val] 79) = wA := ⟨_, rfl⟩
  rw [hwA] at HR
  have hbA2 : Below wD.heap.size wD wA := by rw [← hwA]; exact belowA _ _
  have hkD := HK.out.keep hbD
  have hkA := hkD.keep hbA2
  have hsz3 := hb3.size
  have hk3 : Blk w3 L 160 [.slice A m c] := by
    unfold Blk at hkD ⊢
    rw [hb3.block L (Nat.lt_succ_self L)]
    exact hkD
  have hp3 : Blk w3 w.heap.size 65 [.int .u32 pa, .int .i64 pl] := by
    have h := HKA.out.keep hbD
    unfold Blk at h ⊢
    rw [hfar _ (by omega) (fun e => by have := hown _ e; omega)]
    exact h
  have hd3 : w3.cell? ⟨d, 3, none⟩ = some (.int .i64 val) := ((hb3.cell (p := ⟨d, 3, none⟩) (by show d < _; omega)).trans (hbD.cell (p := ⟨d, 3, none⟩) hdw)).trans d3
  have HS1 : Hid (Blk wD w.heap.size 65 [.int .u32 pa, .int .i64 pl] ∧ wD.cell? ⟨d, 3, none⟩ = some (.int .i64 val)) := ⟨HKA.out.keep hbD, (hbD.cell (p := ⟨d, 3, none⟩) hdw).trans d3⟩
  have HSA : Hid (Blk wA w.heap.size 65 [.int .u32 pa, .int .i64 pl] ∧ wA.cell? ⟨d, 3, none⟩ = some (.int .i64 val)) := ⟨HS1.out.1.keep hbA2, (hbA2.cell (p := ⟨d, 3, none⟩) (by show d < _; omega)).trans HS1.out.2⟩
  have HS3 : Hid (Blk w3 w.heap.size 65 [.int .u32 pa, .int .i64 pl] ∧ w3.cell? ⟨d, 3, none⟩ = some (.int .i64 val)) := ⟨hp3, hd3⟩
  have hsv : Save L w3 (w3.setCell ⟨L, 0, none⟩ (.slice A' (m + 1) c')) := Save.set
  have HS4 : Hid (Blk (w3.setCell ⟨L, 0, none⟩ (.slice A' (m + 1) c')) w.heap.size 65 [.int .u32 pa, .int .i64 pl] ∧ (w3.setCell ⟨L, 0, none⟩ (.slice A' (m + 1) c')).cell? ⟨d, 3, none⟩ = some (.int .i64 val)) :=
    ⟨hp3.save hsv (by omega), by
      rw [← hd3]
      exact (hsv.below (Nat.le_refl L) (by omega)).cell (p := ⟨d, 3, none⟩) hd⟩
  have HF : Hid (LAt (w3.setCell ⟨L, 0, none⟩ (.slice A' (m + 1) c')) L (m + 1) (rows ++ [.int .u32 pa, .int .i64 pl, .int .i64 val]) ∧ Below L w (w3.setCell ⟨L, 0, none⟩ (.slice A' (m + 1) c'))) := by
    refine ⟨⟨A', c', hk3.set 0 _, row_save ho3 hsv (fun e => ?_)⟩, ?_⟩
    · have := World.ownsRow.lt ho3 _ e
      omega
    · refine (HB1.out.mono (by omega)).trans ((hbD.mono (by omega)).trans ((hb3.mono (Nat.le_succ L)).trans (hsv.below (Nat.le_refl L) (by omega))))
  have l0 := hkD.cell 0
  have l1 := hkA.cell 0
  simp only [List.getElem?_cons_zero, List.getElem?_cons_succ] at l0 l1
  have l3 := hk3.cell 0
  have f3 := hk3.frozen 0
  simp only [List.getElem?_cons_zero, List.getElem?_cons_succ] at l3
  have hL3 : L < w3.heap.size := by omega
  have hLD : L < wD.heap.size := by omega
  have hLA : L < wA.heap.size := by have := hbA2.size; omega
  have hLw1 : L < w1.heap.size := by omega
  clear hbD hr3 ho3 hb3 hfar hbA2 hkD hkA hk3 hp3 hd3 hsv hown hszD hsz3
  go_enter Tryz.func100, Tryz.ntmps100
  go_upto_region 2 with fail
  try rw [hw1]
  clear hw1
  refine wp_region_noPanic ?_
  refine wp_region_held_drew (S := fun V => Blk V w.heap.size 65 [.int .u32 pa, .int .i64 pl] ∧ V.cell? ⟨d, 3, none⟩ = some (.int .i64 val)) (by kernel_rfl) (by rw [hwD]; exact HS1.out) (fun hHeld => ?_)
  rw [hwD] at hHeld ⊢
  refine take_in (i := 0) _ (some 10) (by kernel_rfl) (by kernel_rfl) (by kernel_rfl) (by kernel_rfl) (fun _ _ _ h => h) (by rfl) (fun o ho w hSw => by cases ho; (try dsimp only at hSw); (try go_split_ands); go_simp; (try with_reducible rfl)) hHeld ?_
  try simp only [Act.put, List.setIfInBounds_toArray, List.set_cons_zero, List.set_cons_succ]
  refine take_in (i := 1) _ (some 11) (by kernel_rfl) (by kernel_rfl) (by kernel_rfl) (by kernel_rfl) (fun _ _ _ h => h) (by rfl) (fun o ho w hSw => by cases ho; (try dsimp only at hSw); (try go_split_ands); go_simp; (try with_reducible rfl)) hHeld ?_
  try simp only [Act.put, List.setIfInBounds_toArray, List.set_cons_zero, List.set_cons_succ]
  refine take_in (i := 2) _ (some 12) (by kernel_rfl) (by kernel_rfl) (by kernel_rfl) (by kernel_rfl) (fun _ _ _ h => h) (by rfl) (fun o ho w hSw => by cases ho; (try dsimp only at hSw); (try go_split_ands); go_simp; (try with_reducible rfl)) hHeld ?_
  try simp only [Act.put, List.setIfInBounds_toArray, List.set_cons_zero, List.set_cons_succ]
  refine take_in (i := 3) _ (some 13) (by kernel_rfl) (by kernel_rfl) (by kernel_rfl) (by kernel_rfl) (fun _ _ _ h => h) (by rfl) (fun o ho w hSw => by cases ho; (try dsimp only at hSw); (try go_split_ands); go_simp; (try with_reducible rfl)) hHeld ?_
  try simp only [Act.put, List.setIfInBounds_toArray, List.set_cons_zero, List.set_cons_succ]
  refine take_in (i := 5) _ (some 15) (by kernel_rfl) (by kernel_rfl) (by kernel_rfl) (by kernel_rfl) (fun _ _ _ h => h) (by rfl) (fun o ho w hSw => by cases ho; exact run_load_blk _ _ rfl _ rfl (hSw.1) _ Tryz.underlying65 rfl (by kernel_rfl)) hHeld ?_
  try simp only [Act.put, List.setIfInBounds_toArray, List.set_cons_zero, List.set_cons_succ]
  refine take_in (i := 6) _ (some 16) (by kernel_rfl) (by kernel_rfl) (by kernel_rfl) (by kernel_rfl) (fun _ _ _ h => h) (by rfl) (fun o ho w hSw => by cases ho; (try dsimp only at hSw); (try go_split_ands); go_simp; (try with_reducible rfl)) hHeld ?_
  try simp only [Act.put, List.setIfInBounds_toArray, List.set_cons_zero, List.set_cons_succ]
  refine take_in (i := 7) _ (some 17) (by kernel_rfl) (by kernel_rfl) (by kernel_rfl) (by kernel_rfl) (fun _ _ _ h => h) (by rfl) (fun o ho w hSw => by cases ho; (try dsimp only at hSw); (try go_split_ands); go_simp; (try with_reducible rfl)) hHeld ?_
  try simp only [Act.put, List.setIfInBounds_toArray, List.set_cons_zero, List.set_cons_succ]
  refine take_in (i := 8) _ (some 18) (by kernel_rfl) (by kernel_rfl) (by kernel_rfl) (by kernel_rfl) (fun _ _ _ h => h) (by rfl) (fun o ho w hSw => by cases ho; (try dsimp only at hSw); (try go_split_ands); go_simp; (try with_reducible rfl)) hHeld ?_
  try simp only [Act.put, List.setIfInBounds_toArray, List.set_cons_zero, List.set_cons_succ]
  refine take_in (i := 9) _ (some 19) (by kernel_rfl) (by kernel_rfl) (by kernel_rfl) (by kernel_rfl) (fun _ _ _ h => h) (by rfl) (fun o ho w hSw => by cases ho; (try dsimp only at hSw); (try go_split_ands); go_simp; (try with_reducible rfl)) hHeld ?_
  try simp only [Act.put, List.setIfInBounds_toArray, List.set_cons_zero, List.set_cons_succ]
  refine take_in (i := 10) _ (some 20) (by kernel_rfl) (by kernel_rfl) (by kernel_rfl) (by kernel_rfl) (fun _ _ _ h => h) (by rfl) (fun o ho w hSw => by cases ho; (try dsimp only at hSw); (try go_split_ands); go_simp; (try with_reducible rfl)) hHeld ?_
  try simp only [Act.put, List.setIfInBounds_toArray, List.set_cons_zero, List.set_cons_succ]
  refine wpAnyH_ready (rs := [4, 11]) (by kernel_rfl) (by simp) ?_
  refine AllReadyH.cons (o := _) rfl (fun K hK => ?_) (AllReadyH.cons (o := _) rfl (fun K hK => ?_) AllReadyH.nil)
  · go_simp
    refine hK.out _ _ hHeld (fun hHeld => ?_)
    clear hK K
    try simp only [Act.put, List.setIfInBounds_toArray, List.set_cons_zero, List.set_cons_succ]
    refine wpAnyH_ready (rs := [11]) (by kernel_rfl) (by simp) ?_
    refine AllReadyH.cons (o := _) rfl (fun K hK => ?_) AllReadyH.nil
    go_simp
    try rw [hwA]
    refine hK.out _ _ HSA.out (fun hHeld => ?_)
    clear hK K
    try simp only [Act.put, List.setIfInBounds_toArray, List.set_cons_zero, List.set_cons_succ]
    refine wpAnyH_ready (rs := [12]) (by kernel_rfl) (by simp) ?_
    refine AllReadyH.cons (o := _) rfl (fun K hK => ?_) AllReadyH.nil
    refine step_append_at (some 22) (by rfl) (by rfl) _ _ _ (by rfl) (by rfl) (by rfl) HR.out ?_
    refine hK.out _ _ HS3.out (fun hHeld => ?_)
    clear hK K
    try simp only [Act.put, List.setIfInBounds_toArray, List.set_cons_zero, List.set_cons_succ]
    refine take_in (i := 13) _ (some 23) (by kernel_rfl) (by kernel_rfl) (by kernel_rfl) (by kernel_rfl) (fun _ _ _ h => h) (by rfl) (fun o ho w hSw => by cases ho; (try dsimp only at hSw); (try go_split_ands); go_simp; (try with_reducible rfl)) hHeld ?_
    try simp only [Act.put, List.setIfInBounds_toArray, List.set_cons_zero, List.set_cons_succ]
    refine take_in (i := 14) _ (some 24) (by kernel_rfl) (by kernel_rfl) (by kernel_rfl) (by kernel_rfl) (fun _ _ _ h => h) (by rfl) (fun o ho w hSw => by cases ho; (try dsimp only at hSw); (try go_split_ands); go_simp; (try with_reducible rfl)) hHeld ?_
    try simp only [Act.put, List.setIfInBounds_toArray, List.set_cons_zero, List.set_cons_succ]
    refine wpAnyH_ready (rs := [15]) (by kernel_rfl) (by simp) ?_
    refine AllReadyH.cons (o := _) rfl (fun K hK => ?_) AllReadyH.nil
    go_simp
    refine hK.out _ _ HS4.out (fun hHeld => ?_)
    clear hK K
    try simp only [Act.put, List.setIfInBounds_toArray, List.set_cons_zero, List.set_cons_succ]
    refine wpAnyH_done (by kernel_rfl) ?_ _
    refine NoPanic.normal ?_
    go_wp2
    go_end0
    exact ⟨rfl, HF.out⟩
  · go_simp
    try rw [hwA]
    refine hK.out _ _ HSA.out (fun hHeld => ?_)
    clear hK K
    try simp only [Act.put, List.setIfInBounds_toArray, List.set_cons_zero, List.set_cons_succ]
    refine wpAnyH_ready (rs := [4]) (by kernel_rfl) (by simp) ?_
    refine AllReadyH.cons (o := _) rfl (fun K hK => ?_) AllReadyH.nil
    go_simp
    refine hK.out _ _ hHeld (fun hHeld => ?_)
    clear hK K
    try simp only [Act.put, List.setIfInBounds_toArray, List.set_cons_zero, List.set_cons_succ]
    refine wpAnyH_ready (rs := [12]) (by kernel_rfl) (by simp) ?_
    refine AllReadyH.cons (o := _) rfl (fun K hK => ?_) AllReadyH.nil
    refine step_append_at (some 22) (by rfl) (by rfl) _ _ _ (by rfl) (by rfl) (by rfl) HR.out ?_
    refine hK.out _ _ HS3.out (fun hHeld => ?_)
    clear hK K
    try simp only [Act.put, List.setIfInBounds_toArray, List.set_cons_zero, List.set_cons_succ]
    refine take_in (i := 13) _ (some 23) (by kernel_rfl) (by kernel_rfl) (by kernel_rfl) (by kernel_rfl) (fun _ _ _ h => h) (by rfl) (fun o ho w hSw => by cases ho; (try dsimp only at hSw); (try go_split_ands); go_simp; (try with_reducible rfl)) hHeld ?_
    try simp only [Act.put, List.setIfInBounds_toArray, List.set_cons_zero, List.set_cons_succ]
    refine take_in (i := 14) _ (some 24) (by kernel_rfl) (by kernel_rfl) (by kernel_rfl) (by kernel_rfl) (fun _ _ _ h => h) (by rfl) (fun o ho w hSw => by cases ho; (try dsimp only at hSw); (try go_split_ands); go_simp; (try with_reducible rfl)) hHeld ?_
    try simp only [Act.put, List.setIfInBounds_toArray, List.set_cons_zero, List.set_cons_succ]
    refine wpAnyH_ready (rs := [15]) (by kernel_rfl) (by simp) ?_
    refine AllReadyH.cons (o := _) rfl (fun K hK => ?_) AllReadyH.nil
    go_simp
    refine hK.out _ _ HS4.out (fun hHeld => ?_)
    clear hK K
    try simp only [Act.put, List.setIfInBounds_toArray, List.set_cons_zero, List.set_cons_succ]
    refine wpAnyH_done (by kernel_rfl) ?_ _
    refine NoPanic.normal ?_
    go_wp2
    go_end0
    exact ⟨rfl, HF.out⟩
end Go.Proofs.YtplppbgkkfjknaaGreatDoor
namespace Go.Proofs.YtplppbgkkfjknaaGreatDoor
open Go.RowKit

set_option linter.unusedVariables false
set_option linter.unusedSimpArgs false
set_option maxHeartbeats 1000000 in
theorem make_any (a k : Nat) (w : World) (ha : a < 4294967296) (h1 : k ≤ 32) : Calls Tryz.prog 121 #[.int .u32 a, .int .i64 k] w fun e w' => e = .returned (.tuple #[.agg #[.int .u32 (keepN a k), .int .i64 k], .int .i64 0]) ∧ Below w.heap.size w w' := by
  have HK : Hid (∀ W, Calls Tryz.prog 128 #[.int .u32 a, .int .i64 k] W fun e w' => e = .returned (.agg #[.int .u32 (keepN a k), .int .i64 k]) ∧ Below W.heap.size W w') := fun W => of_any a k W ha h1
  have d0 : decide ((k : Int) < 0) = false := by simp
  have d1 : decide ((k : Int) > 32) = false := by simp; omega
  obtain ⟨kn, hkn⟩ : ∃ kn, keepN a k = kn := ⟨_, rfl⟩
  rw [hkn] at HK ⊢
  clear hkn
  obtain ⟨w1, hw1⟩ : ∃ w1, w.alloc (.cells #[.int .u32 0, .int .i64 0] 65) = w1 := ⟨_, rfl⟩
  have HB1 : Hid (Blk w1 w.heap.size 65 [.int .u32 0, .int .i64 0]) := by show Blk _ _ _ _; rw [← hw1]; exact Blk.new w _ _
  have HL1 : Hid (Below w.heap.size w w1) := by show Below _ _ _; rw [← hw1]; exact belowA _ _
  go_enter Tryz.func121, Tryz.ntmps121
  go_wp2_with fail
  refine (HK.out _).mono ?_
  rintro e w2 ⟨rfl, hb⟩
  try rw [hw1] at hb
  have HB2 := Lib.hid (HB1.out.keep hb)
  have HL2 := Lib.hid (below3 HL1.out hb)
  clear hb HK HB1 HL1
  obtain ⟨w3, hw3⟩ : ∃ w3, w2.setRow w.heap.size #[.int .u32 kn, .int .i64 k] = w3 := ⟨_, rfl⟩
  have HB3 : Hid (Blk w3 w.heap.size 65 [.int .u32 kn, .int .i64 k]) := by show Blk _ _ _ _; rw [← hw3]; exact HB2.out.row _
  have HL3 : Hid (Below w.heap.size w w3) := by show Below _ _ _; rw [← hw3]; exact HL2.out.trans ((Save.row w.heap.size w2 _).below (Nat.le_refl _) HL2.out.size)
  go_wp2_with (refine wpList_store_blk rfl 65 _ _ rfl w.heap.size rfl rfl HB2.out (by kernel_rfl) rfl (by kernel_rfl) ?_)
  try rw [hw3]
  refine bodyPost_ret (results_cell_row2 rfl _ w.heap.size _ rfl HB3.out Tryz.underlying65 rfl (by kernel_rfl)) rfl ⟨rfl, HL3.out⟩
/-- the entries on the path of a, up to k bits (k not counted) -/
def entUp (E : List Bool → Option Int) (a : Nat) : Nat → List Ent
  | 0 => []
  | k + 1 => entUp E a k ++ (match E (bitL a k) with | some v => [⟨keepN a k, k, v⟩] | none => [])
def rowsOf (es : List Ent) : List Value := es.flatMap Ent.vals
theorem entUp_le (E : List Bool → Option Int) (a : Nat) : ∀ k, (entUp E a k).length ≤ k
  | 0 => Nat.le_refl _
  | k + 1 => by
    have := entUp_le E a k
    rw [entUp, List.length_append]
    split <;> simp <;> omega
theorem TrieAt.low {w w' : World} {T lo L : Nat} {M : TM} {n : Int} (h : TrieAt w T lo M n) (hb : Below L w w') (hL : ∀ π d, M π = some d → d.b < L) : TrieAt w' T lo M n :=
  ⟨h.root, fun π d hd => ⟨(h.node π d hd).1, (h.node π d hd).2.below hb (hL π d hd)⟩, h.inj, h.clo⟩
/-- below a missing node nothing -/
theorem TrieAt.none_at {w : World} {T lo : Nat} {M : TM} {n : Int} (h : TrieAt w T lo M n) {a k : Nat} (hk : M (bitL a k) = none) : ∀ j, M (bitL a (k + j)) = none
  | 0 => hk
  | j + 1 => by
    have ih := h.none_at hk j
    cases hq : M (bitL a (k + (j + 1))) with
    | none => rfl
    | some d =>
      obtain ⟨e, he⟩ := h.clo (bitL a (k + j)) (bitN a (k + j)) d hq
      rw [ih] at he
      cases he
theorem entUp_none {w : World} {T lo : Nat} {M : TM} {n : Int} (h : TrieAt w T lo M n) {a k : Nat} (hk : M (bitL a k) = none) : ∀ j, entUp (EM M) a (k + j) = entUp (EM M) a k
  | 0 => rfl
  | j + 1 => by
    have e : EM M (bitL a (k + j)) = none := by unfold EM; rw [h.none_at hk j]
    show entUp (EM M) a (k + j + 1) = _
    rw [entUp, e, entUp_none h hk j]
    simp
def DownI (w : World) (T lo L n : Nat) (M : TM) (nn : Int) (a : Nat) (xv kv : Value) (W : World) : Prop :=
  ∃ k : Nat, k ≤ n ∧ kv = .int .i64 k ∧ xv = .pointer ((M (bitL a k)).map fun d => ⟨d.b, 0, none⟩) ∧ Hid (TrieAt W T lo M nn) ∧ Hid (LAt W L (entUp (EM M) a k).length (rowsOf (entUp (EM M) a k))) ∧ Hid (Below L w W)
set_option maxRecDepth 100000 in
set_option maxHeartbeats 4000000 in
theorem down_any (T lo L n : Nat) (M : TM) (nn : Int) (a : Nat) (w : World) (hT : TrieAt w T lo M nn) (hM : ∀ π d, M π = some d → d.b < L) (hl : LAt w L 0 []) (hL : L < w.heap.size) (hn : n ≤ 32) (ha : a < 4294967296) :
    Calls Tryz.prog 99 #[.pointer (some ⟨T, 0, none⟩), .int .u32 a, .int .i64 n, .func (.func 100) #[.pointer (some ⟨L, 0, none⟩)] #[]] w fun e w' =>
      e = .returned (.tuple #[]) ∧ LAt w' L (entUp (EM M) a (n + 1)).length (rowsOf (entUp (EM M) a (n + 1))) ∧ Below L w w' := by
  have HT := Lib.hid hT
  have HM := Lib.hid hM
  obtain ⟨dr, hr1, hr2⟩ := hT.root
  have HI0 : Hid (DownI w T lo L n M nn a (.pointer (some ⟨T, 0, none⟩)) (.int .i64 (0 : Nat)) w) := ⟨0, Nat.zero_le _, rfl, by rw [← hr2]; show _ = Value.pointer ((M []).map _); rw [hr1]; rfl, Lib.hid hT, Lib.hid hl, Lib.hid (Below.refl _ _)⟩
  have hTw : T < w.heap.size := by
    have := hM [] dr hr1
    omega
  clear hT hM hl hr1 hr2
  go_enter Tryz.func99, Tryz.ntmps99
  go_wp2
  go_loopw [8, 9] (fun xv kv wr => DownI w T lo L n M nn a xv kv wr) (fun _ kv _ => n + 1 - (intOf kv).toNat)
  case atStart => exact HI0.out
  case round =>
    obtain ⟨k, hk, rfl, rfl, hT', hLA, hB⟩ := hrel
    clear HI0
    cases hd : M (bitL a k) with
    | none =>
      have HE : Hid (entUp (EM M) a (n + 1) = entUp (EM M) a k) := by
        have h := entUp_none hT'.out hd (n + 1 - k)
        rw [show k + (n + 1 - k) = n + 1 by omega] at h
        exact h
      clear hd
      simp only [Option.map_none]
      go_wp2
      go_end0
      refine ⟨rfl, ?_, hB.out⟩
      rw [HE.out]
      exact hLA.out
    | some d =>
      simp only [Option.map_some]
      have hdL : d.b < L := HM.out _ _ hd
      have hbB := hB.out.size
      have hbB0 : L ≤ wr.heap.size := by omega
      have HMk := Lib.hid (make_any a k wr ha (by omega))
      obtain ⟨E1, hE1⟩ : ∃ E1, entUp (EM M) a k = E1 := ⟨_, rfl⟩
      have HE1 := Lib.hid hE1
      rw [hE1] at hLA
      have hlen : E1.length ≤ 32 := by rw [← hE1]; exact Nat.le_trans (entUp_le _ _ _) (by omega)
      clear hE1
      obtain ⟨kn, hkn⟩ : ∃ kn, keepN a k = kn := ⟨_, rfl⟩
      have HKN := Lib.hid hkn
      rw [hkn] at HMk
      clear hkn
      obtain ⟨d1, d2, k0, k1, k2, k3, kf⟩ := hT'.out.cells hd
      have HK := Lib.hid (And.intro k0 (And.intro k1 (And.intro k2 k3)))
      have HD := Lib.hid hd
      clear hd k0 k1 k2 k3 kf
      go_wp2_with fail
      refine HMk.out.mono ?_
      rintro e w2 ⟨rfl, hb⟩
      clear HMk
      obtain ⟨w3, hw3⟩ : ∃ w3, w2.alloc (.cells #[.int .u32 kn, .int .i64 k] 65) = w3 := ⟨_, rfl⟩
      have hb3 : Below w2.heap.size w2 w3 := by rw [← hw3]; exact belowA _ _
      have HB3 := Lib.hid (below3 hb hb3)
      have hbx : Blk w3 w2.heap.size 65 [.int .u32 kn, .int .i64 k] := by rw [← hw3]; exact Blk.new w2 _ _
      have hsz2 := hb.size
      have hsz3 := hb3.size
      have e0 := hbx.cell 0
      have e1 := hbx.cell 1
      simp only [List.getElem?_cons_zero, List.getElem?_cons_succ] at e0 e1
      have HL3 := Lib.hid (hLA.out.keep HB3.out)
      have hbox : w2.heap.size < w3.heap.size := hbx.lt
      have HAdd := Lib.hid (add_any L E1.length d.b (rowsOf E1) kn k d.val d.has w3 HL3.out (by omega) (by omega) hdL ((HB3.out.cell (p := ⟨d.b, 2, none⟩) d2).trans HK.out.2.2.1) ((HB3.out.cell (p := ⟨d.b, 3, none⟩) d2).trans HK.out.2.2.2))
      clear hb hb3 hbx
      go_wp2_with fail
      refine HAdd.out.mono ?_
      rintro e w4 ⟨rfl, hl4, hb4⟩
      have HB4 := Lib.hid (hB.out.trans ((HB3.out.mono hbB0).trans hb4))
      have HT4 := Lib.hid ((hT'.out.below HB3.out).low hb4 HM.out)
      have HL4 : Hid (LAt w4 L (entUp (EM M) a (k + 1)).length (rowsOf (entUp (EM M) a (k + 1)))) := by
        show LAt _ _ _ _
        have e : entUp (EM M) a (k + 1) = if d.has = true then E1 ++ [⟨kn, k, d.val⟩] else E1 := by
          rw [entUp, HE1.out, HKN.out]
          unfold EM
          rw [HD.out]
          dsimp only
          cases d.has <;> simp
        rw [e]
        cases hh : d.has
        · rw [hh] at hl4
          exact hl4
        · rw [hh] at hl4
          have e2 : rowsOf (E1 ++ [⟨kn, k, d.val⟩]) = rowsOf E1 ++ [.int .u32 kn, .int .i64 k, .int .i64 d.val] := by
            unfold rowsOf
            rw [List.flatMap_append]
            rfl
          simp only [if_true, List.length_append, List.length_singleton, e2]
          exact hl4
      have hsz4 := hb4.size
      clear HAdd hl4 hw3 e0 e1 HB3 HL3 HE1 HKN hLA
      obtain ⟨dd1, dd2, k0, k1, k2, k3, kf⟩ := HT4.out.cells HD.out
      have hkn : k = n ∨ k < n := by omega
      rcases hkn with rfl | hlt
      · go_wp2
        refine bodyPost_ret (results_none rfl _ _ _) rfl ?_
        exact ⟨rfl, HL4.out, HB4.out⟩
      have hne : (k : Int) ≠ (n : Int) := by omega
      have hS : bitL a (k + 1) = bitL a k ++ [bitN a k] := rfl
      have HS := Lib.hid hS
      have HC := Lib.hid (bit_any a k w4.drew ha (by omega))
      obtain ⟨i, hi⟩ : ∃ i, bitN a k = i := ⟨_, rfl⟩
      rw [hi] at HC HS
      clear hi hS k2 k3 kf dd1 hsz2 hsz3 hbox hlen hbB hbB0
      go_upto_region 7 with fail
      cases i
      case false =>
        have HS1 : Hid (w4.drew.cell? ⟨d.b, 0, none⟩ = some (.pointer (kidA M (bitL a k) false)) ∧ w4.drew.cell? ⟨d.b, 1, none⟩ = some (.pointer (kidA M (bitL a k) true))) := ⟨k0, k1⟩
        clear k0 k1
        refine wp_region_noPanic ?_
        refine wp_region_held_drew (S := fun V => V.cell? ⟨d.b, 0, none⟩ = some (.pointer (kidA M (bitL a k) false)) ∧ V.cell? ⟨d.b, 1, none⟩ = some (.pointer (kidA M (bitL a k) true))) (by kernel_rfl) HS1.out (fun hHeld => ?_)
        refine take_in (i := 0) _ (some 32) (by kernel_rfl) (by kernel_rfl) (by kernel_rfl) (by kernel_rfl) (fun _ _ _ h => h) (by rfl) (fun o ho w hSw => by cases ho; (try dsimp only at hSw); (try go_split_ands); go_simp; (try with_reducible rfl)) hHeld ?_
        try simp only [Act.put, List.setIfInBounds_toArray, List.set_cons_zero, List.set_cons_succ]
        refine take_in (i := 1) _ (some 33) (by kernel_rfl) (by kernel_rfl) (by kernel_rfl) (by kernel_rfl) (fun _ _ _ h => h) (by rfl) (fun o ho w hSw => by cases ho; (try dsimp only at hSw); (try go_split_ands); go_simp; (try with_reducible rfl)) hHeld ?_
        try simp only [Act.put, List.setIfInBounds_toArray, List.set_cons_zero, List.set_cons_succ]
        refine take_in (i := 2) _ (some 34) (by kernel_rfl) (by kernel_rfl) (by kernel_rfl) (by kernel_rfl) (fun _ _ _ h => h) (by rfl) (fun o ho w hSw => by cases ho; (try dsimp only at hSw); (try go_split_ands); go_simp; (try with_reducible rfl)) hHeld ?_
        try simp only [Act.put, List.setIfInBounds_toArray, List.set_cons_zero, List.set_cons_succ]
        refine take_in (i := 4) _ (some 36) (by kernel_rfl) (by kernel_rfl) (by kernel_rfl) (by kernel_rfl) (fun _ _ _ h => h) (by rfl) (fun o ho w hSw => by cases ho; (try dsimp only at hSw); (try go_split_ands); go_simp; (try with_reducible rfl)) hHeld ?_
        try simp only [Act.put, List.setIfInBounds_toArray, List.set_cons_zero, List.set_cons_succ]
        refine take_in (i := 5) _ (some 37) (by kernel_rfl) (by kernel_rfl) (by kernel_rfl) (by kernel_rfl) (fun _ _ _ h => h) (by rfl) (fun o ho w hSw => by cases ho; (try dsimp only at hSw); (try go_split_ands); go_simp; (try with_reducible rfl)) hHeld ?_
        try simp only [Act.put, List.setIfInBounds_toArray, List.set_cons_zero, List.set_cons_succ]
        refine wpAnyH_ready (rs := [3]) (by kernel_rfl) (by simp) ?_
        refine AllReadyH.cons (o := _) rfl (fun K hK => ?_) AllReadyH.nil
        go_simp
        go_at_call 98
        with_reducible refine HC.out.mono ?_
        rintro e wX ⟨rfl, rfl⟩
        refine hK.out _ _ HS1.out (fun hHeld => ?_)
        clear hK K
        try simp only [Act.put, List.setIfInBounds_toArray, List.set_cons_zero, List.set_cons_succ]
        refine take_in (i := 6) _ (some 38) (by kernel_rfl) (by kernel_rfl) (by kernel_rfl) (by kernel_rfl) (fun _ _ _ h => h) (by rfl) (fun o ho w hSw => by cases ho; (try dsimp only at hSw); (try go_split_ands); go_simp; (try with_reducible rfl)) hHeld ?_
        try simp only [Act.put, List.setIfInBounds_toArray, List.set_cons_zero, List.set_cons_succ]
        refine take_in (i := 7) _ (some 39) (by kernel_rfl) (by kernel_rfl) (by kernel_rfl) (by kernel_rfl) (fun _ _ _ h => h) (by rfl) (fun o ho w hSw => by cases ho; (try dsimp only at hSw); (try go_split_ands); go_simp; (try with_reducible rfl)) hHeld ?_
        try simp only [Act.put, List.setIfInBounds_toArray, List.set_cons_zero, List.set_cons_succ]
        refine take_in (i := 8) _ (some 8) (by kernel_rfl) (by kernel_rfl) (by kernel_rfl) (by kernel_rfl) (fun _ _ _ h => h) (by rfl) (fun o ho w hSw => by cases ho; (try dsimp only at hSw); (try go_split_ands); go_simp; (try with_reducible rfl)) hHeld ?_
        try simp only [Act.put, List.setIfInBounds_toArray, List.set_cons_zero, List.set_cons_succ]
        refine wpAnyH_done (by kernel_rfl) ?_ _
        refine NoPanic.normal ?_
        go_wp2
        go_roundw
        case rel => exact ⟨k + 1, by omega, by go_num, by rw [HS.out]; rfl, HT4.out.below (Below.refl _ _).drew, HL4.out.keep (Below.refl _ _).drew, HB4.out.drew⟩
        case measure => simp [intOf]; omega
      case true =>
        have HS1 : Hid (w4.drew.cell? ⟨d.b, 0, none⟩ = some (.pointer (kidA M (bitL a k) false)) ∧ w4.drew.cell? ⟨d.b, 1, none⟩ = some (.pointer (kidA M (bitL a k) true))) := ⟨k0, k1⟩
        clear k0 k1
        refine wp_region_noPanic ?_
        refine wp_region_held_drew (S := fun V => V.cell? ⟨d.b, 0, none⟩ = some (.pointer (kidA M (bitL a k) false)) ∧ V.cell? ⟨d.b, 1, none⟩ = some (.pointer (kidA M (bitL a k) true))) (by kernel_rfl) HS1.out (fun hHeld => ?_)
        refine take_in (i := 0) _ (some 32) (by kernel_rfl) (by kernel_rfl) (by kernel_rfl) (by kernel_rfl) (fun _ _ _ h => h) (by rfl) (fun o ho w hSw => by cases ho; (try dsimp only at hSw); (try go_split_ands); go_simp; (try with_reducible rfl)) hHeld ?_
        try simp only [Act.put, List.setIfInBounds_toArray, List.set_cons_zero, List.set_cons_succ]
        refine take_in (i := 1) _ (some 33) (by kernel_rfl) (by kernel_rfl) (by kernel_rfl) (by kernel_rfl) (fun _ _ _ h => h) (by rfl) (fun o ho w hSw => by cases ho; (try dsimp only at hSw); (try go_split_ands); go_simp; (try with_reducible rfl)) hHeld ?_
        try simp only [Act.put, List.setIfInBounds_toArray, List.set_cons_zero, List.set_cons_succ]
        refine take_in (i := 2) _ (some 34) (by kernel_rfl) (by kernel_rfl) (by kernel_rfl) (by kernel_rfl) (fun _ _ _ h => h) (by rfl) (fun o ho w hSw => by cases ho; (try dsimp only at hSw); (try go_split_ands); go_simp; (try with_reducible rfl)) hHeld ?_
        try simp only [Act.put, List.setIfInBounds_toArray, List.set_cons_zero, List.set_cons_succ]
        refine take_in (i := 4) _ (some 36) (by kernel_rfl) (by kernel_rfl) (by kernel_rfl) (by kernel_rfl) (fun _ _ _ h => h) (by rfl) (fun o ho w hSw => by cases ho; (try dsimp only at hSw); (try go_split_ands); go_simp; (try with_reducible rfl)) hHeld ?_
        try simp only [Act.put, List.setIfInBounds_toArray, List.set_cons_zero, List.set_cons_succ]
        refine take_in (i := 5) _ (some 37) (by kernel_rfl) (by kernel_rfl) (by kernel_rfl) (by kernel_rfl) (fun _ _ _ h => h) (by rfl) (fun o ho w hSw => by cases ho; (try dsimp only at hSw); (try go_split_ands); go_simp; (try with_reducible rfl)) hHeld ?_
        try simp only [Act.put, List.setIfInBounds_toArray, List.set_cons_zero, List.set_cons_succ]
        refine wpAnyH_ready (rs := [3]) (by kernel_rfl) (by simp) ?_
        refine AllReadyH.cons (o := _) rfl (fun K hK => ?_) AllReadyH.nil
        go_simp
        go_at_call 98
        with_reducible refine HC.out.mono ?_
        rintro e wX ⟨rfl, rfl⟩
        refine hK.out _ _ HS1.out (fun hHeld => ?_)
        clear hK K
        try simp only [Act.put, List.setIfInBounds_toArray, List.set_cons_zero, List.set_cons_succ]
        refine take_in (i := 6) _ (some 38) (by kernel_rfl) (by kernel_rfl) (by kernel_rfl) (by kernel_rfl) (fun _ _ _ h => h) (by rfl) (fun o ho w hSw => by cases ho; (try dsimp only at hSw); (try go_split_ands); go_simp; (try with_reducible rfl)) hHeld ?_
        try simp only [Act.put, List.setIfInBounds_toArray, List.set_cons_zero, List.set_cons_succ]
        refine take_in (i := 7) _ (some 39) (by kernel_rfl) (by kernel_rfl) (by kernel_rfl) (by kernel_rfl) (fun _ _ _ h => h) (by rfl) (fun o ho w hSw => by cases ho; (try dsimp only at hSw); (try go_split_ands); go_simp; (try with_reducible rfl)) hHeld ?_
        try simp only [Act.put, List.setIfInBounds_toArray, List.set_cons_zero, List.set_cons_succ]
        refine take_in (i := 8) _ (some 8) (by kernel_rfl) (by kernel_rfl) (by kernel_rfl) (by kernel_rfl) (fun _ _ _ h => h) (by rfl) (fun o ho w hSw => by cases ho; (try dsimp only at hSw); (try go_split_ands); go_simp; (try with_reducible rfl)) hHeld ?_
        try simp only [Act.put, List.setIfInBounds_toArray, List.set_cons_zero, List.set_cons_succ]
        refine wpAnyH_done (by kernel_rfl) ?_ _
        refine NoPanic.normal ?_
        go_wp2
        go_roundw
        case rel => exact ⟨k + 1, by omega, by go_num, by rw [HS.out]; rfl, HT4.out.below (Below.refl _ _).drew, HL4.out.keep (Below.refl _ _).drew, HB4.out.drew⟩
        case measure => simp [intOf]; omega
end Go.Proofs.YtplppbgkkfjknaaGreatDoor
namespace Go.Proofs.YtplppbgkkfjknaaGreatDoor
open Go.RowKit

set_option linter.unusedVariables false
set_option linter.unusedSimpArgs false
theorem row_down {w : World} {B B' size n : Nat} {e : TypeId} {v : Value} {xs : List Value} (h : w.ownsRow B e size v n xs) (hB : B' ≤ B) : w.ownsRow B' e size v n xs := by
  refine ⟨h.1, ?_⟩
  rcases h.2 with h2 | ⟨q, cap, cur, hv, hq, r⟩
  · exact .inl h2
  · exact .inr ⟨q, cap, cur, hv, Nat.le_trans hB hq, r⟩
theorem valid32 (a : Nat) : validP a 32 = true := by
  unfold validP
  have : keepN a (32 : Int).toNat = a := by
    show a / 2 ^ (32 - 32) * 2 ^ (32 - 32) = a
    simp
  have h2 : keepN a 32 = a := this
  simp [h2]
set_option maxRecDepth 100000 in
set_option maxHeartbeats 4000000 in
theorem above_any (T lo : Nat) (M : TM) (nn : Int) (a : Nat) (w : World) (hT : TrieAt w T lo M nn) (ha : a < 4294967296) :
    Calls Tryz.prog 67 #[.pointer (some ⟨T, 0, none⟩), .agg #[.int .u32 a, .int .i64 32]] w fun e w' =>
      ∃ A c, e = .returned (.slice A (entUp (EM M) a 33).length c) ∧ w'.ownsRow w.heap.size 79 3 (.slice A (entUp (EM M) a 33).length c) (entUp (EM M) a 33).length (rowsOf (entUp (EM M) a 33)) ∧ Below w.heap.size w w' := by
  have HT := Lib.hid hT
  obtain ⟨w1, hw1⟩ : ∃ w1, w.alloc (.cells #[.int .u32 a, .int .i64 32] 65) = w1 := ⟨_, rfl⟩
  have HBX : Hid (Blk w1 w.heap.size 65 [.int .u32 a, .int .i64 32]) := by show Blk _ _ _ _; rw [← hw1]; exact Blk.new w _ _
  have HB1 : Hid (Below w.heap.size w w1) := by show Below _ _ _; rw [← hw1]; exact belowA _ _
  have a0 := HBX.out.cell 0
  have a1 := HBX.out.cell 1
  simp only [List.getElem?_cons_zero, List.getElem?_cons_succ] at a0 a1
  have hlt1 : w.heap.size < w1.heap.size := HBX.out.lt
  have HV := Lib.hid (valid_any a 32 w1 ha)
  rw [valid32 a] at HV
  clear hT
  go_enter Tryz.func67, Tryz.ntmps67
  go_wp2_with fail
  refine HV.out.mono ?_
  rintro e w2 ⟨rfl, hb⟩
  clear HV hw1 a0 a1
  have HBX2 := Lib.hid (HBX.out.keep hb)
  have HB2 := Lib.hid (below3 HB1.out hb)
  have hsz2 := hb.size
  clear hb HBX HB1
  obtain ⟨w3, hw3⟩ : ∃ w3, w2.alloc (.cells #[.slice none 0 0] 160) = w3 := ⟨_, rfl⟩
  have hl3 : Blk w3 w2.heap.size 160 [.slice none 0 0] := by rw [← hw3]; exact Blk.new w2 _ _
  have hb3 : Below w2.heap.size w2 w3 := by rw [← hw3]; exact belowA _ _
  have HB3 := Lib.hid (below3 HB2.out hb3)
  have hlt3 : w2.heap.size < w3.heap.size := hl3.lt
  have hbx3 := HBX2.out.keep hb3
  have a0 := hbx3.cell 0
  have a1 := hbx3.cell 1
  simp only [List.getElem?_cons_zero, List.getElem?_cons_succ] at a0 a1
  have hla : LAt w3 w2.heap.size 0 [] := ⟨none, 0, hl3, World.ownsRow_nil _ _ _ _⟩
  have HD := Lib.hid (down_any T lo w2.heap.size 32 M nn a w3 (HT.out.below HB3.out) (fun π d hd => by have := (HT.out.cells hd).2.1; omega) hla hlt3 (by omega) ha)
  clear hl3 hb3 hbx3 hla
  go_wp2_with fail
  refine HD.out.mono ?_
  rintro e w4 ⟨rfl, hl4, hb4⟩
  clear HD hw3 a0 a1
  obtain ⟨A, c, q1, q2⟩ := hl4
  have HB4 := Lib.hid (HB3.out.trans (hb4.mono (by omega)))
  have HO := Lib.hid (row_down q2 (show w.heap.size ≤ w2.heap.size + 1 by omega))
  have l0 := q1.cell 0
  simp only [List.getElem?_cons_zero, List.getElem?_cons_succ] at l0
  have hlt4 := q1.lt
  clear q1 q2 hb4
  go_wp2
  go_ret
  exact ⟨A, c, rfl, HO.out, HB4.out⟩
/-- the longest prefix on the path of a, with its value -/
def longest (E : List Bool → Option Int) (a : Nat) : Option Ent := (entUp E a 33).getLast?
def GivesLook (o : Option Ent) : Ending := match o with
  | some x => .returned (.tuple #[.agg #[.int .u32 x.a, .int .i64 x.l, .int .i64 x.v], .bool true])
  | none => .returned (.tuple #[.agg #[.int .u32 0, .int .i64 0, .int .i64 0], .bool false])
theorem rowsOf_at (es : List Ent) {j : Nat} {x : Ent} (h : es[j]? = some x) : (rowsOf es)[j * 3]? = some (.int .u32 x.a) ∧ (rowsOf es)[j * 3 + 1]? = some (.int .i64 x.l) ∧ (rowsOf es)[j * 3 + 2]? = some (.int .i64 x.v) := by
  induction es generalizing j with
  | nil => simp at h
  | cons y ys ih =>
    cases j with
    | zero =>
      obtain rfl : y = x := by simpa using h
      exact ⟨rfl, rfl, rfl⟩
    | succ j =>
      have h2 := ih (j := j) (by simpa using h)
      have e : rowsOf (y :: ys) = .int .u32 y.a :: .int .i64 y.l :: .int .i64 y.v :: rowsOf ys := rfl
      rw [e, show (j + 1) * 3 = j * 3 + 3 by omega]
      exact h2
set_option maxRecDepth 100000 in
set_option maxHeartbeats 4000000 in
theorem lookup_any (T lo : Nat) (M : TM) (nn : Int) (a : Nat) (w : World) (hT : TrieAt w T lo M nn) (ha : a < 4294967296) :
    Calls Tryz.prog 34 #[.pointer (some ⟨T, 0, none⟩), .int .u32 a] w fun e w' => e = GivesLook (longest (EM M) a) ∧ Below w.heap.size w w' := by
  obtain ⟨w1, hw1⟩ : ∃ w1, w.alloc (.cells #[.int .u32 0, .int .i64 0, .int .i64 0] 79) = w1 := ⟨_, rfl⟩
  have HBX : Hid (Blk w1 w.heap.size 79 [.int .u32 0, .int .i64 0, .int .i64 0]) := by show Blk _ _ _ _; rw [← hw1]; exact Blk.new w _ _
  have HB1 : Hid (Below w.heap.size w w1) := by show Below _ _ _; rw [← hw1]; exact belowA _ _
  have HA := Lib.hid (above_any T lo M nn a w1 (hT.below HB1.out) ha)
  have hlt1 : w.heap.size < w1.heap.size := HBX.out.lt
  obtain ⟨es, hes⟩ : ∃ es, entUp (EM M) a 33 = es := ⟨_, rfl⟩
  have hlen : es.length ≤ 33 := by rw [← hes]; exact entUp_le _ _ _
  unfold longest
  rw [hes] at HA ⊢
  clear hes hT
  go_enter Tryz.func34, Tryz.ntmps34
  go_wp2_with fail
  refine HA.out.mono ?_
  rintro e w2 ⟨A, c, rfl, ho, hb⟩
  clear HA hw1
  have HBX2 := Lib.hid (HBX.out.keep hb)
  have HB2 := Lib.hid (below3 HB1.out hb)
  have hsz2 := hb.size
  clear HBX HB1 hb
  obtain hz | ⟨j, x, hl, hx⟩ : es = [] ∨ ∃ j x, es.length = j + 1 ∧ es[j]? = some x := by
    cases hl : es.length with
    | zero => exact .inl (List.length_eq_zero_iff.1 hl)
    | succ j => exact .inr ⟨j, es[j]'(by omega), rfl, by rw [List.getElem?_eq_getElem (by omega)]⟩
  · subst hz
    obtain ⟨w3, hw3⟩ : ∃ w3, w2.setRow w.heap.size #[.int .u32 0, .int .i64 0, .int .i64 0] = w3 := ⟨_, rfl⟩
    have HB3 : Hid (Blk w3 w.heap.size 79 [.int .u32 0, .int .i64 0, .int .i64 0]) := by show Blk _ _ _ _; rw [← hw3]; exact HBX2.out.row _
    have HL3 : Hid (Below w.heap.size w w3) := by show Below _ _ _; rw [← hw3]; exact HB2.out.trans ((Save.row w.heap.size w2 _).below (Nat.le_refl _) HB2.out.size)
    go_wp2_with (refine wpList_store_blk rfl 79 _ _ rfl w.heap.size rfl rfl HBX2.out (by kernel_rfl) rfl (by kernel_rfl) ?_)
    try rw [hw3]
    refine bodyPost_ret (results_cell_row2 rfl _ w.heap.size _ rfl HB3.out Tryz.underlying79 rfl (by kernel_rfl)) rfl ⟨rfl, HL3.out⟩
  · have HR : Hid (es.getLast? = some x) := by
      show _ = _
      rw [List.getLast?_eq_getElem?, hl]
      exact hx
    have hc := Cells.of_own ho
    obtain ⟨q0, q1, q2⟩ := rowsOf_at es hx
    rw [hl] at hc ⊢
    obtain ⟨b, o, rfl, hbB, hcell⟩ := hc.2.2.2 (Nat.succ_pos _)
    have e0 : w2.cell? ⟨b, o + j * 3, none⟩ = some (.int .u32 x.a) := (hcell (j * 3) (by omega)).trans q0
    have e1 : w2.cell? ⟨b, o + j * 3 + 1, none⟩ = some (.int .i64 x.l) := by rw [Nat.add_assoc]; exact (hcell (j * 3 + 1) (by omega)).trans q1
    have e2 : w2.cell? ⟨b, o + j * 3 + 2, none⟩ = some (.int .i64 x.v) := by rw [Nat.add_assoc]; exact (hcell (j * 3 + 2) (by omega)).trans q2
    have hbw : b < w2.heap.size := hbB
    obtain ⟨w3, hw3⟩ : ∃ w3, w2.setRow w.heap.size #[.int .u32 x.a, .int .i64 x.l, .int .i64 x.v] = w3 := ⟨_, rfl⟩
    have HB3 : Hid (Blk w3 w.heap.size 79 [.int .u32 x.a, .int .i64 x.l, .int .i64 x.v]) := by show Blk _ _ _ _; rw [← hw3]; exact HBX2.out.row _
    have HL3 : Hid (Below w.heap.size w w3) := by show Below _ _ _; rw [← hw3]; exact HB2.out.trans ((Save.row w.heap.size w2 _).below (Nat.le_refl _) HB2.out.size)
    have hlen2 : j ≤ 32 := by omega
    have hidx : ((j + 1 : Nat) : Int) - 1 = (j : Int) := by omega
    clear ho hc hcell q0 q1 q2 hx hl hlen
    go_wp2_with (refine wpList_store_blk rfl 79 _ _ rfl w.heap.size rfl rfl HBX2.out (by kernel_rfl) rfl (by kernel_rfl) ?_)
    try rw [hw3]
    refine bodyPost_ret (results_cell_row2 rfl _ w.heap.size _ rfl HB3.out Tryz.underlying79 rfl (by kernel_rfl)) rfl ⟨by rw [HR.out]; rfl, HL3.out⟩
end Go.Proofs.YtplppbgkkfjknaaGreatDoor
