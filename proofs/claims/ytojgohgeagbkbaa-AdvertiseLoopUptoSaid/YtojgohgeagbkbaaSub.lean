/- Subject, the program's. -/
import Derived.Test.YtojgohgeagbkbaaIns
import Derived.Test.YtojgohgeagbkbaaEqI
import Derived.Deep.CutBlock
namespace Go.Proofs.Ytojgohgeagbkbaa
open Go.RowKit

set_option linter.unusedVariables false
set_option linter.unusedSimpArgs false
def protoR (k : Int) : Int := if (k == 1) = true then 6 else if ((k == 2) || (k == 3)) = true then 7 else 1
/-- a subject is returned -/
def GivesSub (spa spl spr shop spref smed smet stag : Int) (fl cms : List Int) (w : World) (e : Ending) (w' : World) : Prop :=
  ∃ (fA eA : Option Addr) (fn fc en ec : Nat), e = .returned (.agg #[.int .u32 spa, .int .i64 spl, .int .i64 spr, .int .u32 shop, .slice fA fn fc, .slice eA en ec, .int .i64 spref, .int .i64 smed, .int .i64 smet, .int .i64 stag]) ∧ Ints w' w'.heap.size .i64 fA fn fc fl ∧ Ints w' w'.heap.size .u32 eA en ec cms ∧ Below w.heap.size w w'
/-- numbers that lie from block lo on, and not in block b5 -/
def OffI (k : IntKind) (W : World) (lo b5 : Nat) (A : Option Addr) (n c : Nat) (xs : List Int) : Prop := Ints W W.heap.size k A n c xs ∧ (0 < n → ∀ ad, A = some ad → lo ≤ ad.block ∧ ad.block ≠ b5)
theorem OffI.save5 {k : IntKind} {W V : World} {lo b5 n c : Nat} {A : Option Addr} {xs : List Int} (h : OffI k W lo b5 A n c xs) (hs : Save b5 W V) : OffI k V lo b5 A n c xs := ⟨(ints_save h.1 hs (Nat.le_refl _) fun hn ad e => (h.2 hn ad e).2).more hs.size, h.2⟩
theorem OffI.low {k : IntKind} {W V : World} {lo b5 b n c : Nat} {A : Option Addr} {xs : List Int} (h : OffI k W lo b5 A n c xs) (hs : Save b W V) (hb : b < lo) : OffI k V lo b5 A n c xs := ⟨(ints_save h.1 hs (Nat.le_refl _) fun hn ad e => by have := (h.2 hn ad e).1; omega).more hs.size, h.2⟩
set_option maxRecDepth 100000 in
set_option maxHeartbeats 8000000 in
theorem subject_any (rpa rpl : Int) (og hop med pref aas aad ori : Int) (hm hp atm ha ho : Bool) (pA cA kA uA : Option Addr) (pn pc cn cc kn kc un uc : Nat) (p us : Path) (cm cl : List Int) (rpeer rkind rrtr : Int) (stale : Bool) (met : Int) (w : World) (hL : Lists w w.heap.size pA cA kA uA pn pc cn cc kn kc un uc p cm cl us) (hs : Sm p) :
    Calls Try.prog 17 #[.agg #[.int .u32 rpa, .int .i64 rpl, .int .i64 og, .slice pA pn pc, .int .u32 hop, .bool hm, .int .i64 med, .bool hp, .int .i64 pref, .bool atm, .bool ha, .int .i64 aas, .int .u32 aad, .slice cA cn cc, .bool ho, .int .u32 ori, .slice kA kn kc, .slice uA un uc, .int .i64 rpeer, .int .i64 rkind, .int .u32 rrtr, .bool stale], .int .i64 met] w (GivesSub rpa rpl (protoR rkind) hop (if hp = true then pref else 100) med met 0 (flat p) cm w) := by
  have HL := Lib.hid hL
  have HSM := Lib.hid hs
  obtain ⟨px, hpx⟩ : ∃ px, (if hp = true then pref else 100) = px := ⟨_, rfl⟩
  rw [hpx]
  have HPX := Lib.hid hpx
  clear hpx
  obtain ⟨w1, hw1⟩ : ∃ w1, (w.alloc (.cells #[.int .u32 rpa, .int .i64 rpl, .int .i64 og, .slice pA pn pc, .int .u32 hop, .bool hm, .int .i64 med, .bool hp, .int .i64 pref, .bool atm, .bool ha, .int .i64 aas, .int .u32 aad, .slice cA cn cc, .bool ho, .int .u32 ori, .slice kA kn kc, .slice uA un uc, .int .i64 rpeer, .int .i64 rkind, .int .u32 rrtr, .bool stale] 49)).alloc (.cells #[.int .u32 0, .int .i64 0, .int .i64 0, .int .u32 0, .slice none 0 0, .slice none 0 0, .int .i64 0, .int .i64 0, .int .i64 0, .int .i64 0] 54) = w1 := ⟨_, rfl⟩
  have hbA : Blk w1 w.heap.size 49 [.int .u32 rpa, .int .i64 rpl, .int .i64 og, .slice pA pn pc, .int .u32 hop, .bool hm, .int .i64 med, .bool hp, .int .i64 pref, .bool atm, .bool ha, .int .i64 aas, .int .u32 aad, .slice cA cn cc, .bool ho, .int .u32 ori, .slice kA kn kc, .slice uA un uc, .int .i64 rpeer, .int .i64 rkind, .int .u32 rrtr, .bool stale] := by rw [← hw1]; exact (Blk.new w _ _).keep (belowA _ _)
  have hbZ : Blk w1 (w.heap.size + 1) 54 [.int .u32 0, .int .i64 0, .int .i64 0, .int .u32 0, .slice none 0 0, .slice none 0 0, .int .i64 0, .int .i64 0, .int .i64 0, .int .i64 0] := by rw [← hw1]; exact Blk.new2 w _ _ _
  have hb1 : Below w.heap.size w w1 := by rw [← hw1]; exact below3 (belowA _ _) (belowA _ _)
  have HB1 := Lib.hid hb1
  have HKA := Lib.hid hbA
  have HKZ := Lib.hid hbZ
  have HL1 := Lib.hid (HL.out.grow hb1 (Nat.le_refl _))
  clear hL hs hbA hbZ hb1
  go_enter Try.func17, Try.ntmps17
  go_upto_region 1 with fail
  try rw [hw1]
  have hpn : pn ≤ 1000000 := by have h1 := HL.out.path.len; have h2 := HSM.out; unfold Sm at h2; omega
  have hfl : (flat p).length ≤ 1000000 := by have h2 := HSM.out; unfold Sm at h2; omega
  have hcn : cn ≤ 1000000000 := HL.out.small.2.1
  have hz1 : w.heap.size + 1 < w1.heap.size := HKZ.out.lt
  clear hw1
  go_cut [5] (fun v wx => ∃ (b5 : Nat) (fA eA : Option Addr) (fc ec : Nat), v = .pointer (some ⟨b5, 0, none⟩) ∧ w1.heap.size ≤ b5 ∧ Hid (Blk wx b5 54 [.int .u32 rpa, .int .i64 rpl, .int .i64 1, .int .u32 hop, .slice fA (flat p).length fc, .slice eA cn ec, .int .i64 100, .int .i64 med, .int .i64 met, .int .i64 0]) ∧
    Hid (OffI .i64 wx w1.heap.size b5 fA (flat p).length fc (flat p)) ∧ Hid (OffI .u32 wx w1.heap.size b5 eA cn ec cm) ∧ Below w1.heap.size w1 wx)
  case first =>
    have HS : Hid (∀ V, Below w1.heap.size w1 V → V.cell? ⟨w.heap.size, 0, none⟩ = some (.int .u32 rpa) ∧ V.cell? ⟨w.heap.size, 1, none⟩ = some (.int .i64 rpl) ∧ V.cell? ⟨w.heap.size, 2, none⟩ = some (.int .i64 og) ∧ V.cell? ⟨w.heap.size, 3, none⟩ = some (.slice pA pn pc) ∧ V.cell? ⟨w.heap.size, 4, none⟩ = some (.int .u32 hop) ∧ V.cell? ⟨w.heap.size, 5, none⟩ = some (.bool hm) ∧ V.cell? ⟨w.heap.size, 6, none⟩ = some (.int .i64 med) ∧ V.cell? ⟨w.heap.size, 7, none⟩ = some (.bool hp) ∧ V.cell? ⟨w.heap.size, 8, none⟩ = some (.int .i64 pref) ∧ V.cell? ⟨w.heap.size, 9, none⟩ = some (.bool atm) ∧ V.cell? ⟨w.heap.size, 10, none⟩ = some (.bool ha) ∧ V.cell? ⟨w.heap.size, 11, none⟩ = some (.int .i64 aas) ∧ V.cell? ⟨w.heap.size, 12, none⟩ = some (.int .u32 aad) ∧ V.cell? ⟨w.heap.size, 13, none⟩ = some (.slice cA cn cc) ∧ V.cell? ⟨w.heap.size, 14, none⟩ = some (.bool ho) ∧ V.cell? ⟨w.heap.size, 15, none⟩ = some (.int .u32 ori) ∧ V.cell? ⟨w.heap.size, 16, none⟩ = some (.slice kA kn kc) ∧ V.cell? ⟨w.heap.size, 17, none⟩ = some (.slice uA un uc) ∧ V.cell? ⟨w.heap.size, 18, none⟩ = some (.int .i64 rpeer) ∧ V.cell? ⟨w.heap.size, 19, none⟩ = some (.int .i64 rkind) ∧ V.cell? ⟨w.heap.size, 20, none⟩ = some (.int .u32 rrtr) ∧ V.cell? ⟨w.heap.size, 21, none⟩ = some (.bool stale)) := fun V h => by
      have hk := HKA.out.keep h
      exact ⟨hk.cell 0, hk.cell 1, hk.cell 2, hk.cell 3, hk.cell 4, hk.cell 5, hk.cell 6, hk.cell 7, hk.cell 8, hk.cell 9, hk.cell 10, hk.cell 11, hk.cell 12, hk.cell 13, hk.cell 14, hk.cell 15, hk.cell 16, hk.cell 17, hk.cell 18, hk.cell 19, hk.cell 20, hk.cell 21⟩
    have HCUR : Hid (Below w1.heap.size w1 w1.drew) := (Below.refl _ _).drew
    refine wp_region_noPanic ?_
    refine wp_region_held_drew (S := fun V => V.cell? ⟨w.heap.size, 0, none⟩ = some (.int .u32 rpa) ∧ V.cell? ⟨w.heap.size, 1, none⟩ = some (.int .i64 rpl) ∧ V.cell? ⟨w.heap.size, 2, none⟩ = some (.int .i64 og) ∧ V.cell? ⟨w.heap.size, 3, none⟩ = some (.slice pA pn pc) ∧ V.cell? ⟨w.heap.size, 4, none⟩ = some (.int .u32 hop) ∧ V.cell? ⟨w.heap.size, 5, none⟩ = some (.bool hm) ∧ V.cell? ⟨w.heap.size, 6, none⟩ = some (.int .i64 med) ∧ V.cell? ⟨w.heap.size, 7, none⟩ = some (.bool hp) ∧ V.cell? ⟨w.heap.size, 8, none⟩ = some (.int .i64 pref) ∧ V.cell? ⟨w.heap.size, 9, none⟩ = some (.bool atm) ∧ V.cell? ⟨w.heap.size, 10, none⟩ = some (.bool ha) ∧ V.cell? ⟨w.heap.size, 11, none⟩ = some (.int .i64 aas) ∧ V.cell? ⟨w.heap.size, 12, none⟩ = some (.int .u32 aad) ∧ V.cell? ⟨w.heap.size, 13, none⟩ = some (.slice cA cn cc) ∧ V.cell? ⟨w.heap.size, 14, none⟩ = some (.bool ho) ∧ V.cell? ⟨w.heap.size, 15, none⟩ = some (.int .u32 ori) ∧ V.cell? ⟨w.heap.size, 16, none⟩ = some (.slice kA kn kc) ∧ V.cell? ⟨w.heap.size, 17, none⟩ = some (.slice uA un uc) ∧ V.cell? ⟨w.heap.size, 18, none⟩ = some (.int .i64 rpeer) ∧ V.cell? ⟨w.heap.size, 19, none⟩ = some (.int .i64 rkind) ∧ V.cell? ⟨w.heap.size, 20, none⟩ = some (.int .u32 rrtr) ∧ V.cell? ⟨w.heap.size, 21, none⟩ = some (.bool stale)) (by kernel_rfl) (HS.out _ HCUR.out) (fun hHeld => ?_)
    refine take_in (i := 0) _ (some 6) (by kernel_rfl) (by kernel_rfl) (by kernel_rfl) (by kernel_rfl) (fun _ _ _ h => h) (by rfl) (fun o ho w hSw => by cases ho; (try dsimp only at hSw); (try go_split_ands); go_simp; (try with_reducible rfl)) hHeld ?_
    try simp only [Act.put, List.setIfInBounds_toArray, List.set_cons_zero, List.set_cons_succ]
    refine take_in (i := 1) _ (some 7) (by kernel_rfl) (by kernel_rfl) (by kernel_rfl) (by kernel_rfl) (fun _ _ _ h => h) (by rfl) (fun o ho w hSw => by cases ho; (try dsimp only at hSw); (try go_split_ands); go_simp; (try with_reducible rfl)) hHeld ?_
    try simp only [Act.put, List.setIfInBounds_toArray, List.set_cons_zero, List.set_cons_succ]
    refine take_in (i := 2) _ (some 8) (by kernel_rfl) (by kernel_rfl) (by kernel_rfl) (by kernel_rfl) (fun _ _ _ h => h) (by rfl) (fun o ho w hSw => by cases ho; (try dsimp only at hSw); (try go_split_ands); go_simp; (try with_reducible rfl)) hHeld ?_
    try simp only [Act.put, List.setIfInBounds_toArray, List.set_cons_zero, List.set_cons_succ]
    refine take_in (i := 3) _ (some 9) (by kernel_rfl) (by kernel_rfl) (by kernel_rfl) (by kernel_rfl) (fun _ _ _ h => h) (by rfl) (fun o ho w hSw => by cases ho; (try dsimp only at hSw); (try go_split_ands); go_simp; (try with_reducible rfl)) hHeld ?_
    try simp only [Act.put, List.setIfInBounds_toArray, List.set_cons_zero, List.set_cons_succ]
    refine take_in (i := 4) _ (some 10) (by kernel_rfl) (by kernel_rfl) (by kernel_rfl) (by kernel_rfl) (fun _ _ _ h => h) (by rfl) (fun o ho w hSw => by cases ho; (try dsimp only at hSw); (try go_split_ands); go_simp; (try with_reducible rfl)) hHeld ?_
    try simp only [Act.put, List.setIfInBounds_toArray, List.set_cons_zero, List.set_cons_succ]
    refine take_in (i := 5) _ (some 11) (by kernel_rfl) (by kernel_rfl) (by kernel_rfl) (by kernel_rfl) (fun _ _ _ h => h) (by rfl) (fun o ho w hSw => by cases ho; (try dsimp only at hSw); (try go_split_ands); go_simp; (try with_reducible rfl)) hHeld ?_
    try simp only [Act.put, List.setIfInBounds_toArray, List.set_cons_zero, List.set_cons_succ]
    refine take_in (i := 6) _ (some 12) (by kernel_rfl) (by kernel_rfl) (by kernel_rfl) (by kernel_rfl) (fun _ _ _ h => h) (by rfl) (fun o ho w hSw => by cases ho; (try dsimp only at hSw); (try go_split_ands); go_simp; (try with_reducible rfl)) hHeld ?_
    try simp only [Act.put, List.setIfInBounds_toArray, List.set_cons_zero, List.set_cons_succ]
    refine take_in (i := 7) _ (some 13) (by kernel_rfl) (by kernel_rfl) (by kernel_rfl) (by kernel_rfl) (fun _ _ _ h => h) (by rfl) (fun o ho w hSw => by cases ho; (try dsimp only at hSw); (try go_split_ands); go_simp; (try with_reducible rfl)) hHeld ?_
    try simp only [Act.put, List.setIfInBounds_toArray, List.set_cons_zero, List.set_cons_succ]
    refine take_in (i := 9) _ (some 15) (by kernel_rfl) (by kernel_rfl) (by kernel_rfl) (by kernel_rfl) (fun _ _ _ h => h) (by rfl) (fun o ho w hSw => by cases ho; (try dsimp only at hSw); (try go_split_ands); go_simp; (try with_reducible rfl)) hHeld ?_
    try simp only [Act.put, List.setIfInBounds_toArray, List.set_cons_zero, List.set_cons_succ]
    refine take_in (i := 10) _ (some 16) (by kernel_rfl) (by kernel_rfl) (by kernel_rfl) (by kernel_rfl) (fun _ _ _ h => h) (by rfl) (fun o ho w hSw => by cases ho; (try dsimp only at hSw); (try go_split_ands); go_simp; (try with_reducible rfl)) hHeld ?_
    try simp only [Act.put, List.setIfInBounds_toArray, List.set_cons_zero, List.set_cons_succ]
    refine take_in (i := 11) _ (some 17) (by kernel_rfl) (by kernel_rfl) (by kernel_rfl) (by kernel_rfl) (fun _ _ _ h => h) (by rfl) (fun o ho w hSw => by cases ho; (try dsimp only at hSw); (try go_split_ands); go_simp; (try with_reducible rfl)) hHeld ?_
    try simp only [Act.put, List.setIfInBounds_toArray, List.set_cons_zero, List.set_cons_succ]
    refine take_in (i := 13) _ (some 19) (by kernel_rfl) (by kernel_rfl) (by kernel_rfl) (by kernel_rfl) (fun _ _ _ h => h) (by rfl) (fun o ho w hSw => by cases ho; (try dsimp only at hSw); (try go_split_ands); go_simp; (try with_reducible rfl)) hHeld ?_
    try simp only [Act.put, List.setIfInBounds_toArray, List.set_cons_zero, List.set_cons_succ]
    refine take_in (i := 14) _ (some 20) (by kernel_rfl) (by kernel_rfl) (by kernel_rfl) (by kernel_rfl) (fun _ _ _ h => h) (by rfl) (fun o ho w hSw => by cases ho; (try dsimp only at hSw); (try go_split_ands); go_simp; (try with_reducible rfl)) hHeld ?_
    try simp only [Act.put, List.setIfInBounds_toArray, List.set_cons_zero, List.set_cons_succ]
    refine take_in (i := 15) _ (some 21) (by kernel_rfl) (by kernel_rfl) (by kernel_rfl) (by kernel_rfl) (fun _ _ _ h => h) (by rfl) (fun o ho w hSw => by cases ho; (try dsimp only at hSw); (try go_split_ands); go_simp; (try with_reducible rfl)) hHeld ?_
    try simp only [Act.put, List.setIfInBounds_toArray, List.set_cons_zero, List.set_cons_succ]
    refine take_in (i := 16) _ (some 22) (by kernel_rfl) (by kernel_rfl) (by kernel_rfl) (by kernel_rfl) (fun _ _ _ h => h) (by rfl) (fun o ho w hSw => by cases ho; (try dsimp only at hSw); (try go_split_ands); go_simp; (try with_reducible rfl)) hHeld ?_
    try simp only [Act.put, List.setIfInBounds_toArray, List.set_cons_zero, List.set_cons_succ]
    refine wpAnyH_ready (rs := [8, 18]) (by kernel_rfl) (by simp) ?_
    refine AllReadyH.cons (o := _) rfl (fun K hK => ?_) (AllReadyH.cons (o := _) rfl (fun K hK => ?_) AllReadyH.nil)
    · go_simp
      go_at_call 43
      with_reducible refine (flat_any pA pn pc p _ (HL1.out.grow HCUR.out (Nat.le_refl _)).path (by omega) (by omega)).mono ?_
      rintro e wX ⟨fA, fc, rfl, ho, hb⟩
      have HFLn := Lib.hid ho.ints
      have hab := above_own ho
      have HFA : Hid (Above w1.heap.size fA (flat p).length) := fun hn ad e => Nat.le_trans HCUR.out.size (hab hn ad e)
      have HCUR2 := Lib.hid (below3 HCUR.out hb)
      clear HCUR 
      have HCUR := HCUR2
      clear HCUR2 
      have HFL := HFLn
      clear HFLn ho hb hab
      refine hK.out _ _ (HS.out _ HCUR.out) (fun hHeld => ?_)
      clear hK K
      try simp only [Act.put, List.setIfInBounds_toArray, List.set_cons_zero, List.set_cons_succ]
      refine wpAnyH_ready (rs := [12, 18]) (by kernel_rfl) (by simp) ?_
      refine AllReadyH.cons (o := _) rfl (fun K hK => ?_) (AllReadyH.cons (o := _) rfl (fun K hK => ?_) AllReadyH.nil)
      · go_simp
        go_at_call 44
        with_reducible refine (dupl_any cA none cn cc 0 0 _ cm [] _ (HL1.out.grow HCUR.out (Nat.le_refl _)).comm (Ints.nil _ _ _) (Nat.le_refl _) (by omega) (by omega)).mono ?_
        rintro e wY ⟨eA, ec, rfl, hi, hab, hb⟩
        rw [List.nil_append, Nat.zero_add] at hi
        rw [Nat.zero_add] at hab
        have HCMn := Lib.hid hi
        have HCA : Hid (Above w1.heap.size eA cn) := fun hn ad e => Nat.le_trans HCUR.out.size (hab hn ad e)
        have HCUR2 := Lib.hid (below3 HCUR.out hb)
        have HFL2 := Lib.hid ((HFL.out.below hb).more hb.size)
        clear HCUR HFL
        have HCUR := HCUR2
        have HFL := HFL2
        clear HCUR2 HFL2
        have HCM := HCMn
        clear HCMn hi hb hab
        refine hK.out _ _ (HS.out _ HCUR.out) (fun hHeld => ?_)
        clear hK K
        try simp only [Act.put, List.setIfInBounds_toArray, List.set_cons_zero, List.set_cons_succ]
        refine take_in (i := 17) _ (some 23) (by kernel_rfl) (by kernel_rfl) (by kernel_rfl) (by kernel_rfl) (fun _ _ _ h => h) (by rfl) (fun o ho w hSw => by cases ho; (try dsimp only at hSw); (try go_split_ands); go_simp; (try with_reducible rfl)) hHeld ?_
        try simp only [Act.put, List.setIfInBounds_toArray, List.set_cons_zero, List.set_cons_succ]
        refine wpAnyH_ready (rs := [18]) (by kernel_rfl) (by simp) ?_
        refine AllReadyH.cons (o := _) rfl (fun K hK => ?_) AllReadyH.nil
        go_simp
        obtain ⟨b5, hb5⟩ : ∃ b5, wY.heap.size = b5 := ⟨_, rfl⟩
        have HFO : Hid (0 < (flat p).length → ∀ ad, fA = some ad → ad.block ≠ b5) := fun hn ad e => by
          obtain ⟨b, o, e2, hb2, _⟩ := HFL.out.2.2.2 hn
          rw [e] at e2
          injection e2 with e2
          subst e2
          dsimp only
          omega
        have HCO : Hid (0 < cn → ∀ ad, eA = some ad → ad.block ≠ b5) := fun hn ad e => by
          obtain ⟨b, o, e2, hb2, _⟩ := HCM.out.2.2.2 hn
          rw [e] at e2
          injection e2 with e2
          subst e2
          dsimp only
          omega
        obtain ⟨wA, hwA⟩ : ∃ wA, wY.alloc (.cells #[.int .u32 0, .int .i64 0, .int .i64 0, .int .u32 0, .slice none 0 0, .slice none 0 0, .int .i64 0, .int .i64 0, .int .i64 0, .int .i64 0] 54) = wA := ⟨_, rfl⟩
        have HB5n : Hid (Blk wA b5 54 [.int .u32 0, .int .i64 0, .int .i64 0, .int .u32 0, .slice none 0 0, .slice none 0 0, .int .i64 0, .int .i64 0, .int .i64 0, .int .i64 0]) := by
          show Blk _ _ _ _
          rw [← hwA, ← hb5]
          exact Blk.new wY _ _
        have HN5 : Hid (w1.heap.size ≤ b5) := by
          show _ ≤ _
          rw [← hb5]
          have h1 := HCUR.out.size
          omega
        have hb : Below wY.heap.size wY wA := by
          rw [← hwA]
          exact belowA _ _
        rw [hwA, hb5]
        have HCUR2 := Lib.hid (below3 HCUR.out hb)
        have HFL2 := Lib.hid ((HFL.out.below hb).more hb.size)
        have HCM2 := Lib.hid ((HCM.out.below hb).more hb.size)
        clear HCUR HFL HCM
        have HCUR := HCUR2
        have HFL := HFL2
        have HCM := HCM2
        clear HCUR2 HFL2 HCM2
        have HB5 := HB5n
        clear HB5n hb hb5 hwA
        refine hK.out _ _ (HS.out _ HCUR.out) (fun hHeld => ?_)
        clear hK K
        try simp only [Act.put, List.setIfInBounds_toArray, List.set_cons_zero, List.set_cons_succ]
        refine wpAnyH_ready (rs := [19]) (by kernel_rfl) (by simp) ?_
        refine AllReadyH.cons (o := _) rfl (fun K hK => ?_) AllReadyH.nil
        obtain ⟨wZ, hwZ⟩ : ∃ wZ, wA.setRow b5 #[.int .u32 rpa, .int .i64 rpl, .int .i64 1, .int .u32 hop, .slice fA (flat p).length fc, .slice eA cn ec, .int .i64 100, .int .i64 med, .int .i64 met, .int .i64 0] = wZ := ⟨_, rfl⟩
        have hsZ : Save b5 wA wZ := by rw [← hwZ]; exact Save.row _ _ _
        have HBZ : Hid (Blk wZ b5 54 [.int .u32 rpa, .int .i64 rpl, .int .i64 1, .int .u32 hop, .slice fA (flat p).length fc, .slice eA cn ec, .int .i64 100, .int .i64 med, .int .i64 met, .int .i64 0]) := by
          show Blk _ _ _ _
          rw [← hwZ]
          exact HB5.out.row _
        rw [if_pos (by rfl)]
        refine wp_store_row 54 _ _ rfl b5 #[.int .u32 rpa, .int .i64 rpl, .int .i64 1, .int .u32 hop, .slice fA (flat p).length fc, .slice eA cn ec, .int .i64 100, .int .i64 med, .int .i64 met, .int .i64 0] rfl rfl 54 _ HB5.out (by kernel_rfl) rfl (by kernel_rfl) ?_
        rw [hwZ]
        have hSZ : wZ.cell? ⟨w.heap.size, 0, none⟩ = some (.int .u32 rpa) ∧ wZ.cell? ⟨w.heap.size, 1, none⟩ = some (.int .i64 rpl) ∧ wZ.cell? ⟨w.heap.size, 2, none⟩ = some (.int .i64 og) ∧ wZ.cell? ⟨w.heap.size, 3, none⟩ = some (.slice pA pn pc) ∧ wZ.cell? ⟨w.heap.size, 4, none⟩ = some (.int .u32 hop) ∧ wZ.cell? ⟨w.heap.size, 5, none⟩ = some (.bool hm) ∧ wZ.cell? ⟨w.heap.size, 6, none⟩ = some (.int .i64 med) ∧ wZ.cell? ⟨w.heap.size, 7, none⟩ = some (.bool hp) ∧ wZ.cell? ⟨w.heap.size, 8, none⟩ = some (.int .i64 pref) ∧ wZ.cell? ⟨w.heap.size, 9, none⟩ = some (.bool atm) ∧ wZ.cell? ⟨w.heap.size, 10, none⟩ = some (.bool ha) ∧ wZ.cell? ⟨w.heap.size, 11, none⟩ = some (.int .i64 aas) ∧ wZ.cell? ⟨w.heap.size, 12, none⟩ = some (.int .u32 aad) ∧ wZ.cell? ⟨w.heap.size, 13, none⟩ = some (.slice cA cn cc) ∧ wZ.cell? ⟨w.heap.size, 14, none⟩ = some (.bool ho) ∧ wZ.cell? ⟨w.heap.size, 15, none⟩ = some (.int .u32 ori) ∧ wZ.cell? ⟨w.heap.size, 16, none⟩ = some (.slice kA kn kc) ∧ wZ.cell? ⟨w.heap.size, 17, none⟩ = some (.slice uA un uc) ∧ wZ.cell? ⟨w.heap.size, 18, none⟩ = some (.int .i64 rpeer) ∧ wZ.cell? ⟨w.heap.size, 19, none⟩ = some (.int .i64 rkind) ∧ wZ.cell? ⟨w.heap.size, 20, none⟩ = some (.int .u32 rrtr) ∧ wZ.cell? ⟨w.heap.size, 21, none⟩ = some (.bool stale) := by
          have hk := (HKA.out.keep HCUR.out).save hsZ (by have h5 := HN5.out; omega)
          exact ⟨hk.cell 0, hk.cell 1, hk.cell 2, hk.cell 3, hk.cell 4, hk.cell 5, hk.cell 6, hk.cell 7, hk.cell 8, hk.cell 9, hk.cell 10, hk.cell 11, hk.cell 12, hk.cell 13, hk.cell 14, hk.cell 15, hk.cell 16, hk.cell 17, hk.cell 18, hk.cell 19, hk.cell 20, hk.cell 21⟩
        refine hK.out _ _ hSZ (fun hHeld => ?_)
        clear hK K
        try simp only [Act.put, List.setIfInBounds_toArray, List.set_cons_zero, List.set_cons_succ]
        refine wpAnyH_done (by kernel_rfl) ?_ _
        refine NoPanic.normal ?_
        go_wp2
        go_meet
        have lb := HB5.out.lt
        exact ⟨b5, fA, eA, fc, ec, rfl, HN5.out, HBZ, OffI.save5 ⟨HFL.out, fun hn ad e => ⟨HFA.out hn ad e, HFO.out hn ad e⟩⟩ hsZ, OffI.save5 ⟨HCM.out, fun hn ad e => ⟨HCA.out hn ad e, HCO.out hn ad e⟩⟩ hsZ, HCUR.out.trans (hsZ.below HN5.out (Nat.le_trans HN5.out (Nat.le_of_lt lb)))⟩
      · go_simp
        obtain ⟨b5, hb5⟩ : ∃ b5, wX.heap.size = b5 := ⟨_, rfl⟩
        have HFO : Hid (0 < (flat p).length → ∀ ad, fA = some ad → ad.block ≠ b5) := fun hn ad e => by
          obtain ⟨b, o, e2, hb2, _⟩ := HFL.out.2.2.2 hn
          rw [e] at e2
          injection e2 with e2
          subst e2
          dsimp only
          omega
        obtain ⟨wA, hwA⟩ : ∃ wA, wX.alloc (.cells #[.int .u32 0, .int .i64 0, .int .i64 0, .int .u32 0, .slice none 0 0, .slice none 0 0, .int .i64 0, .int .i64 0, .int .i64 0, .int .i64 0] 54) = wA := ⟨_, rfl⟩
        have HB5n : Hid (Blk wA b5 54 [.int .u32 0, .int .i64 0, .int .i64 0, .int .u32 0, .slice none 0 0, .slice none 0 0, .int .i64 0, .int .i64 0, .int .i64 0, .int .i64 0]) := by
          show Blk _ _ _ _
          rw [← hwA, ← hb5]
          exact Blk.new wX _ _
        have HN5 : Hid (w1.heap.size ≤ b5) := by
          show _ ≤ _
          rw [← hb5]
          have h1 := HCUR.out.size
          omega
        have hb : Below wX.heap.size wX wA := by
          rw [← hwA]
          exact belowA _ _
        rw [hwA, hb5]
        have HCUR2 := Lib.hid (below3 HCUR.out hb)
        have HFL2 := Lib.hid ((HFL.out.below hb).more hb.size)
        clear HCUR HFL
        have HCUR := HCUR2
        have HFL := HFL2
        clear HCUR2 HFL2
        have HB5 := HB5n
        clear HB5n hb hb5 hwA
        refine hK.out _ _ (HS.out _ HCUR.out) (fun hHeld => ?_)
        clear hK K
        try simp only [Act.put, List.setIfInBounds_toArray, List.set_cons_zero, List.set_cons_succ]
        refine wpAnyH_ready (rs := [12]) (by kernel_rfl) (by simp) ?_
        refine AllReadyH.cons (o := _) rfl (fun K hK => ?_) AllReadyH.nil
        go_simp
        go_at_call 44
        with_reducible refine (dupl_any cA none cn cc 0 0 _ cm [] _ (HL1.out.grow HCUR.out (Nat.le_refl _)).comm (Ints.nil _ _ _) (Nat.le_refl _) (by omega) (by omega)).mono ?_
        rintro e wY ⟨eA, ec, rfl, hi, hab, hb⟩
        rw [List.nil_append, Nat.zero_add] at hi
        rw [Nat.zero_add] at hab
        have HCMn := Lib.hid hi
        have HCA : Hid (Above w1.heap.size eA cn) := fun hn ad e => Nat.le_trans HCUR.out.size (hab hn ad e)
        have HCO : Hid (0 < cn → ∀ ad, eA = some ad → ad.block ≠ b5) := fun hn ad e => by have h1 := hab hn ad e; have h2 := HB5.out.lt; omega
        have HCUR2 := Lib.hid (below3 HCUR.out hb)
        have HFL2 := Lib.hid ((HFL.out.below hb).more hb.size)
        have HB52 := Lib.hid (HB5.out.keep hb)
        clear HCUR HFL HB5
        have HCUR := HCUR2
        have HFL := HFL2
        have HB5 := HB52
        clear HCUR2 HFL2 HB52
        have HCM := HCMn
        clear HCMn hi hb hab
        refine hK.out _ _ (HS.out _ HCUR.out) (fun hHeld => ?_)
        clear hK K
        try simp only [Act.put, List.setIfInBounds_toArray, List.set_cons_zero, List.set_cons_succ]
        refine take_in (i := 17) _ (some 23) (by kernel_rfl) (by kernel_rfl) (by kernel_rfl) (by kernel_rfl) (fun _ _ _ h => h) (by rfl) (fun o ho w hSw => by cases ho; (try dsimp only at hSw); (try go_split_ands); go_simp; (try with_reducible rfl)) hHeld ?_
        try simp only [Act.put, List.setIfInBounds_toArray, List.set_cons_zero, List.set_cons_succ]
        refine wpAnyH_ready (rs := [19]) (by kernel_rfl) (by simp) ?_
        refine AllReadyH.cons (o := _) rfl (fun K hK => ?_) AllReadyH.nil
        obtain ⟨wZ, hwZ⟩ : ∃ wZ, wY.setRow b5 #[.int .u32 rpa, .int .i64 rpl, .int .i64 1, .int .u32 hop, .slice fA (flat p).length fc, .slice eA cn ec, .int .i64 100, .int .i64 med, .int .i64 met, .int .i64 0] = wZ := ⟨_, rfl⟩
        have hsZ : Save b5 wY wZ := by rw [← hwZ]; exact Save.row _ _ _
        have HBZ : Hid (Blk wZ b5 54 [.int .u32 rpa, .int .i64 rpl, .int .i64 1, .int .u32 hop, .slice fA (flat p).length fc, .slice eA cn ec, .int .i64 100, .int .i64 med, .int .i64 met, .int .i64 0]) := by
          show Blk _ _ _ _
          rw [← hwZ]
          exact HB5.out.row _
        rw [if_pos (by rfl)]
        refine wp_store_row 54 _ _ rfl b5 #[.int .u32 rpa, .int .i64 rpl, .int .i64 1, .int .u32 hop, .slice fA (flat p).length fc, .slice eA cn ec, .int .i64 100, .int .i64 med, .int .i64 met, .int .i64 0] rfl rfl 54 _ HB5.out (by kernel_rfl) rfl (by kernel_rfl) ?_
        rw [hwZ]
        have hSZ : wZ.cell? ⟨w.heap.size, 0, none⟩ = some (.int .u32 rpa) ∧ wZ.cell? ⟨w.heap.size, 1, none⟩ = some (.int .i64 rpl) ∧ wZ.cell? ⟨w.heap.size, 2, none⟩ = some (.int .i64 og) ∧ wZ.cell? ⟨w.heap.size, 3, none⟩ = some (.slice pA pn pc) ∧ wZ.cell? ⟨w.heap.size, 4, none⟩ = some (.int .u32 hop) ∧ wZ.cell? ⟨w.heap.size, 5, none⟩ = some (.bool hm) ∧ wZ.cell? ⟨w.heap.size, 6, none⟩ = some (.int .i64 med) ∧ wZ.cell? ⟨w.heap.size, 7, none⟩ = some (.bool hp) ∧ wZ.cell? ⟨w.heap.size, 8, none⟩ = some (.int .i64 pref) ∧ wZ.cell? ⟨w.heap.size, 9, none⟩ = some (.bool atm) ∧ wZ.cell? ⟨w.heap.size, 10, none⟩ = some (.bool ha) ∧ wZ.cell? ⟨w.heap.size, 11, none⟩ = some (.int .i64 aas) ∧ wZ.cell? ⟨w.heap.size, 12, none⟩ = some (.int .u32 aad) ∧ wZ.cell? ⟨w.heap.size, 13, none⟩ = some (.slice cA cn cc) ∧ wZ.cell? ⟨w.heap.size, 14, none⟩ = some (.bool ho) ∧ wZ.cell? ⟨w.heap.size, 15, none⟩ = some (.int .u32 ori) ∧ wZ.cell? ⟨w.heap.size, 16, none⟩ = some (.slice kA kn kc) ∧ wZ.cell? ⟨w.heap.size, 17, none⟩ = some (.slice uA un uc) ∧ wZ.cell? ⟨w.heap.size, 18, none⟩ = some (.int .i64 rpeer) ∧ wZ.cell? ⟨w.heap.size, 19, none⟩ = some (.int .i64 rkind) ∧ wZ.cell? ⟨w.heap.size, 20, none⟩ = some (.int .u32 rrtr) ∧ wZ.cell? ⟨w.heap.size, 21, none⟩ = some (.bool stale) := by
          have hk := (HKA.out.keep HCUR.out).save hsZ (by have h5 := HN5.out; omega)
          exact ⟨hk.cell 0, hk.cell 1, hk.cell 2, hk.cell 3, hk.cell 4, hk.cell 5, hk.cell 6, hk.cell 7, hk.cell 8, hk.cell 9, hk.cell 10, hk.cell 11, hk.cell 12, hk.cell 13, hk.cell 14, hk.cell 15, hk.cell 16, hk.cell 17, hk.cell 18, hk.cell 19, hk.cell 20, hk.cell 21⟩
        refine hK.out _ _ hSZ (fun hHeld => ?_)
        clear hK K
        try simp only [Act.put, List.setIfInBounds_toArray, List.set_cons_zero, List.set_cons_succ]
        refine wpAnyH_done (by kernel_rfl) ?_ _
        refine NoPanic.normal ?_
        go_wp2
        go_meet
        have lb := HB5.out.lt
        exact ⟨b5, fA, eA, fc, ec, rfl, HN5.out, HBZ, OffI.save5 ⟨HFL.out, fun hn ad e => ⟨HFA.out hn ad e, HFO.out hn ad e⟩⟩ hsZ, OffI.save5 ⟨HCM.out, fun hn ad e => ⟨HCA.out hn ad e, HCO.out hn ad e⟩⟩ hsZ, HCUR.out.trans (hsZ.below HN5.out (Nat.le_trans HN5.out (Nat.le_of_lt lb)))⟩
    · go_simp
      obtain ⟨b5, hb5⟩ : ∃ b5, w1.heap.size = b5 := ⟨_, rfl⟩
      obtain ⟨wA, hwA⟩ : ∃ wA, (w1.alloc (.cells #[.int .u32 0, .int .i64 0, .int .i64 0, .int .u32 0, .slice none 0 0, .slice none 0 0, .int .i64 0, .int .i64 0, .int .i64 0, .int .i64 0] 54)).drew = wA := ⟨_, rfl⟩
      have HB5n : Hid (Blk wA b5 54 [.int .u32 0, .int .i64 0, .int .i64 0, .int .u32 0, .slice none 0 0, .slice none 0 0, .int .i64 0, .int .i64 0, .int .i64 0, .int .i64 0]) := by
        show Blk _ _ _ _
        rw [← hwA, ← hb5]
        exact Blk.new w1 _ _
      have HN5 : Hid (w1.heap.size ≤ b5) := by
        show _ ≤ _
        rw [← hb5]
        have h1 := HCUR.out.size
        omega
      have hb : Below w1.heap.size w1.drew wA := by
        rw [← hwA]
        exact (fun (h : Below w1.heap.size w1 _) => ⟨h.os, h.tape, h.output, h.size, h.block⟩) (belowA w1 (.cells #[.int .u32 0, .int .i64 0, .int .i64 0, .int .u32 0, .slice none 0 0, .slice none 0 0, .int .i64 0, .int .i64 0, .int .i64 0, .int .i64 0] 54)).drew
      rw [hwA, hb5]
      have HCUR2 := Lib.hid (below3 HCUR.out hb)
      clear HCUR 
      have HCUR := HCUR2
      clear HCUR2 
      have HB5 := HB5n
      clear HB5n hb hb5 hwA
      refine hK.out _ _ (HS.out _ HCUR.out) (fun hHeld => ?_)
      clear hK K
      try simp only [Act.put, List.setIfInBounds_toArray, List.set_cons_zero, List.set_cons_succ]
      refine wpAnyH_ready (rs := [8]) (by kernel_rfl) (by simp) ?_
      refine AllReadyH.cons (o := _) rfl (fun K hK => ?_) AllReadyH.nil
      go_simp
      go_at_call 43
      with_reducible refine (flat_any pA pn pc p _ (HL1.out.grow HCUR.out (Nat.le_refl _)).path (by omega) (by omega)).mono ?_
      rintro e wX ⟨fA, fc, rfl, ho, hb⟩
      have HFLn := Lib.hid ho.ints
      have hab := above_own ho
      have HFA : Hid (Above w1.heap.size fA (flat p).length) := fun hn ad e => Nat.le_trans HCUR.out.size (hab hn ad e)
      have HFO : Hid (0 < (flat p).length → ∀ ad, fA = some ad → ad.block ≠ b5) := fun hn ad e => by have h1 := hab hn ad e; have h2 := HB5.out.lt; omega
      have HCUR2 := Lib.hid (below3 HCUR.out hb)
      have HB52 := Lib.hid (HB5.out.keep hb)
      clear HCUR HB5
      have HCUR := HCUR2
      have HB5 := HB52
      clear HCUR2 HB52
      have HFL := HFLn
      clear HFLn ho hb hab
      refine hK.out _ _ (HS.out _ HCUR.out) (fun hHeld => ?_)
      clear hK K
      try simp only [Act.put, List.setIfInBounds_toArray, List.set_cons_zero, List.set_cons_succ]
      refine wpAnyH_ready (rs := [12]) (by kernel_rfl) (by simp) ?_
      refine AllReadyH.cons (o := _) rfl (fun K hK => ?_) AllReadyH.nil
      go_simp
      go_at_call 44
      with_reducible refine (dupl_any cA none cn cc 0 0 _ cm [] _ (HL1.out.grow HCUR.out (Nat.le_refl _)).comm (Ints.nil _ _ _) (Nat.le_refl _) (by omega) (by omega)).mono ?_
      rintro e wY ⟨eA, ec, rfl, hi, hab, hb⟩
      rw [List.nil_append, Nat.zero_add] at hi
      rw [Nat.zero_add] at hab
      have HCMn := Lib.hid hi
      have HCA : Hid (Above w1.heap.size eA cn) := fun hn ad e => Nat.le_trans HCUR.out.size (hab hn ad e)
      have HCO : Hid (0 < cn → ∀ ad, eA = some ad → ad.block ≠ b5) := fun hn ad e => by have h1 := hab hn ad e; have h2 := HB5.out.lt; omega
      have HCUR2 := Lib.hid (below3 HCUR.out hb)
      have HFL2 := Lib.hid ((HFL.out.below hb).more hb.size)
      have HB52 := Lib.hid (HB5.out.keep hb)
      clear HCUR HB5 HFL
      have HCUR := HCUR2
      have HFL := HFL2
      have HB5 := HB52
      clear HCUR2 HB52 HFL2
      have HCM := HCMn
      clear HCMn hi hb hab
      refine hK.out _ _ (HS.out _ HCUR.out) (fun hHeld => ?_)
      clear hK K
      try simp only [Act.put, List.setIfInBounds_toArray, List.set_cons_zero, List.set_cons_succ]
      refine take_in (i := 17) _ (some 23) (by kernel_rfl) (by kernel_rfl) (by kernel_rfl) (by kernel_rfl) (fun _ _ _ h => h) (by rfl) (fun o ho w hSw => by cases ho; (try dsimp only at hSw); (try go_split_ands); go_simp; (try with_reducible rfl)) hHeld ?_
      try simp only [Act.put, List.setIfInBounds_toArray, List.set_cons_zero, List.set_cons_succ]
      refine wpAnyH_ready (rs := [19]) (by kernel_rfl) (by simp) ?_
      refine AllReadyH.cons (o := _) rfl (fun K hK => ?_) AllReadyH.nil
      obtain ⟨wZ, hwZ⟩ : ∃ wZ, wY.setRow b5 #[.int .u32 rpa, .int .i64 rpl, .int .i64 1, .int .u32 hop, .slice fA (flat p).length fc, .slice eA cn ec, .int .i64 100, .int .i64 med, .int .i64 met, .int .i64 0] = wZ := ⟨_, rfl⟩
      have hsZ : Save b5 wY wZ := by rw [← hwZ]; exact Save.row _ _ _
      have HBZ : Hid (Blk wZ b5 54 [.int .u32 rpa, .int .i64 rpl, .int .i64 1, .int .u32 hop, .slice fA (flat p).length fc, .slice eA cn ec, .int .i64 100, .int .i64 med, .int .i64 met, .int .i64 0]) := by
        show Blk _ _ _ _
        rw [← hwZ]
        exact HB5.out.row _
      rw [if_pos (by rfl)]
      refine wp_store_row 54 _ _ rfl b5 #[.int .u32 rpa, .int .i64 rpl, .int .i64 1, .int .u32 hop, .slice fA (flat p).length fc, .slice eA cn ec, .int .i64 100, .int .i64 med, .int .i64 met, .int .i64 0] rfl rfl 54 _ HB5.out (by kernel_rfl) rfl (by kernel_rfl) ?_
      rw [hwZ]
      have hSZ : wZ.cell? ⟨w.heap.size, 0, none⟩ = some (.int .u32 rpa) ∧ wZ.cell? ⟨w.heap.size, 1, none⟩ = some (.int .i64 rpl) ∧ wZ.cell? ⟨w.heap.size, 2, none⟩ = some (.int .i64 og) ∧ wZ.cell? ⟨w.heap.size, 3, none⟩ = some (.slice pA pn pc) ∧ wZ.cell? ⟨w.heap.size, 4, none⟩ = some (.int .u32 hop) ∧ wZ.cell? ⟨w.heap.size, 5, none⟩ = some (.bool hm) ∧ wZ.cell? ⟨w.heap.size, 6, none⟩ = some (.int .i64 med) ∧ wZ.cell? ⟨w.heap.size, 7, none⟩ = some (.bool hp) ∧ wZ.cell? ⟨w.heap.size, 8, none⟩ = some (.int .i64 pref) ∧ wZ.cell? ⟨w.heap.size, 9, none⟩ = some (.bool atm) ∧ wZ.cell? ⟨w.heap.size, 10, none⟩ = some (.bool ha) ∧ wZ.cell? ⟨w.heap.size, 11, none⟩ = some (.int .i64 aas) ∧ wZ.cell? ⟨w.heap.size, 12, none⟩ = some (.int .u32 aad) ∧ wZ.cell? ⟨w.heap.size, 13, none⟩ = some (.slice cA cn cc) ∧ wZ.cell? ⟨w.heap.size, 14, none⟩ = some (.bool ho) ∧ wZ.cell? ⟨w.heap.size, 15, none⟩ = some (.int .u32 ori) ∧ wZ.cell? ⟨w.heap.size, 16, none⟩ = some (.slice kA kn kc) ∧ wZ.cell? ⟨w.heap.size, 17, none⟩ = some (.slice uA un uc) ∧ wZ.cell? ⟨w.heap.size, 18, none⟩ = some (.int .i64 rpeer) ∧ wZ.cell? ⟨w.heap.size, 19, none⟩ = some (.int .i64 rkind) ∧ wZ.cell? ⟨w.heap.size, 20, none⟩ = some (.int .u32 rrtr) ∧ wZ.cell? ⟨w.heap.size, 21, none⟩ = some (.bool stale) := by
        have hk := (HKA.out.keep HCUR.out).save hsZ (by have h5 := HN5.out; omega)
        exact ⟨hk.cell 0, hk.cell 1, hk.cell 2, hk.cell 3, hk.cell 4, hk.cell 5, hk.cell 6, hk.cell 7, hk.cell 8, hk.cell 9, hk.cell 10, hk.cell 11, hk.cell 12, hk.cell 13, hk.cell 14, hk.cell 15, hk.cell 16, hk.cell 17, hk.cell 18, hk.cell 19, hk.cell 20, hk.cell 21⟩
      refine hK.out _ _ hSZ (fun hHeld => ?_)
      clear hK K
      try simp only [Act.put, List.setIfInBounds_toArray, List.set_cons_zero, List.set_cons_succ]
      refine wpAnyH_done (by kernel_rfl) ?_ _
      refine NoPanic.normal ?_
      go_wp2
      go_meet
      have lb := HB5.out.lt
      exact ⟨b5, fA, eA, fc, ec, rfl, HN5.out, HBZ, OffI.save5 ⟨HFL.out, fun hn ad e => ⟨HFA.out hn ad e, HFO.out hn ad e⟩⟩ hsZ, OffI.save5 ⟨HCM.out, fun hn ad e => ⟨HCA.out hn ad e, HCO.out hn ad e⟩⟩ hsZ, HCUR.out.trans (hsZ.below HN5.out (Nat.le_trans HN5.out (Nat.le_of_lt lb)))⟩
  case rest =>
    obtain ⟨b5, fA, eA, fc, ec, rfl, hb5, HB5, HFL, HCM, hbw⟩ := hcut
    obtain ⟨wo, rfl⟩ : ∃ wo : World, wo = wc := ⟨_, rfl⟩
    have HKA2 := Lib.hid (HKA.out.keep hbw)
    have HKZ2 := Lib.hid (HKZ.out.keep hbw)
    have HBW := Lib.hid (HB1.out.trans (hbw.mono HB1.out.size))
    have r19 := HKA2.out.cell 19
    have c2 := HB5.out.cell 2
    have f2 := HB5.out.frozen 2
    simp only [List.getElem?_cons_zero, List.getElem?_cons_succ] at r19 c2
    have l5 : b5 < wo.heap.size := HB5.out.lt
    have lA : w.heap.size < wo.heap.size := HKA2.out.lt
    clear hbw HKA HKZ HB1
    go_upto_block 0 with fail
    go_cut [] (fun wx => Hid (Blk wx b5 54 [.int .u32 rpa, .int .i64 rpl, .int .i64 (protoR rkind), .int .u32 hop, .slice fA (flat p).length fc, .slice eA cn ec, .int .i64 100, .int .i64 med, .int .i64 met, .int .i64 0]) ∧ Hid (Save b5 wo wx))
    case first =>
      cases hk1 : (rkind == 1)
      case true =>
        have HP : Hid (protoR rkind = 6) := by show _ = _; unfold protoR; rw [if_pos hk1]
        go_wp2
        go_meet
        exact ⟨by rw [HP.out]; exact HB5.out.set 2 _, Save.set⟩
      cases hk2 : (rkind == 2)
      case true =>
        have HP : Hid (protoR rkind = 7) := by show _ = _; unfold protoR; rw [if_neg (by rw [hk1]; simp), if_pos (by rw [hk2]; rfl)]
        go_wp2
        go_meet
        exact ⟨by rw [HP.out]; exact HB5.out.set 2 _, Save.set⟩
      cases hk3 : (rkind == 3)
      case true =>
        have HP : Hid (protoR rkind = 7) := by show _ = _; unfold protoR; rw [if_neg (by rw [hk1]; simp), if_pos (by rw [hk3]; simp)]
        go_wp2
        go_meet
        exact ⟨by rw [HP.out]; exact HB5.out.set 2 _, Save.set⟩
      have HP : Hid (protoR rkind = 1) := by show _ = _; unfold protoR; rw [if_neg (by rw [hk1]; simp), if_neg (by rw [hk2, hk3]; simp)]
      go_wp2
      go_meet
      exact ⟨by rw [HP.out]; exact HB5, Save.refl _ _⟩
    case rest =>
      obtain ⟨HB6, HS6⟩ := hcut
      have HKA3 := Lib.hid (HKA2.out.save HS6.out (by omega))
      have HKZ3 := Lib.hid (HKZ2.out.save HS6.out (by omega))
      have HF3 := Lib.hid (HFL.out.save5 HS6.out)
      have HC3 := Lib.hid (HCM.out.save5 HS6.out)
      have HW3 := Lib.hid (HBW.out.trans (HS6.out.below (by omega) HBW.out.size))
      have r7 := HKA3.out.cell 7
      have r8 := HKA3.out.cell 8
      have c6 := HB6.out.cell 6
      have f6 := HB6.out.frozen 6
      simp only [List.getElem?_cons_zero, List.getElem?_cons_succ] at r7 r8 c6
      have l6 : b5 < wc.heap.size := HB6.out.lt
      have lA6 : w.heap.size < wc.heap.size := HKA3.out.lt
      clear r19 c2 f2 l5 lA HKA2 HKZ2 HBW HFL HCM HB5
      cases hp
      case' true =>
        obtain ⟨we, hwe⟩ : ∃ we, wc.setCell ⟨b5, 6, none⟩ (.int .i64 pref) = we := ⟨_, rfl⟩
        have hse : Save b5 wc we := by rw [← hwe]; exact Save.set
        have HBE : Hid (Blk we b5 54 [.int .u32 rpa, .int .i64 rpl, .int .i64 (protoR rkind), .int .u32 hop, .slice fA (flat p).length fc, .slice eA cn ec, .int .i64 pref, .int .i64 med, .int .i64 met, .int .i64 0]) := by
          show Blk _ _ _ _
          rw [← hwe]
          exact HB6.out.set 6 _
        have hpe : pref = px := by rw [← HPX.out, if_pos rfl]
        subst hpe
      case' false =>
        obtain ⟨we, hwe⟩ : ∃ we, wc = we := ⟨_, rfl⟩
        have hse : Save b5 wc we := by rw [← hwe]; exact Save.refl _ _
        have HBE : Hid (Blk we b5 54 [.int .u32 rpa, .int .i64 rpl, .int .i64 (protoR rkind), .int .u32 hop, .slice fA (flat p).length fc, .slice eA cn ec, .int .i64 100, .int .i64 med, .int .i64 met, .int .i64 0]) := by
          show Blk _ _ _ _
          rw [← hwe]
          exact HB6.out
        have hpe : (100 : Int) = px := by rw [← HPX.out, if_neg (by simp)]
        subst hpe
        subst hwe
      all_goals
        have HKZE := Lib.hid (HKZ3.out.save hse (by omega))
        have HFE := Lib.hid (HF3.out.save5 hse)
        have HCE := Lib.hid (HC3.out.save5 hse)
        have HWE := Lib.hid (HW3.out.trans (hse.below (by omega) HW3.out.size))
        clear hse
      case' true =>
        obtain ⟨wz, hwz⟩ : ∃ wz, we.setRow (w.heap.size + 1) #[.int .u32 rpa, .int .i64 rpl, .int .i64 (protoR rkind), .int .u32 hop, .slice fA (flat p).length fc, .slice eA cn ec, .int .i64 pref, .int .i64 med, .int .i64 met, .int .i64 0] = wz := ⟨_, rfl⟩
        have hsz : Save (w.heap.size + 1) we wz := by rw [← hwz]; exact Save.row _ _ _
        have HBZ : Hid (Blk wz (w.heap.size + 1) 54 [.int .u32 rpa, .int .i64 rpl, .int .i64 (protoR rkind), .int .u32 hop, .slice fA (flat p).length fc, .slice eA cn ec, .int .i64 pref, .int .i64 med, .int .i64 met, .int .i64 0]) := by show Blk _ _ _ _; rw [← hwz]; exact HKZE.out.row _
      case' false =>
        obtain ⟨wz, hwz⟩ : ∃ wz, wc.setRow (w.heap.size + 1) #[.int .u32 rpa, .int .i64 rpl, .int .i64 (protoR rkind), .int .u32 hop, .slice fA (flat p).length fc, .slice eA cn ec, .int .i64 100, .int .i64 med, .int .i64 met, .int .i64 0] = wz := ⟨_, rfl⟩
        have hsz : Save (w.heap.size + 1) wc wz := by rw [← hwz]; exact Save.row _ _ _
        have HBZ : Hid (Blk wz (w.heap.size + 1) 54 [.int .u32 rpa, .int .i64 rpl, .int .i64 (protoR rkind), .int .u32 hop, .slice fA (flat p).length fc, .slice eA cn ec, .int .i64 100, .int .i64 med, .int .i64 met, .int .i64 0]) := by show Blk _ _ _ _; rw [← hwz]; exact HKZE.out.row _
      all_goals
        have HFZ := Lib.hid (HFE.out.low hsz (by omega))
        have HCZ := Lib.hid (HCE.out.low hsz (by omega))
        have HWZ := Lib.hid (HWE.out.trans (hsz.below (by omega) HWE.out.size))
        go_wp2_with (first | (refine wpList_load_blk rfl 54 _ rfl b5 rfl HBE.out _ Try.underlying54 rfl (by kernel_rfl) ?_) | (refine wpList_store_blk rfl 54 _ _ rfl (w.heap.size + 1) rfl rfl HKZE.out (by kernel_rfl) rfl (by kernel_rfl) ?_))
        try rw [hwz]
        refine bodyPost_ret (results_cell_row rfl _ _ (w.heap.size + 1) _ _ (0, 0) _ rfl HBZ.out Try.underlying54 rfl (by kernel_rfl)) rfl ⟨fA, eA, _, fc, _, ec, rfl, HFZ.out.1, HCZ.out.1, HWZ.out⟩
end Go.Proofs.Ytojgohgeagbkbaa
