/- The size of attributes (the document's), and the laws' bound on it. -/
import Derived.Test.YtojgohgeagbkbaaLst
import Derived.Test.YtojgohgeagbkbaaBox
import Derived.BigRegion
import Derived.Deep.DeepCutAuto
namespace Go.Proofs.Ytojgohgeagbkbaa
open Go.RowKit

theorem run_load_blk {P : Program} {w : World} {T : TypeId} {cs : List Value} {o : Oper} {a : Act} (ty : TypeId) (x : Operand) (ho : o.op = .load ty x) (g : Nat) (hx : a.eval x = .pointer (some ⟨g, 0, none⟩)) (hg : Blk w g T cs) (d : TypeDesc)
    (hu : P.underlying ty = some d) (hd : (match d with | .struct _ | .array _ _ => true | _ => false) = true) (hi : (P.info? ty).map (·.size) = some cs.length) :
    (execOp a.eval o).run P w = .ok (.value (.agg cs.toArray)) w := by
  unfold execOp
  simp only [ho, hx, Instr.loadAt, Instr.sureAddr, Sem.run_bind, Sem.run_pure, Result.andThen_ok, run_loadVar_row w g T ty cs.toArray (0, 0) d hg hu hd (by rw [hi]; simp)]
def bits8 (us : Path) : Nat := (us.map fun t => t.2.length / 8).sum
theorem bits8_succ {p : Path} {k : Nat} {s : Int × List Int} (h : p[k]? = some s) : bits8 (p.take (k + 1)) = bits8 (p.take k) + s.2.length / 8 := by
  rw [List.take_add_one, h]
  unfold bits8
  rw [List.map_append, List.sum_append]
  simp
theorem bits8_le : ∀ p : Path, bits8 p ≤ (flat p).length
  | [] => by simp [bits8]
  | s :: r => by
    have := bits8_le r
    show ((s :: r).map fun t : Int × List Int => t.2.length / 8).sum ≤ _
    rw [List.map_cons, List.sum_cons]
    unfold flat at *
    rw [List.flatMap_cons, List.length_append]
    unfold bits8 at this
    omega
def size0 (p : Path) (cm cl : List Int) (us : Path) : Nat := p.length + (flat p).length + cm.length + cl.length + us.length
def sizeR (p : Path) (cm cl : List Int) (us : Path) : Nat := size0 p cm cl us + bits8 us
set_option linter.unusedVariables false
set_option linter.unusedSimpArgs false
set_option maxRecDepth 100000 in
set_option maxHeartbeats 4000000 in
theorem size36_any (og hop med pref aas aad ori : Int) (hm hp atm ha ho : Bool) (pA cA kA uA : Option Addr) (pn pc cn cc kn kc un uc : Nat) (p us : Path) (cm cl : List Int) (w : World) (hL : Lists w w.heap.size pA cA kA uA pn pc cn cc kn kc un uc p cm cl us) (hs : (flat p).length ≤ 1048576) (hus : (flat us).length ≤ 1048576) :
    Calls Try.prog 29 #[.agg #[.int .i64 og, .slice pA pn pc, .int .u32 hop, .bool hm, .int .i64 med, .bool hp, .int .i64 pref, .bool atm, .bool ha, .int .i64 aas, .int .u32 aad, .slice cA cn cc, .bool ho, .int .u32 ori, .slice kA kn kc, .slice uA un uc]] w fun e w' => e = .returned (.int .i64 (sizeR p cm cl us : Nat)) ∧ Below w.heap.size w w' := by
  have HL := Lib.hid hL
  obtain ⟨w1, hw1⟩ : ∃ w1, w.alloc (.cells #[.int .i64 og, .slice pA pn pc, .int .u32 hop, .bool hm, .int .i64 med, .bool hp, .int .i64 pref, .bool atm, .bool ha, .int .i64 aas, .int .u32 aad, .slice cA cn cc, .bool ho, .int .u32 ori, .slice kA kn kc, .slice uA un uc] 40) = w1 := ⟨_, rfl⟩
  have hbA : Blk w1 w.heap.size 40 [.int .i64 og, .slice pA pn pc, .int .u32 hop, .bool hm, .int .i64 med, .bool hp, .int .i64 pref, .bool atm, .bool ha, .int .i64 aas, .int .u32 aad, .slice cA cn cc, .bool ho, .int .u32 ori, .slice kA kn kc, .slice uA un uc] := by rw [← hw1]; exact Blk.new w _ _
  have hb1 : Below w.heap.size w w1 := by rw [← hw1]; exact belowA _ _
  have HB1 := Lib.hid hb1
  have HKA := Lib.hid hbA
  have HL1 := Lib.hid (HL.out.grow hb1 (Nat.le_refl _))
  have hlt : w.heap.size < w1.heap.size := hbA.lt
  obtain ⟨hpn, hcn, hkn, hun⟩ := HL.out.small
  have hpl := HL.out.path.len
  have hcl := HL.out.comm.len
  have hkl := HL.out.clus.len
  have hul := HL.out.unk.len
  obtain ⟨m, hm⟩ : ∃ m, (flat p).length = m := ⟨_, rfl⟩
  have e1 : IntKind.i64.wrap (((pn : Int) + (m : Nat)) + (cn : Int)) = ((pn : Int) + (m : Nat)) + (cn : Int) := IntWalk.i64_in _ (by omega)
  have e2 : IntKind.i64.wrap ((((pn : Int) + (m : Nat)) + (cn : Int)) + (kn : Int)) = (((pn : Int) + (m : Nat)) + (cn : Int)) + (kn : Int) := IntWalk.i64_in _ (by omega)
  have e3 : IntKind.i64.wrap (((((pn : Int) + (m : Nat)) + (cn : Int)) + (kn : Int)) + (un : Int)) = ((((pn : Int) + (m : Nat)) + (cn : Int)) + (kn : Int)) + (un : Int) := IntWalk.i64_in _ (by omega)
  obtain ⟨bs, hbs⟩ : ∃ bs : Nat, pn + m + cn + kn + un = bs := ⟨_, rfl⟩
  have hbi : ((((pn : Int) + (m : Nat)) + (cn : Int)) + (kn : Int)) + (un : Int) = (bs : Int) := by omega
  have hbsz : bs ≤ 5000000000 := by omega
  have HSZ : Hid (size0 p cm cl us = bs) := by show _ = _; unfold size0; omega
  have HC : Hid (∀ W, Below w1.heap.size w1 W → Calls Try.prog 62 #[.slice pA pn pc] W fun e w' => e = .returned (.int .i64 ((pn : Int) + (m : Nat))) ∧ Below W.heap.size W w') := by
    intro W hW
    have := size_any pA pn pc p W (HL1.out.grow hW (Nat.le_refl _)).path (by omega) (by omega)
    rw [hm] at this
    exact this
  have HS : Hid (∀ V, Below w1.heap.size w1 V → V.cell? ⟨w.heap.size, 1, none⟩ = some (.slice pA pn pc) ∧ V.cell? ⟨w.heap.size, 11, none⟩ = some (.slice cA cn cc) ∧ V.cell? ⟨w.heap.size, 14, none⟩ = some (.slice kA kn kc) ∧ V.cell? ⟨w.heap.size, 15, none⟩ = some (.slice uA un uc)) :=
    fun V h => ⟨(HKA.out.keep h).cell 1, (HKA.out.keep h).cell 11, (HKA.out.keep h).cell 14, (HKA.out.keep h).cell 15⟩
  have HUF : Hid (∀ k, bits8 (us.take k) ≤ 1048576) := fun k => by
    have h1 := bits8_le (us.take k)
    have h2 := flat_take us k
    omega
  have HC0 : Hid (Below w1.heap.size w1 w1.drew) := (Below.refl _ _).drew
  clear hL hbA hb1 hpl hcl hkl hul hs hus hm hbs
  go_enter Try.func29, Try.ntmps29
  go_upto_region 1 with fail
  try rw [hw1]
  go_cut [3] (fun v wx => v = .int .i64 (bs : Int) ∧ Hid (Below w1.heap.size w1 wx))
  case first =>
    refine wp_region_noPanic ?_
    refine wp_region_held_drew (S := fun V => V.cell? ⟨w.heap.size, 1, none⟩ = some (.slice pA pn pc) ∧ V.cell? ⟨w.heap.size, 11, none⟩ = some (.slice cA cn cc) ∧ V.cell? ⟨w.heap.size, 14, none⟩ = some (.slice kA kn kc) ∧ V.cell? ⟨w.heap.size, 15, none⟩ = some (.slice uA un uc)) (by kernel_rfl) (HS.out _ HC0.out) (fun hHeld => ?_)
    refine take_in (i := 0) _ (some 6) (by kernel_rfl) (by kernel_rfl) (by kernel_rfl) (by kernel_rfl) (fun _ _ _ h => h) (by rfl) (fun o ho w hSw => by cases ho; (try dsimp only at hSw); (try go_split_ands); go_simp; (try with_reducible rfl)) hHeld ?_
    try simp only [Act.put, List.setIfInBounds_toArray, List.set_cons_zero, List.set_cons_succ]
    refine take_in (i := 1) _ (some 7) (by kernel_rfl) (by kernel_rfl) (by kernel_rfl) (by kernel_rfl) (fun _ _ _ h => h) (by rfl) (fun o ho w hSw => by cases ho; (try dsimp only at hSw); (try go_split_ands); go_simp; (try with_reducible rfl)) hHeld ?_
    try simp only [Act.put, List.setIfInBounds_toArray, List.set_cons_zero, List.set_cons_succ]
    refine take_in (i := 3) _ (some 9) (by kernel_rfl) (by kernel_rfl) (by kernel_rfl) (by kernel_rfl) (fun _ _ _ h => h) (by rfl) (fun o ho w hSw => by cases ho; (try dsimp only at hSw); (try go_split_ands); go_simp; (try with_reducible rfl)) hHeld ?_
    try simp only [Act.put, List.setIfInBounds_toArray, List.set_cons_zero, List.set_cons_succ]
    refine take_in (i := 4) _ (some 10) (by kernel_rfl) (by kernel_rfl) (by kernel_rfl) (by kernel_rfl) (fun _ _ _ h => h) (by rfl) (fun o ho w hSw => by cases ho; (try dsimp only at hSw); (try go_split_ands); go_simp; (try with_reducible rfl)) hHeld ?_
    try simp only [Act.put, List.setIfInBounds_toArray, List.set_cons_zero, List.set_cons_succ]
    refine take_in (i := 5) _ (some 11) (by kernel_rfl) (by kernel_rfl) (by kernel_rfl) (by kernel_rfl) (fun _ _ _ h => h) (by rfl) (fun o ho w hSw => by cases ho; (try dsimp only at hSw); (try go_split_ands); go_simp; (try with_reducible rfl)) hHeld ?_
    try simp only [Act.put, List.setIfInBounds_toArray, List.set_cons_zero, List.set_cons_succ]
    refine take_in (i := 7) _ (some 13) (by kernel_rfl) (by kernel_rfl) (by kernel_rfl) (by kernel_rfl) (fun _ _ _ h => h) (by rfl) (fun o ho w hSw => by cases ho; (try dsimp only at hSw); (try go_split_ands); go_simp; (try with_reducible rfl)) hHeld ?_
    try simp only [Act.put, List.setIfInBounds_toArray, List.set_cons_zero, List.set_cons_succ]
    refine take_in (i := 8) _ (some 14) (by kernel_rfl) (by kernel_rfl) (by kernel_rfl) (by kernel_rfl) (fun _ _ _ h => h) (by rfl) (fun o ho w hSw => by cases ho; (try dsimp only at hSw); (try go_split_ands); go_simp; (try with_reducible rfl)) hHeld ?_
    try simp only [Act.put, List.setIfInBounds_toArray, List.set_cons_zero, List.set_cons_succ]
    refine take_in (i := 9) _ (some 15) (by kernel_rfl) (by kernel_rfl) (by kernel_rfl) (by kernel_rfl) (fun _ _ _ h => h) (by rfl) (fun o ho w hSw => by cases ho; (try dsimp only at hSw); (try go_split_ands); go_simp; (try with_reducible rfl)) hHeld ?_
    try simp only [Act.put, List.setIfInBounds_toArray, List.set_cons_zero, List.set_cons_succ]
    refine take_in (i := 11) _ (some 17) (by kernel_rfl) (by kernel_rfl) (by kernel_rfl) (by kernel_rfl) (fun _ _ _ h => h) (by rfl) (fun o ho w hSw => by cases ho; (try dsimp only at hSw); (try go_split_ands); go_simp; (try with_reducible rfl)) hHeld ?_
    try simp only [Act.put, List.setIfInBounds_toArray, List.set_cons_zero, List.set_cons_succ]
    refine take_in (i := 12) _ (some 18) (by kernel_rfl) (by kernel_rfl) (by kernel_rfl) (by kernel_rfl) (fun _ _ _ h => h) (by rfl) (fun o ho w hSw => by cases ho; (try dsimp only at hSw); (try go_split_ands); go_simp; (try with_reducible rfl)) hHeld ?_
    try simp only [Act.put, List.setIfInBounds_toArray, List.set_cons_zero, List.set_cons_succ]
    refine take_in (i := 13) _ (some 19) (by kernel_rfl) (by kernel_rfl) (by kernel_rfl) (by kernel_rfl) (fun _ _ _ h => h) (by rfl) (fun o ho w hSw => by cases ho; (try dsimp only at hSw); (try go_split_ands); go_simp; (try with_reducible rfl)) hHeld ?_
    try simp only [Act.put, List.setIfInBounds_toArray, List.set_cons_zero, List.set_cons_succ]
    refine wpAnyH_ready (rs := [2]) (by kernel_rfl) (by simp) ?_
    refine AllReadyH.cons (o := _) rfl (fun K hK => ?_) AllReadyH.nil
    go_simp
    go_at_call 62
    with_reducible refine (HC.out _ HC0.out).mono ?_
    rintro e wX ⟨rfl, hbX⟩
    have HCX := Lib.hid (below3 HC0.out hbX)
    clear hbX
    refine hK.out _ _ (HS.out _ HCX.out) (fun hHeld => ?_)
    clear hK K
    try simp only [Act.put, List.setIfInBounds_toArray, List.set_cons_zero, List.set_cons_succ]
    refine take_in (i := 6) _ (some 12) (by kernel_rfl) (by kernel_rfl) (by kernel_rfl) (by kernel_rfl) (fun _ _ _ h => h) (by rfl) (fun o ho w hSw => by cases ho; (try dsimp only at hSw); (try go_split_ands); go_simp; (try with_reducible rfl)) hHeld ?_
    try simp only [Act.put, List.setIfInBounds_toArray, List.set_cons_zero, List.set_cons_succ]
    refine take_in (i := 10) _ (some 16) (by kernel_rfl) (by kernel_rfl) (by kernel_rfl) (by kernel_rfl) (fun _ _ _ h => h) (by rfl) (fun o ho w hSw => by cases ho; (try dsimp only at hSw); (try go_split_ands); go_simp; (try with_reducible rfl)) hHeld ?_
    try simp only [Act.put, List.setIfInBounds_toArray, List.set_cons_zero, List.set_cons_succ]
    refine take_in (i := 14) _ (some 20) (by kernel_rfl) (by kernel_rfl) (by kernel_rfl) (by kernel_rfl) (fun _ _ _ h => h) (by rfl) (fun o ho w hSw => by cases ho; (try dsimp only at hSw); (try go_split_ands); go_simp; (try with_reducible rfl)) hHeld ?_
    try simp only [Act.put, List.setIfInBounds_toArray, List.set_cons_zero, List.set_cons_succ]
    refine take_in (i := 15) _ (some 3) (by kernel_rfl) (by kernel_rfl) (by kernel_rfl) (by kernel_rfl) (fun _ _ _ h => h) (by rfl) (fun o ho w hSw => by cases ho; (try dsimp only at hSw); (try go_split_ands); go_simp; (try with_reducible rfl)) hHeld ?_
    try simp only [Act.put, List.setIfInBounds_toArray, List.set_cons_zero, List.set_cons_succ]
    refine wpAnyH_done (by kernel_rfl) ?_ _
    refine NoPanic.normal ?_
    go_wp2
    go_meet
    exact ⟨by rw [← hbi, e3], HCX⟩
  case rest =>
    obtain ⟨rfl, hbw⟩ := hcut
    obtain ⟨w3, rfl⟩ : ∃ w3 : World, w3 = wc := ⟨_, rfl⟩
    have HKA3 := Lib.hid (HKA.out.keep hbw.out)
    have HB3 := Lib.hid (HB1.out.trans (hbw.out.mono HB1.out.size))
    have HU3 : Hid (Tlvs w3 w.heap.size uA un uc us) := HL.out.unk.below HB3.out
    have hlt3 : w.heap.size < w3.heap.size := HKA3.out.lt
    have u15 := HKA3.out.cell 15
    simp only [List.getElem?_cons_zero, List.getElem?_cons_succ] at u15
    have HUL := Lib.hid HL.out.unk.len
    clear hbw HS HC HC0 HKA HB1 HL1 hw1 e1 e2 e3 hbi
    go_wp2
    go_loopw [3, 24] (fun s i wr => ∃ k : Nat, k ≤ un ∧ i = .int .i64 k ∧ s = .int .i64 ((bs : Int) + (bits8 (us.take k) : Nat)) ∧ Hid (Below w3.heap.size w3 wr)) (fun _ i _ => un - (intOf i).toNat)
    case atStart => exact ⟨0, Nat.zero_le _, rfl, by simp [bits8], Below.refl _ _⟩
    case round =>
      obtain ⟨k, hk, rfl, rfl, hbw⟩ := hrel
      by_cases hlt' : k < un
      · obtain ⟨b, o, f, rfl, hbB, hf, g0, g1, hi⟩ := (HU3.out.below (hbw.out.mono HB3.out.size)).get hlt'
        obtain ⟨y, fA, fn, fc, xs⟩ := f
        dsimp only at g0 g1 hi
        have hba := belowA wr (.cells #[.int .i64 y, .slice fA fn fc] 88)
        have HB' : Hid (Below w3.heap.size w3 (wr.alloc (.cells #[.int .i64 y, .slice fA fn fc] 88))) := below3 hbw.out hba
        have hfl : xs.length = fn := hi.out.len
        have hsu : bits8 (us.take (k + 1)) = bits8 (us.take k) + xs.length / 8 := bits8_succ hf.out
        rw [hfl] at hsu
        have h0 := HUF.out k
        have h1 := HUF.out (k + 1)
        have HSU := Lib.hid hsu
        obtain ⟨q, hq⟩ : ∃ q, bits8 (us.take k) = q := ⟨_, rfl⟩
        obtain ⟨z, hz⟩ : ∃ z, fn / 8 = z := ⟨_, rfl⟩
        rw [hq, hz] at hsu
        rw [hq] at h0 ⊢
        rw [hsu] at h1
        have hz' : (fn : Int).tdiv 8 = (z : Int) := by rw [← hz, Int.tdiv_eq_ediv_of_nonneg (by omega)]; omega
        have hw' : IntKind.i64.wrap (((bs : Int) + (q : Nat)) + (z : Nat)) = ((bs : Int) + (q : Nat)) + (z : Nat) := IntWalk.i64_in _ (by omega)
        have hwz : IntKind.i64.wrap ((z : Nat) : Int) = ((z : Nat) : Int) := IntWalk.i64_in _ (by omega)
        have hbwr : b < wr.heap.size := by have := hbw.out.size; omega
        have HN : Hid (((bs : Int) + (q : Nat)) + (z : Nat) = (bs : Int) + (bits8 (us.take (k + 1)) : Nat)) := by show _ = _; rw [hsu]; omega
        clear hf hi hfl hsu hba HSU hq hz h1
        go_wp2
        go_roundw
        case rel => exact ⟨k + 1, by omega, by go_num, by rw [← HN.out], HB'⟩
        case measure => simp [intOf]; omega
      · obtain rfl : k = un := by omega
        have e : us.take k = us := List.take_of_length_le (Nat.le_of_eq HUL.out)
        rw [e]
        have HF : Hid (((bs : Int) + (bits8 us : Nat)) = ((sizeR p cm cl us : Nat) : Int)) := by show _ = _; unfold sizeR; rw [HSZ.out]; omega
        have HBF := Lib.hid (HB3.out.trans (hbw.out.mono HB3.out.size))
        clear e
        go_wp2
        go_ret
        exact ⟨by first | exact congrArg (fun z => Ending.returned (.int .i64 z)) HF.out | (rw [HF.out]; rfl), HBF.out⟩
set_option maxRecDepth 100000 in
theorem large36_any (og hop med pref aas aad ori : Int) (hm hp atm ha ho : Bool) (pA cA kA uA : Option Addr) (pn pc cn cc kn kc un uc : Nat) (p us : Path) (cm cl : List Int) (w : World) (hL : Lists w w.heap.size pA cA kA uA pn pc cn cc kn kc un uc p cm cl us) (hs : (flat p).length ≤ 1048576) (hus : (flat us).length ≤ 1048576) :
    Calls Try.prog 10 #[.agg #[.int .i64 og, .slice pA pn pc, .int .u32 hop, .bool hm, .int .i64 med, .bool hp, .int .i64 pref, .bool atm, .bool ha, .int .i64 aas, .int .u32 aad, .slice cA cn cc, .bool ho, .int .u32 ori, .slice kA kn kc, .slice uA un uc]] w fun e w' => e = .returned (.bool (decide (3000 < sizeR p cm cl us))) ∧ Below w.heap.size w w' := by
  obtain ⟨w1, hw1⟩ : ∃ w1, w.alloc (.cells #[.int .i64 og, .slice pA pn pc, .int .u32 hop, .bool hm, .int .i64 med, .bool hp, .int .i64 pref, .bool atm, .bool ha, .int .i64 aas, .int .u32 aad, .slice cA cn cc, .bool ho, .int .u32 ori, .slice kA kn kc, .slice uA un uc] 40) = w1 := ⟨_, rfl⟩
  have hbA : Blk w1 w.heap.size 40 [.int .i64 og, .slice pA pn pc, .int .u32 hop, .bool hm, .int .i64 med, .bool hp, .int .i64 pref, .bool atm, .bool ha, .int .i64 aas, .int .u32 aad, .slice cA cn cc, .bool ho, .int .u32 ori, .slice kA kn kc, .slice uA un uc] := by rw [← hw1]; exact Blk.new w _ _
  have hb1 : Below w.heap.size w w1 := by rw [← hw1]; exact belowA _ _
  have HB1 := Lib.hid hb1
  have HKA := Lib.hid hbA
  have HC := Lib.hid (size36_any og hop med pref aas aad ori hm hp atm ha ho pA cA kA uA pn pc cn cc kn kc un uc p us cm cl w1 (hL.grow hb1 (Nat.le_refl _)) hs hus)
  obtain ⟨m, hm⟩ : ∃ m, sizeR p cm cl us = m := ⟨_, rfl⟩
  rw [hm] at HC ⊢
  have e : decide (3000 < m) = decide ((m : Int) > 3000) := by rw [decide_eq_decide]; omega
  have HE := Lib.hid e
  clear hL hs hus hm hbA hb1 e
  go_enter Try.func10, Try.ntmps10
  go_wp2_with (first | (rw [hw1]; refine wpList_load_blk rfl 40 _ rfl w.heap.size rfl HKA.out _ Try.underlying40 rfl (by kernel_rfl) ?_) | (refine wpList_load_blk rfl 40 _ rfl w.heap.size rfl HKA.out _ Try.underlying40 rfl (by kernel_rfl) ?_))
  refine HC.out.mono ?_
  rintro e w2 ⟨rfl, hb⟩
  have HB := Lib.hid (HB1.out.trans (hb.mono HB1.out.size))
  clear hb HC
  go_wp2
  go_ret
  exact ⟨by rw [HE.out]; rfl, HB.out⟩
end Go.Proofs.Ytojgohgeagbkbaa
