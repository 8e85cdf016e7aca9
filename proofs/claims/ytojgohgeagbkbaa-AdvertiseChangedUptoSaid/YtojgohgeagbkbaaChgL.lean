/- The document's comparison of attributes: equal ones. The document's comparison of subjects: equal ones. The law AdvertiseChanged: the walk. -/
import Derived.Test.YtojgohgeagbkbaaAccR
import Derived.Test.YtojgohgeagbkbaaRow
import Derived.Test.YtojgohgeagbkbaaSame17
import Derived.BigQuiet
import Derived.Laws.BytesArg
import Derived.Laws.BytesString
import Derived.Test.YtojgohgeagbkbaaLst
import Derived.Test.YtojgohgeagbkbaaChgM
import Derived.Test.YtojgohgeagbkbaaLrg
import Derived.Test.YtojgohgeagbkbaaAwk
import Derived.Test.YtojgohgeagbkbaaOpr
import Derived.Deep.DeepCutAuto
namespace Go.Proofs.Ytojgohgeagbkbaa
open Go.RowKit

theorem conv_bytes {w : World} {B n c : Nat} {A : Option Addr} {xs : List Int} (h : Ints w B .u8 A n c xs) : (convert 86 9 (.slice A n c)).run Try.prog w = .ok (.string (strOfNums xs)) w := by
  have hl := h.len
  cases A with
  | none =>
    have hn : n = 0 := by
      rcases Nat.eq_zero_or_pos n with h0 | h0
      · exact h0
      · obtain ⟨b, o, e, _⟩ := h.2.2.2 h0
        cases e
    subst hn
    rw [run_convert_bytes_nil w 86 5 Try.underlying86 Try.underlying5 0 c _ Try.underlying9]
    rw [List.length_eq_zero_iff.1 hl]
    rfl
  | some a =>
    rcases Nat.eq_zero_or_pos n with h0 | h0
    · subst h0
      rw [List.length_eq_zero_iff.1 hl]
      rw [run_convert_bytes_string w 86 9 5 _ 0 c Try.underlying86 Try.underlying5 Try.underlying9]
      rw [run_bytesToString w a 0 c [] rfl]
      rfl
    · obtain ⟨b, o, e, _, _⟩ := h.2.2.2 h0
      obtain rfl := Option.some.inj e
      refine run_convert_bytes_arg w 86 5 Try.underlying86 Try.underlying5 b o n c xs hl (fun i hi => ?_) _ Try.underlying9
      obtain ⟨b', o', x, e', _, g, hx⟩ := h.cell hi
      have e2 := Option.some.inj e'
      obtain ⟨rfl, rfl⟩ : b = b' ∧ o = o' := by
        injection e2 with e3 e4 e5
        exact ⟨e3, e4⟩
      rw [g, hx.out]
set_option linter.unusedVariables false
set_option linter.unusedSimpArgs false
theorem sameBytes_true (A D : Option Addr) (n c d B : Nat) (xs : List Int) (w : World) (h1 : Ints w B .u8 A n c xs) (h2 : Ints w B .u8 D n d xs) :
    Calls Try.prog 51 #[.slice A n c, .slice D n d] w fun e w' => e = .returned (.bool true) ∧ w = w' := by
  have e1 := conv_bytes h1
  have e2 := conv_bytes h2
  obtain ⟨s, hs⟩ : ∃ s, strOfNums xs = s := ⟨_, rfl⟩
  rw [hs] at e1 e2
  clear h1 h2 hs
  go_enter Try.func51, Try.ntmps51
  go_wp2
  go_ret
  exact ⟨by simp, rfl⟩
set_option maxRecDepth 100000 in
set_option maxHeartbeats 8000000 in
theorem same36_true (og hop med pref aas aad ori : Int) (hm hp atm ha ho : Bool) (pA cA kA uA : Option Addr) (pn pc cn cc kn kc un uc : Nat) (p us : Path) (cm cl : List Int) (pB cB kB uB : Option Addr) (pd cd kd ud : Nat) (w : World) (h1 : Lists w w.heap.size pA cA kA uA pn pc cn cc kn kc un uc p cm cl us) (h2 : Lists w w.heap.size pB cB kB uB pn pd cn cd kn kd un ud p cm cl us) :
    Calls Try.prog 22 #[.agg #[.int .i64 og, .slice pA pn pc, .int .u32 hop, .bool hm, .int .i64 med, .bool hp, .int .i64 pref, .bool atm, .bool ha, .int .i64 aas, .int .u32 aad, .slice cA cn cc, .bool ho, .int .u32 ori, .slice kA kn kc, .slice uA un uc], .agg #[.int .i64 og, .slice pB pn pd, .int .u32 hop, .bool hm, .int .i64 med, .bool hp, .int .i64 pref, .bool atm, .bool ha, .int .i64 aas, .int .u32 aad, .slice cB cn cd, .bool ho, .int .u32 ori, .slice kB kn kd, .slice uB un ud]] w fun e w' => e = .returned (.bool true) ∧ Below w.heap.size w w' := by
  obtain ⟨w1, hw1⟩ : ∃ w1, (w.alloc (.cells #[.int .i64 og, .slice pA pn pc, .int .u32 hop, .bool hm, .int .i64 med, .bool hp, .int .i64 pref, .bool atm, .bool ha, .int .i64 aas, .int .u32 aad, .slice cA cn cc, .bool ho, .int .u32 ori, .slice kA kn kc, .slice uA un uc] 40)).alloc (.cells #[.int .i64 og, .slice pB pn pd, .int .u32 hop, .bool hm, .int .i64 med, .bool hp, .int .i64 pref, .bool atm, .bool ha, .int .i64 aas, .int .u32 aad, .slice cB cn cd, .bool ho, .int .u32 ori, .slice kB kn kd, .slice uB un ud] 40) = w1 := ⟨_, rfl⟩
  have hbA : Blk w1 w.heap.size 40 [.int .i64 og, .slice pA pn pc, .int .u32 hop, .bool hm, .int .i64 med, .bool hp, .int .i64 pref, .bool atm, .bool ha, .int .i64 aas, .int .u32 aad, .slice cA cn cc, .bool ho, .int .u32 ori, .slice kA kn kc, .slice uA un uc] := by rw [← hw1]; exact (Blk.new w _ _).keep (belowA _ _)
  have hbB : Blk w1 (w.heap.size + 1) 40 [.int .i64 og, .slice pB pn pd, .int .u32 hop, .bool hm, .int .i64 med, .bool hp, .int .i64 pref, .bool atm, .bool ha, .int .i64 aas, .int .u32 aad, .slice cB cn cd, .bool ho, .int .u32 ori, .slice kB kn kd, .slice uB un ud] := by rw [← hw1]; exact Blk.new2 w _ _ _
  have hb1 : Below w.heap.size w w1 := by rw [← hw1]; exact below3 (belowA _ _) (belowA _ _)
  have HB1 := Lib.hid hb1
  have HKA := Lib.hid hbA
  have HKB := Lib.hid hbB
  have H1 := Lib.hid h1
  have H2 := Lib.hid h2
  have hun : un ≤ 1000000000 := h1.small.2.2.2
  have hlt : w.heap.size + 1 < w1.heap.size := hbB.lt
  have hlt0 : w.heap.size < w1.heap.size := by omega
  clear h1 h2 hbA hbB hb1
  have a0 := HKA.out.cell 0
  have a1 := HKA.out.cell 1
  have a2 := HKA.out.cell 2
  have a3 := HKA.out.cell 3
  have a4 := HKA.out.cell 4
  have a5 := HKA.out.cell 5
  have a6 := HKA.out.cell 6
  have a7 := HKA.out.cell 7
  have a8 := HKA.out.cell 8
  have a9 := HKA.out.cell 9
  have a10 := HKA.out.cell 10
  have a11 := HKA.out.cell 11
  have a12 := HKA.out.cell 12
  have a13 := HKA.out.cell 13
  have a14 := HKA.out.cell 14
  have a15 := HKA.out.cell 15
  simp only [List.getElem?_cons_zero, List.getElem?_cons_succ] at a0 a1 a2 a3 a4 a5 a6 a7 a8 a9 a10 a11 a12 a13 a14 a15
  have b0 := HKB.out.cell 0
  have b1 := HKB.out.cell 1
  have b2 := HKB.out.cell 2
  have b3 := HKB.out.cell 3
  have b4 := HKB.out.cell 4
  have b5 := HKB.out.cell 5
  have b6 := HKB.out.cell 6
  have b7 := HKB.out.cell 7
  have b8 := HKB.out.cell 8
  have b9 := HKB.out.cell 9
  have b10 := HKB.out.cell 10
  have b11 := HKB.out.cell 11
  have b12 := HKB.out.cell 12
  have b13 := HKB.out.cell 13
  have b14 := HKB.out.cell 14
  have b15 := HKB.out.cell 15
  simp only [List.getElem?_cons_zero, List.getElem?_cons_succ] at b0 b1 b2 b3 b4 b5 b6 b7 b8 b9 b10 b11 b12 b13 b14 b15
  go_enter Try.func22, Try.ntmps22
  go_wp2_with fail
  have hps : Calls Try.prog 50 #[.slice pA pn pc, .slice pB pn pd] w1 fun e w' => e = .returned (.bool true) ∧ Below w1.heap.size w1 w' := by
    have := refSamePath_any pA pB pn pc pn pd p p w.heap.size w.heap.size w1 (H1.out.path.below HB1.out) (H2.out.path.below HB1.out) HB1.out.size HB1.out.size (by have := H1.out.small; omega) (by have := H1.out.small; omega)
    rw [decide_eq_true (rfl : p = p)] at this
    exact this
  refine hps.mono ?_
  rintro e w2 ⟨rfl, hb⟩
  clear a0 a1 a2 a3 a4 a5 a6 a7 a8 a9 a10 a11 a12 a13 a14 a15 b0 b1 b2 b3 b4 b5 b6 b7 b8 b9 b10 b11 b12 b13 b14 b15 hw1 hps
  have HKA2 := Lib.hid (HKA.out.keep hb)
  have HKB2 := Lib.hid (HKB.out.keep hb)
  have HB2 := Lib.hid (HB1.out.trans (hb.mono HB1.out.size))
  have lA : w.heap.size < w2.heap.size := HKA2.out.lt
  have lB : w.heap.size + 1 < w2.heap.size := HKB2.out.lt
  clear hb HKA HKB HB1 hlt hlt0
  have a0 := HKA2.out.cell 0
  have a1 := HKA2.out.cell 1
  have a2 := HKA2.out.cell 2
  have a3 := HKA2.out.cell 3
  have a4 := HKA2.out.cell 4
  have a5 := HKA2.out.cell 5
  have a6 := HKA2.out.cell 6
  have a7 := HKA2.out.cell 7
  have a8 := HKA2.out.cell 8
  have a9 := HKA2.out.cell 9
  have a10 := HKA2.out.cell 10
  have a11 := HKA2.out.cell 11
  have a12 := HKA2.out.cell 12
  have a13 := HKA2.out.cell 13
  have a14 := HKA2.out.cell 14
  have a15 := HKA2.out.cell 15
  simp only [List.getElem?_cons_zero, List.getElem?_cons_succ] at a0 a1 a2 a3 a4 a5 a6 a7 a8 a9 a10 a11 a12 a13 a14 a15
  have b0 := HKB2.out.cell 0
  have b1 := HKB2.out.cell 1
  have b2 := HKB2.out.cell 2
  have b3 := HKB2.out.cell 3
  have b4 := HKB2.out.cell 4
  have b5 := HKB2.out.cell 5
  have b6 := HKB2.out.cell 6
  have b7 := HKB2.out.cell 7
  have b8 := HKB2.out.cell 8
  have b9 := HKB2.out.cell 9
  have b10 := HKB2.out.cell 10
  have b11 := HKB2.out.cell 11
  have b12 := HKB2.out.cell 12
  have b13 := HKB2.out.cell 13
  have b14 := HKB2.out.cell 14
  have b15 := HKB2.out.cell 15
  simp only [List.getElem?_cons_zero, List.getElem?_cons_succ] at b0 b1 b2 b3 b4 b5 b6 b7 b8 b9 b10 b11 b12 b13 b14 b15
  go_wp2
  clear a0 a1 a2 a3 a4 a5 a6 a7 a8 a9 a10 a11 a12 a13 a14 a15 b0 b1 b2 b3 b4 b5 b6 b7 b8 b9 b10 b11 b12 b13 b14 b15
  go_loopw [106] (fun i wr => ∃ k : Nat, k ≤ un ∧ i = .int .i64 k ∧ Hid (Below w2.heap.size w2 wr)) (fun i _ => un - (intOf i).toNat)
  case atStart => exact ⟨0, Nat.zero_le _, rfl, Below.refl _ _⟩
  case round =>
    obtain ⟨k, hk, rfl, hbw⟩ := hrel
    have HKA3 := Lib.hid (HKA2.out.keep hbw.out)
    have HKB3 := Lib.hid (HKB2.out.keep hbw.out)
    have HB3 := Lib.hid (HB2.out.trans (hbw.out.mono HB2.out.size))
    have lA3 : w.heap.size < wr.heap.size := HKA3.out.lt
    have lB3 : w.heap.size + 1 < wr.heap.size := HKB3.out.lt
    by_cases hlt' : k < un
    case neg =>
      obtain rfl : k = un := by omega
      have a11 := HKA3.out.cell 11
      have b11 := HKB3.out.cell 11
      simp only [List.getElem?_cons_zero, List.getElem?_cons_succ] at a11 b11
      have hc1 : ∀ W, Below wr.heap.size wr W → Calls Try.prog 28 #[.slice cA cn cc, .slice cB cn cd] W fun e w' => e = .returned (.bool true) ∧ Below W.heap.size W w' := fun W hW => by
        have hbw' := HB3.out.trans (hW.mono HB3.out.size)
        have := ref18Same_any cA cB cn cc cn cd w.heap.size w.heap.size cm cm W (H1.out.comm.below hbw') (H2.out.comm.below hbw')
        rw [decide_eq_true (rfl : cm = cm)] at this
        exact this
      have hc2 : ∀ W, Below wr.heap.size wr W → Calls Try.prog 28 #[.slice kA kn kc, .slice kB kn kd] W fun e w' => e = .returned (.bool true) ∧ Below W.heap.size W w' := fun W hW => by
        have hbw' := HB3.out.trans (hW.mono HB3.out.size)
        have := ref18Same_any kA kB kn kc kn kd w.heap.size w.heap.size cl cl W (H1.out.clus.below hbw') (H2.out.clus.below hbw')
        rw [decide_eq_true (rfl : cl = cl)] at this
        exact this
      have HC1 := Lib.hid hc1
      have HC2 := Lib.hid hc2
      clear hc1 hc2
      go_wp2_with fail
      refine (HC1.out wr (Below.refl _ _)).mono ?_
      rintro e w4 ⟨rfl, hb⟩
      have a14 := (HKA3.out.keep hb).cell 14
      have b14 := (HKB3.out.keep hb).cell 14
      have l4 := hb.size
      simp only [List.getElem?_cons_zero, List.getElem?_cons_succ] at a14 b14
      have HB4 := Lib.hid hb
      clear hb a11 b11
      have lA4 : w.heap.size < w4.heap.size := by omega
      have lB4 : w.heap.size + 1 < w4.heap.size := by omega
      go_wp2_with fail
      refine (HC2.out w4 HB4.out).mono ?_
      rintro e w5 ⟨rfl, hb⟩
      have HB5 := Lib.hid (HB3.out.trans ((below3 HB4.out hb).mono HB3.out.size))
      clear hb
      go_wp2
      go_ret
      exact ⟨rfl, HB5.out⟩
    have a15 := HKA3.out.cell 15
    have b15 := HKB3.out.cell 15
    simp only [List.getElem?_cons_zero, List.getElem?_cons_succ] at a15 b15
    obtain ⟨xb, xo, f, rfl, hbX, hf, g0, g1, hi⟩ := (H1.out.unk.below HB3.out).get hlt'
    obtain ⟨yb, yo, g, rfl, hbY, hg, q0, q1, hi2⟩ := (H2.out.unk.below HB3.out).get hlt'
    obtain ⟨yk, fA, fn, fc, xs⟩ := f
    obtain ⟨zk, gA, gn, gc, ys⟩ := g
    dsimp only at g0 g1 hi q0 q1 hi2 hf hg
    have hkey : (SV.mk yk fA fn fc xs).key = (SV.mk zk gA gn gc ys).key := Option.some.inj (hf.out.symm.trans hg.out)
    obtain ⟨rfl, rfl⟩ : yk = zk ∧ xs = ys := Prod.mk.inj hkey
    obtain rfl : fn = gn := by rw [← hi.out.len, ← hi2.out.len]
    have HI := Lib.hid hi.out
    have HI2 := Lib.hid hi2.out
    have hxb : xb < wr.heap.size := by omega
    have hyb : yb < wr.heap.size := by omega
    have k0 : (0 : Int) ≤ (k : Int) := by omega
    have k1 : (k : Int) < (un : Int) := by omega
    have HSS : Hid (∀ V, Below wr.heap.size wr V → V.cell? ⟨w.heap.size, 15, none⟩ = some (.slice (some ⟨xb, xo, none⟩) un uc) ∧ V.cell? ⟨w.heap.size + 1, 15, none⟩ = some (.slice (some ⟨yb, yo, none⟩) un ud) ∧ V.cell? ⟨xb, xo + k * 2, none⟩ = some (.int .i64 yk) ∧ V.cell? ⟨xb, xo + k * 2 + 1, none⟩ = some (.slice fA fn fc) ∧ V.cell? ⟨yb, yo + k * 2, none⟩ = some (.int .i64 yk) ∧ V.cell? ⟨yb, yo + k * 2 + 1, none⟩ = some (.slice gA fn gc)) := fun V h => ⟨(HKA3.out.keep h).cell 15, (HKB3.out.keep h).cell 15, (h.cell (by exact hxb)).trans g0, (h.cell (by exact hxb)).trans g1, (h.cell (by exact hyb)).trans q0, (h.cell (by exact hyb)).trans q1⟩
    have HC0 : Hid (Below wr.heap.size wr wr.drew) := (Below.refl _ _).drew
    clear hf hg hi hi2 hkey a15 b15 g0 g1 q0 q1
    go_upto_region 8 with fail
    refine wp_region_noPanic ?_
    refine wp_region_held_drew (S := fun V => V.cell? ⟨w.heap.size, 15, none⟩ = some (.slice (some ⟨xb, xo, none⟩) un uc) ∧ V.cell? ⟨w.heap.size + 1, 15, none⟩ = some (.slice (some ⟨yb, yo, none⟩) un ud) ∧ V.cell? ⟨xb, xo + k * 2, none⟩ = some (.int .i64 yk) ∧ V.cell? ⟨xb, xo + k * 2 + 1, none⟩ = some (.slice fA fn fc) ∧ V.cell? ⟨yb, yo + k * 2, none⟩ = some (.int .i64 yk) ∧ V.cell? ⟨yb, yo + k * 2 + 1, none⟩ = some (.slice gA fn gc)) (by kernel_rfl) (HSS.out _ HC0.out) (fun hHeld => ?_)
    refine take_in (i := 0) _ (some 109) (by kernel_rfl) (by kernel_rfl) (by kernel_rfl) (by kernel_rfl) (fun _ _ _ h => h) (by rfl) (fun o ho w hSw => by cases ho; (try dsimp only at hSw); (try go_split_ands); go_simp; (try with_reducible rfl)) hHeld ?_
    try simp only [Act.put, List.setIfInBounds_toArray, List.set_cons_zero, List.set_cons_succ]
    refine take_in (i := 1) _ (some 110) (by kernel_rfl) (by kernel_rfl) (by kernel_rfl) (by kernel_rfl) (fun _ _ _ h => h) (by rfl) (fun o ho w hSw => by cases ho; (try dsimp only at hSw); (try go_split_ands); go_simp; (try with_reducible rfl)) hHeld ?_
    try simp only [Act.put, List.setIfInBounds_toArray, List.set_cons_zero, List.set_cons_succ]
    refine take_in (i := 2) _ (some 111) (by kernel_rfl) (by kernel_rfl) (by kernel_rfl) (by kernel_rfl) (fun _ _ _ h => h) (by rfl) (fun o ho w hSw => by cases ho; (try dsimp only at hSw); (try go_split_ands); go_simp; (try with_reducible rfl)) hHeld ?_
    try simp only [Act.put, List.setIfInBounds_toArray, List.set_cons_zero, List.set_cons_succ]
    refine take_in (i := 3) _ (some 112) (by kernel_rfl) (by kernel_rfl) (by kernel_rfl) (by kernel_rfl) (fun _ _ _ h => h) (by rfl) (fun o ho w hSw => by cases ho; (try dsimp only at hSw); (try go_split_ands); go_simp; (try with_reducible rfl)) hHeld ?_
    try simp only [Act.put, List.setIfInBounds_toArray, List.set_cons_zero, List.set_cons_succ]
    refine take_in (i := 4) _ (some 113) (by kernel_rfl) (by kernel_rfl) (by kernel_rfl) (by kernel_rfl) (fun _ _ _ h => h) (by rfl) (fun o ho w hSw => by cases ho; (try dsimp only at hSw); (try go_split_ands); go_simp; (try with_reducible rfl)) hHeld ?_
    try simp only [Act.put, List.setIfInBounds_toArray, List.set_cons_zero, List.set_cons_succ]
    refine take_in (i := 5) _ (some 114) (by kernel_rfl) (by kernel_rfl) (by kernel_rfl) (by kernel_rfl) (fun _ _ _ h => h) (by rfl) (fun o ho w hSw => by cases ho; (try dsimp only at hSw); (try go_split_ands); go_simp; (try with_reducible rfl)) hHeld ?_
    try simp only [Act.put, List.setIfInBounds_toArray, List.set_cons_zero, List.set_cons_succ]
    refine take_in (i := 6) _ (some 115) (by kernel_rfl) (by kernel_rfl) (by kernel_rfl) (by kernel_rfl) (fun _ _ _ h => h) (by rfl) (fun o ho w hSw => by cases ho; (try dsimp only at hSw); (try go_split_ands); go_simp; (try with_reducible rfl)) hHeld ?_
    try simp only [Act.put, List.setIfInBounds_toArray, List.set_cons_zero, List.set_cons_succ]
    refine take_in (i := 7) _ (some 116) (by kernel_rfl) (by kernel_rfl) (by kernel_rfl) (by kernel_rfl) (fun _ _ _ h => h) (by rfl) (fun o ho w hSw => by cases ho; (try dsimp only at hSw); (try go_split_ands); go_simp; (try with_reducible rfl)) hHeld ?_
    try simp only [Act.put, List.setIfInBounds_toArray, List.set_cons_zero, List.set_cons_succ]
    refine take_in (i := 8) _ (some 117) (by kernel_rfl) (by kernel_rfl) (by kernel_rfl) (by kernel_rfl) (fun _ _ _ h => h) (by rfl) (fun o ho w hSw => by cases ho; (try dsimp only at hSw); (try go_split_ands); go_simp; (try with_reducible rfl)) hHeld ?_
    try simp only [Act.put, List.setIfInBounds_toArray, List.set_cons_zero, List.set_cons_succ]
    refine take_in (i := 9) _ (some 118) (by kernel_rfl) (by kernel_rfl) (by kernel_rfl) (by kernel_rfl) (fun _ _ _ h => h) (by rfl) (fun o ho w hSw => by cases ho; (try dsimp only at hSw); (try go_split_ands); go_simp; (try with_reducible rfl)) hHeld ?_
    try simp only [Act.put, List.setIfInBounds_toArray, List.set_cons_zero, List.set_cons_succ]
    refine take_in (i := 10) _ (some 119) (by kernel_rfl) (by kernel_rfl) (by kernel_rfl) (by kernel_rfl) (fun _ _ _ h => h) (by rfl) (fun o ho w hSw => by cases ho; (try dsimp only at hSw); (try go_split_ands); go_simp; (try with_reducible rfl)) hHeld ?_
    try simp only [Act.put, List.setIfInBounds_toArray, List.set_cons_zero, List.set_cons_succ]
    refine take_in (i := 11) _ (some 120) (by kernel_rfl) (by kernel_rfl) (by kernel_rfl) (by kernel_rfl) (fun _ _ _ h => h) (by rfl) (fun o ho w hSw => by cases ho; (try dsimp only at hSw); (try go_split_ands); go_simp; (try with_reducible rfl)) hHeld ?_
    try simp only [Act.put, List.setIfInBounds_toArray, List.set_cons_zero, List.set_cons_succ]
    refine take_in (i := 12) _ (some 121) (by kernel_rfl) (by kernel_rfl) (by kernel_rfl) (by kernel_rfl) (fun _ _ _ h => h) (by rfl) (fun o ho w hSw => by cases ho; (try dsimp only at hSw); (try go_split_ands); go_simp; (try with_reducible rfl)) hHeld ?_
    try simp only [Act.put, List.setIfInBounds_toArray, List.set_cons_zero, List.set_cons_succ]
    refine take_in (i := 13) _ (some 122) (by kernel_rfl) (by kernel_rfl) (by kernel_rfl) (by kernel_rfl) (fun _ _ _ h => h) (by rfl) (fun o ho w hSw => by cases ho; (try dsimp only at hSw); (try go_split_ands); go_simp; (try with_reducible rfl)) hHeld ?_
    try simp only [Act.put, List.setIfInBounds_toArray, List.set_cons_zero, List.set_cons_succ]
    refine take_in (i := 14) _ (some 123) (by kernel_rfl) (by kernel_rfl) (by kernel_rfl) (by kernel_rfl) (fun _ _ _ h => h) (by rfl) (fun o ho w hSw => by cases ho; (try dsimp only at hSw); (try go_split_ands); go_simp; (try with_reducible rfl)) hHeld ?_
    try simp only [Act.put, List.setIfInBounds_toArray, List.set_cons_zero, List.set_cons_succ]
    refine take_in (i := 15) _ (some 124) (by kernel_rfl) (by kernel_rfl) (by kernel_rfl) (by kernel_rfl) (fun _ _ _ h => h) (by rfl) (fun o ho w hSw => by cases ho; (try dsimp only at hSw); (try go_split_ands); go_simp; (try with_reducible rfl)) hHeld ?_
    try simp only [Act.put, List.setIfInBounds_toArray, List.set_cons_zero, List.set_cons_succ]
    refine take_in (i := 16) _ (some 125) (by kernel_rfl) (by kernel_rfl) (by kernel_rfl) (by kernel_rfl) (fun _ _ _ h => h) (by rfl) (fun o ho w hSw => by cases ho; (try dsimp only at hSw); (try go_split_ands); go_simp; (try with_reducible rfl)) hHeld ?_
    try simp only [Act.put, List.setIfInBounds_toArray, List.set_cons_zero, List.set_cons_succ]
    refine take_in (i := 17) _ (some 126) (by kernel_rfl) (by kernel_rfl) (by kernel_rfl) (by kernel_rfl) (fun _ _ _ h => h) (by rfl) (fun o ho w hSw => by cases ho; (try dsimp only at hSw); (try go_split_ands); go_simp; (try with_reducible rfl)) hHeld ?_
    try simp only [Act.put, List.setIfInBounds_toArray, List.set_cons_zero, List.set_cons_succ]
    refine take_in (i := 18) _ (some 127) (by kernel_rfl) (by kernel_rfl) (by kernel_rfl) (by kernel_rfl) (fun _ _ _ h => h) (by rfl) (fun o ho w hSw => by cases ho; (try dsimp only at hSw); (try go_split_ands); go_simp; (try with_reducible rfl)) hHeld ?_
    try simp only [Act.put, List.setIfInBounds_toArray, List.set_cons_zero, List.set_cons_succ]
    refine take_in (i := 19) _ (some 128) (by kernel_rfl) (by kernel_rfl) (by kernel_rfl) (by kernel_rfl) (fun _ _ _ h => h) (by rfl) (fun o ho w hSw => by cases ho; (try dsimp only at hSw); (try go_split_ands); go_simp; (try with_reducible rfl)) hHeld ?_
    try simp only [Act.put, List.setIfInBounds_toArray, List.set_cons_zero, List.set_cons_succ]
    refine take_in (i := 20) _ (some 129) (by kernel_rfl) (by kernel_rfl) (by kernel_rfl) (by kernel_rfl) (fun _ _ _ h => h) (by rfl) (fun o ho w hSw => by cases ho; (try dsimp only at hSw); (try go_split_ands); go_simp; (try with_reducible rfl)) hHeld ?_
    try simp only [Act.put, List.setIfInBounds_toArray, List.set_cons_zero, List.set_cons_succ]
    refine take_in (i := 21) _ (some 130) (by kernel_rfl) (by kernel_rfl) (by kernel_rfl) (by kernel_rfl) (fun _ _ _ h => h) (by rfl) (fun o ho w hSw => by cases ho; (try dsimp only at hSw); (try go_split_ands); go_simp; (try with_reducible rfl)) hHeld ?_
    try simp only [Act.put, List.setIfInBounds_toArray, List.set_cons_zero, List.set_cons_succ]
    refine take_in (i := 22) _ (some 131) (by kernel_rfl) (by kernel_rfl) (by kernel_rfl) (by kernel_rfl) (fun _ _ _ h => h) (by rfl) (fun o ho w hSw => by cases ho; (try dsimp only at hSw); (try go_split_ands); go_simp; (try with_reducible rfl)) hHeld ?_
    try simp only [Act.put, List.setIfInBounds_toArray, List.set_cons_zero, List.set_cons_succ]
    refine take_in (i := 23) _ (some 132) (by kernel_rfl) (by kernel_rfl) (by kernel_rfl) (by kernel_rfl) (fun _ _ _ h => h) (by rfl) (fun o ho w hSw => by cases ho; (try dsimp only at hSw); (try go_split_ands); go_simp; (try with_reducible rfl)) hHeld ?_
    try simp only [Act.put, List.setIfInBounds_toArray, List.set_cons_zero, List.set_cons_succ]
    refine take_in (i := 24) _ (some 133) (by kernel_rfl) (by kernel_rfl) (by kernel_rfl) (by kernel_rfl) (fun _ _ _ h => h) (by rfl) (fun o ho w hSw => by cases ho; (try dsimp only at hSw); (try go_split_ands); go_simp; (try with_reducible rfl)) hHeld ?_
    try simp only [Act.put, List.setIfInBounds_toArray, List.set_cons_zero, List.set_cons_succ]
    refine take_in (i := 25) _ (some 134) (by kernel_rfl) (by kernel_rfl) (by kernel_rfl) (by kernel_rfl) (fun _ _ _ h => h) (by rfl) (fun o ho w hSw => by cases ho; (try dsimp only at hSw); (try go_split_ands); go_simp; (try with_reducible rfl)) hHeld ?_
    try simp only [Act.put, List.setIfInBounds_toArray, List.set_cons_zero, List.set_cons_succ]
    refine wpAnyH_ready (rs := [26]) (by kernel_rfl) (by simp) ?_
    refine AllReadyH.cons (o := _) rfl (fun K hK => ?_) AllReadyH.nil
    go_simp
    go_at_call 51
    with_reducible refine (sameBytes_true fA gA fn fc gc w.heap.size xs _ (HI.out.below (HC0.out.mono HB3.out.size)) (HI2.out.below (HC0.out.mono HB3.out.size))).mono ?_
    rintro e wX ⟨rfl, rfl⟩
    refine hK.out _ _ (HSS.out _ HC0.out) (fun hHeld => ?_)
    clear hK K
    try simp only [Act.put, List.setIfInBounds_toArray, List.set_cons_zero, List.set_cons_succ]
    refine take_in (i := 27) _ (some 136) (by kernel_rfl) (by kernel_rfl) (by kernel_rfl) (by kernel_rfl) (fun _ _ _ h => h) (by rfl) (fun o ho w hSw => by cases ho; (try dsimp only at hSw); (try go_split_ands); go_simp; (try with_reducible rfl)) hHeld ?_
    try simp only [Act.put, List.setIfInBounds_toArray, List.set_cons_zero, List.set_cons_succ]
    refine take_in (i := 28) _ (some 137) (by kernel_rfl) (by kernel_rfl) (by kernel_rfl) (by kernel_rfl) (fun _ _ _ h => h) (by rfl) (fun o ho w hSw => by cases ho; (try dsimp only at hSw); (try go_split_ands); go_simp; (try with_reducible rfl)) hHeld ?_
    try simp only [Act.put, List.setIfInBounds_toArray, List.set_cons_zero, List.set_cons_succ]
    refine wpAnyH_done (by kernel_rfl) ?_ _
    refine NoPanic.normal ?_
    go_wp2
    go_roundw
    case rel => exact ⟨k + 1, by omega, by go_num, hbw.out.drew⟩
    case measure => simp [intOf]; omega
end Go.Proofs.Ytojgohgeagbkbaa
namespace Go.Proofs.Ytojgohgeagbkbaa
open Go.RowKit

set_option linter.unusedVariables false in
set_option linter.unusedSimpArgs false in
set_option maxRecDepth 100000 in
set_option maxHeartbeats 8000000 in
theorem same21_true (spa spl spr shop spref smed smet stag : Int) (fA eA fB eB : Option Addr) (fn fc en ec fd ed : Nat) (fl cms : List Int) (w : World)
    (h1 : Ints w w.heap.size .i64 fA fn fc fl) (h2 : Ints w w.heap.size .u32 eA en ec cms) (h3 : Ints w w.heap.size .i64 fB fn fd fl) (h4 : Ints w w.heap.size .u32 eB en ed cms) :
    Calls Try.prog 16 #[.agg #[.int .u32 spa, .int .i64 spl, .int .i64 spr, .int .u32 shop, .slice fA fn fc, .slice eA en ec, .int .i64 spref, .int .i64 smed, .int .i64 smet, .int .i64 stag], .agg #[.int .u32 spa, .int .i64 spl, .int .i64 spr, .int .u32 shop, .slice fB fn fd, .slice eB en ed, .int .i64 spref, .int .i64 smed, .int .i64 smet, .int .i64 stag]] w fun e w' => e = .returned (.bool true) ∧ Below w.heap.size w w' := by
  obtain ⟨w1, hw1⟩ : ∃ w1, (w.alloc (.cells #[.int .u32 spa, .int .i64 spl, .int .i64 spr, .int .u32 shop, .slice fA fn fc, .slice eA en ec, .int .i64 spref, .int .i64 smed, .int .i64 smet, .int .i64 stag] 54)).alloc (.cells #[.int .u32 spa, .int .i64 spl, .int .i64 spr, .int .u32 shop, .slice fB fn fd, .slice eB en ed, .int .i64 spref, .int .i64 smed, .int .i64 smet, .int .i64 stag] 54) = w1 := ⟨_, rfl⟩
  have hbA : Blk w1 w.heap.size 54 [.int .u32 spa, .int .i64 spl, .int .i64 spr, .int .u32 shop, .slice fA fn fc, .slice eA en ec, .int .i64 spref, .int .i64 smed, .int .i64 smet, .int .i64 stag] := by rw [← hw1]; exact (Blk.new w _ _).keep (belowA _ _)
  have hbB : Blk w1 (w.heap.size + 1) 54 [.int .u32 spa, .int .i64 spl, .int .i64 spr, .int .u32 shop, .slice fB fn fd, .slice eB en ed, .int .i64 spref, .int .i64 smed, .int .i64 smet, .int .i64 stag] := by rw [← hw1]; exact Blk.new2 w _ _ _
  have hb1 : Below w.heap.size w w1 := by rw [← hw1]; exact below3 (belowA _ _) (belowA _ _)
  have HB1 := Lib.hid hb1
  have HKA := Lib.hid hbA
  have HKB := Lib.hid hbB
  have HX := Lib.hid (h1.below hb1)
  have HY := Lib.hid (h3.below hb1)
  have HC := Lib.hid (ref18Same_any eA eB en ec en ed w.heap.size w.heap.size cms cms)
  have H2 := Lib.hid h2
  have H4 := Lib.hid h4
  have hn : fn ≤ 9223372036854775807 := by have h1' := h1.1; have h2' := h1.2.1; simp only [maxLen] at h2'; omega
  have hlt : w.heap.size + 1 < w1.heap.size := hbB.lt
  have hlt0 : w.heap.size < w1.heap.size := by omega
  clear h1 h2 h3 h4 hbA hbB hb1
  have a0 := HKA.out.cell 0
  have a1 := HKA.out.cell 1
  have a2 := HKA.out.cell 2
  have a3 := HKA.out.cell 3
  have a4 := HKA.out.cell 4
  have a5 := HKA.out.cell 5
  have a6 := HKA.out.cell 6
  have a7 := HKA.out.cell 7
  have a8 := HKA.out.cell 8
  have a9 := HKA.out.cell 9
  simp only [List.getElem?_cons_zero, List.getElem?_cons_succ] at a0 a1 a2 a3 a4 a5 a6 a7 a8 a9
  have b0 := HKB.out.cell 0
  have b1 := HKB.out.cell 1
  have b2 := HKB.out.cell 2
  have b3 := HKB.out.cell 3
  have b4 := HKB.out.cell 4
  have b5 := HKB.out.cell 5
  have b6 := HKB.out.cell 6
  have b7 := HKB.out.cell 7
  have b8 := HKB.out.cell 8
  have b9 := HKB.out.cell 9
  simp only [List.getElem?_cons_zero, List.getElem?_cons_succ] at b0 b1 b2 b3 b4 b5 b6 b7 b8 b9
  go_enter Try.func16, Try.ntmps16
  go_wp2
  try rw [hw1]
  clear hw1
  go_loopw [65] (fun i wr => ∃ k : Nat, k ≤ fn ∧ i = .int .i64 k ∧ Hid (Below w1.heap.size w1 wr)) (fun i _ => fn - (intOf i).toNat)
  case atStart => exact ⟨0, Nat.zero_le _, rfl, Below.refl _ _⟩
  case round =>
    obtain ⟨k, hk, rfl, hbw⟩ := hrel
    have HKA1 := Lib.hid (HKA.out.keep hbw.out)
    have HKB1 := Lib.hid (HKB.out.keep hbw.out)
    have HBR := Lib.hid (HB1.out.trans (hbw.out.mono HB1.out.size))
    have lA : w.heap.size < wr.heap.size := by have := hbw.out.size; omega
    have lB : w.heap.size + 1 < wr.heap.size := by have := hbw.out.size; omega
    clear a0 a1 a2 a3 a4 a5 a6 a7 a8 a9 b0 b1 b2 b3 b4 b5 b6 b7 b8 b9
    by_cases hlt' : k < fn
    case neg =>
      obtain rfl : k = fn := by omega
      have a5 := HKA1.out.cell 5
      have b5 := HKB1.out.cell 5
      simp only [List.getElem?_cons_zero, List.getElem?_cons_succ] at a5 b5
      go_wp2_with fail
      refine (HC.out wr (H2.out.below HBR.out) (H4.out.below HBR.out)).mono ?_
      rintro e w2 ⟨rfl, hb⟩
      rw [show decide True = true from rfl]
      have HB2 := Lib.hid (below3 HBR.out hb)
      clear hb
      go_wp2
      go_ret
      exact ⟨rfl, HB2.out⟩
    have a4 := HKA1.out.cell 4
    have b4 := HKB1.out.cell 4
    simp only [List.getElem?_cons_zero, List.getElem?_cons_succ] at a4 b4
    obtain ⟨x2, o2, x, rfl, hb2, gx, hxx⟩ := (HX.out.below (hbw.out.mono HB1.out.size)).cell hlt'
    obtain ⟨y2, p2, y, rfl, hb2', gy, hyy⟩ := (HY.out.below (hbw.out.mono HB1.out.size)).cell hlt'
    obtain rfl : x = y := by rw [← hxx.out, ← hyy.out]
    have lx : x2 < wr.heap.size := by omega
    have ly : y2 < wr.heap.size := by omega
    have k0 : (0 : Int) ≤ (k : Int) := by omega
    have k1 : (k : Int) < (fn : Int) := by omega
    clear hxx hyy HKA1 HKB1
    go_wp2
    go_quiet (fail)
    go_wp2
    go_roundw
    case rel => exact ⟨k + 1, by omega, by go_num, below_drewN hbw.out _⟩
    case measure => simp [intOf]; omega
set_option linter.unusedVariables false in
set_option linter.unusedSimpArgs false in
set_option maxRecDepth 100000 in
set_option maxHeartbeats 4000000 in
theorem large21_any (spa spl spr shop spref smed smet stag : Int) (fA eA : Option Addr) (fn fc en ec : Nat) (fl cms : List Int) (w : World) (hfn : fn ≤ 1000000000) (hen : en ≤ 1000000000) :
    Calls Try.prog 19 #[.agg #[.int .u32 spa, .int .i64 spl, .int .i64 spr, .int .u32 shop, .slice fA fn fc, .slice eA en ec, .int .i64 spref, .int .i64 smed, .int .i64 smet, .int .i64 stag]] w fun e w' => e = .returned (.bool (decide (2100 < fn) || decide (600 < en))) ∧ Below w.heap.size w w' := by
  by_cases h : 2100 < fn
  · have d : decide ((fn : Int) > 2100) = true := by simp; omega
    rw [decide_eq_true h, Bool.true_or]
    clear h
    go_enter Try.func19, Try.ntmps19
    go_wp2
    go_ret
    exact ⟨rfl, belowA _ _⟩
  · have d : decide ((fn : Int) > 2100) = false := by simp; omega
    rw [decide_eq_false h, Bool.false_or]
    clear h
    by_cases h : 600 < en
    · have d2 : decide ((en : Int) > 600) = true := by simp; omega
      rw [decide_eq_true h]
      clear h
      go_enter Try.func19, Try.ntmps19
      go_wp2
      go_ret
      exact ⟨rfl, belowA _ _⟩
    · have d2 : decide ((en : Int) > 600) = false := by simp; omega
      rw [decide_eq_false h]
      clear h
      go_enter Try.func19, Try.ntmps19
      go_wp2
      go_ret
      exact ⟨rfl, belowA _ _⟩
end Go.Proofs.Ytojgohgeagbkbaa
namespace Go.Proofs.Ytojgohgeagbkbaa
open Go.RowKit

set_option linter.unusedVariables false
set_option linter.unusedSimpArgs false
theorem flat_bits9 : ∀ us : Path, (flat us).length ≤ 8 * bits8 us + 7 * us.length
  | [] => by simp [flat, bits8]
  | s :: r => by
    have h1 := flat_bits9 r
    have e1 : bits8 (s :: r) = s.2.length / 8 + bits8 r := by simp [bits8]
    have e2 : (flat (s :: r)).length = s.2.length + (flat r).length := by simp [flat]
    rw [e1, e2, List.length_cons]
    omega
theorem or_small {a b : Nat} (h : (decide (2100 < a) || decide (600 < b)) = false) : a ≤ 2100 ∧ b ≤ 600 := by
  rw [Bool.or_eq_false_iff, decide_eq_false_iff_not, decide_eq_false_iff_not] at h
  omega
set_option maxRecDepth 100000 in
set_option maxHeartbeats 8000000 in
theorem changedLaw (og hop med pref aas aad ori : Int) (hm hp atm ha ho : Bool) (pA cA kA uA : Option Addr) (pn pc cn cc kn kc un uc : Nat) (p us : Path) (cm cl : List Int) (spab splb sprb shopb sprefb smedb smetb stagb : Int) (fAb eAb : Option Addr) (fnb fcb enb ecb : Nat) (flb cmsb : List Int) (spaa spla spra shopa sprefa smeda smeta staga : Int) (fAa eAa : Option Addr) (fna fca ena eca : Nat) (fla cmsa : List Int) (w : World) (hL : Lists w w.heap.size pA cA kA uA pn pc cn cc kn kc un uc p cm cl us) (hs : (flat p).length ≤ 1048576) (hus : (flat us).length ≤ 1048576)
    (hbp : Ints w w.heap.size .i64 fAb fnb fcb flb) (hfb : fnb ≤ 1048576) (heb : enb ≤ 1048576) (hap : Ints w w.heap.size .i64 fAa fna fca fla) (hac : Ints w w.heap.size .u32 eAa ena eca cmsa) (hfa : fna ≤ 1048576) (hea : ena ≤ 1048576) :
    Calls Try.prog 6 #[.agg #[.int .i64 og, .slice pA pn pc, .int .u32 hop, .bool hm, .int .i64 med, .bool hp, .int .i64 pref, .bool atm, .bool ha, .int .i64 aas, .int .u32 aad, .slice cA cn cc, .bool ho, .int .u32 ori, .slice kA kn kc, .slice uA un uc], .agg #[.int .u32 spab, .int .i64 splb, .int .i64 sprb, .int .u32 shopb, .slice fAb fnb fcb, .slice eAb enb ecb, .int .i64 sprefb, .int .i64 smedb, .int .i64 smetb, .int .i64 stagb], .agg #[.int .u32 spaa, .int .i64 spla, .int .i64 spra, .int .u32 shopa, .slice fAa fna fca, .slice eAa ena eca, .int .i64 sprefa, .int .i64 smeda, .int .i64 smeta, .int .i64 staga]] w fun e w' => e = .returned (.bool true) ∧ Below w.heap.size w w' := by
  have HL := Lib.hid hL
  have HBP := Lib.hid hbp
  have HAP := Lib.hid hap
  have HAC := Lib.hid hac
  have HAL := Lib.hid hap.len
  obtain ⟨w1, hw1⟩ : ∃ w1, ((w.alloc (.cells #[.int .i64 og, .slice pA pn pc, .int .u32 hop, .bool hm, .int .i64 med, .bool hp, .int .i64 pref, .bool atm, .bool ha, .int .i64 aas, .int .u32 aad, .slice cA cn cc, .bool ho, .int .u32 ori, .slice kA kn kc, .slice uA un uc] 40)).alloc (.cells #[.int .u32 spab, .int .i64 splb, .int .i64 sprb, .int .u32 shopb, .slice fAb fnb fcb, .slice eAb enb ecb, .int .i64 sprefb, .int .i64 smedb, .int .i64 smetb, .int .i64 stagb] 54)).alloc (.cells #[.int .u32 spaa, .int .i64 spla, .int .i64 spra, .int .u32 shopa, .slice fAa fna fca, .slice eAa ena eca, .int .i64 sprefa, .int .i64 smeda, .int .i64 smeta, .int .i64 staga] 54) = w1 := ⟨_, rfl⟩
  have hbA : Blk w1 w.heap.size 40 [.int .i64 og, .slice pA pn pc, .int .u32 hop, .bool hm, .int .i64 med, .bool hp, .int .i64 pref, .bool atm, .bool ha, .int .i64 aas, .int .u32 aad, .slice cA cn cc, .bool ho, .int .u32 ori, .slice kA kn kc, .slice uA un uc] := by rw [← hw1]; exact ((Blk.new w _ _).keep (belowA _ _)).keep (belowA _ _)
  have hbB : Blk w1 (w.heap.size + 1) 54 [.int .u32 spab, .int .i64 splb, .int .i64 sprb, .int .u32 shopb, .slice fAb fnb fcb, .slice eAb enb ecb, .int .i64 sprefb, .int .i64 smedb, .int .i64 smetb, .int .i64 stagb] := by rw [← hw1]; exact (Blk.new2 w _ _ _).keep (belowA _ _)
  have hbS : Blk w1 (w.heap.size + 2) 54 [.int .u32 spaa, .int .i64 spla, .int .i64 spra, .int .u32 shopa, .slice fAa fna fca, .slice eAa ena eca, .int .i64 sprefa, .int .i64 smeda, .int .i64 smeta, .int .i64 staga] := by
    rw [← hw1]
    have := Blk.new2 (w.alloc (.cells #[.int .i64 og, .slice pA pn pc, .int .u32 hop, .bool hm, .int .i64 med, .bool hp, .int .i64 pref, .bool atm, .bool ha, .int .i64 aas, .int .u32 aad, .slice cA cn cc, .bool ho, .int .u32 ori, .slice kA kn kc, .slice uA un uc] 40)) (.cells #[.int .u32 spab, .int .i64 splb, .int .i64 sprb, .int .u32 shopb, .slice fAb fnb fcb, .slice eAb enb ecb, .int .i64 sprefb, .int .i64 smedb, .int .i64 smetb, .int .i64 stagb] 54) 54 #[.int .u32 spaa, .int .i64 spla, .int .i64 spra, .int .u32 shopa, .slice fAa fna fca, .slice eAa ena eca, .int .i64 sprefa, .int .i64 smeda, .int .i64 smeta, .int .i64 staga]
    rw [World.size_alloc] at this
    exact this
  have hb1 : Below w.heap.size w w1 := by rw [← hw1]; exact below3 (below3 (belowA _ _) (belowA _ _)) (belowA _ _)
  have HB1 := Lib.hid hb1
  have HKA := Lib.hid hbA
  have HKB := Lib.hid hbB
  have HKS := Lib.hid hbS
  have HC := Lib.hid (large36_any og hop med pref aas aad ori hm hp atm ha ho pA cA kA uA pn pc cn cc kn kc un uc p us cm cl w1 (HL.out.grow hb1 (Nat.le_refl _)) hs hus)
  have hpl := hL.path.len
  have HSZ : Hid (¬ 3000 < sizeR p cm cl us → p.length + (flat p).length ≤ 3000 ∧ (flat us).length ≤ 100000) := by
    intro h
    have h1 := flat_bits9 us
    unfold sizeR size0 at h
    omega
  clear hL hbp hap hac hbA hbB hbS hb1 hpl hs hus
  go_enter Try.func6, Try.ntmps6
  go_wp2_with (first | (rw [hw1]; refine wpList_load_blk rfl 40 _ rfl w.heap.size rfl HKA.out _ Try.underlying40 rfl (by kernel_rfl) ?_) | (refine wpList_load_blk rfl 40 _ rfl w.heap.size rfl HKA.out _ Try.underlying40 rfl (by kernel_rfl) ?_))
  refine HC.out.mono ?_
  rintro e w2 ⟨rfl, hb⟩
  clear HC hw1
  have HKA2 := Lib.hid (HKA.out.keep hb)
  have HKB2 := Lib.hid (HKB.out.keep hb)
  have HKS2 := Lib.hid (HKS.out.keep hb)
  have HB2 := Lib.hid (HB1.out.trans (hb.mono HB1.out.size))
  clear hb HKA HKB HKS HB1
  by_cases hl : 3000 < sizeR p cm cl us
  case pos =>
    rw [decide_eq_true hl]
    clear hl HSZ
    go_wp2_with fail
    refine (awake41_any w2).mono ?_
    rintro e w3 ⟨rfl, hb⟩
    have HB3 := Lib.hid (below3 HB2.out hb)
    clear hb
    go_wp2
    go_ret
    exact ⟨rfl, HB3.out⟩
  have HSM := Lib.hid (HSZ.out hl)
  rw [decide_eq_false hl]
  clear hl HSZ
  go_wp2_with (first | (refine wpList_load_blkG (by rfl) 54 _ rfl (w.heap.size + 1) rfl HKB2.out _ Try.underlying54 rfl (by kernel_rfl) ?_) | fail)
  refine (large21_any spab splb sprb shopb sprefb smedb smetb stagb fAb eAb fnb fcb enb ecb flb cmsb w2 (by omega) (by omega)).mono ?_
  rintro e w3 ⟨rfl, hb⟩
  have HKA3 := Lib.hid (HKA2.out.keep hb)
  have HKB3 := Lib.hid (HKB2.out.keep hb)
  have HKS3 := Lib.hid (HKS2.out.keep hb)
  have HB3 := Lib.hid (below3 HB2.out hb)
  clear hb HKA2 HKB2 HKS2 HB2
  obtain ⟨g1, hg1⟩ : ∃ g1, (decide (2100 < fnb) || decide (600 < enb)) = g1 := ⟨_, rfl⟩
  rw [hg1]
  have HG1 := Lib.hid hg1
  clear hg1
  cases g1
  case true =>
    go_wp2_with fail
    refine (awake41_any w3).mono ?_
    rintro e w4 ⟨rfl, hb⟩
    have HB4 := Lib.hid (below3 HB3.out hb)
    clear hb
    go_wp2
    go_ret
    exact ⟨rfl, HB4.out⟩
  go_wp2_with (first | (refine wpList_load_blkG (by rfl) 54 _ rfl (w.heap.size + 2) rfl HKS3.out _ Try.underlying54 rfl (by kernel_rfl) ?_) | fail)
  refine (large21_any spaa spla spra shopa sprefa smeda smeta staga fAa eAa fna fca ena eca fla cmsa w3 (by omega) (by omega)).mono ?_
  rintro e w4 ⟨rfl, hb⟩
  have HKA4 := Lib.hid (HKA3.out.keep hb)
  have HKB4 := Lib.hid (HKB3.out.keep hb)
  have HKS4 := Lib.hid (HKS3.out.keep hb)
  have HB4 := Lib.hid (below3 HB3.out hb)
  clear hb HKA3 HKB3 HKS3 HB3
  obtain ⟨g2, hg2⟩ : ∃ g2, (decide (2100 < fna) || decide (600 < ena)) = g2 := ⟨_, rfl⟩
  rw [hg2]
  have HG2 := Lib.hid hg2
  clear hg2
  cases g2
  case true =>
    go_wp2_with fail
    refine (awake41_any w4).mono ?_
    rintro e w5 ⟨rfl, hb⟩
    have HB5 := Lib.hid (below3 HB4.out hb)
    clear hb
    go_wp2
    go_ret
    exact ⟨rfl, HB5.out⟩
  have hG1 := or_small HG1.out
  have hG2 := or_small HG2.out
  have hln : p.length + (flat p).length + fla.length ≤ 300000 := by have h1 := HSM.out; have h2 := HAL.out; omega
  have hfu : (flat us).length ≤ 1000000 := by have h1 := HSM.out; omega
  obtain ⟨⟨b, er⟩, hbr⟩ : ∃ x : Att × Int, changedR ⟨og, p, hop, hm, med, hp, pref, atm, ha, aas, aad, cm, ho, ori, cl, us⟩ flb sprefb smedb fla cmsa shopa sprefa smeda = x := ⟨_, rfl⟩
  have HC1 : Hid (∀ W, Below w4.heap.size w4 W → Calls Try.prog 20 #[.agg #[.int .i64 og, .slice pA pn pc, .int .u32 hop, .bool hm, .int .i64 med, .bool hp, .int .i64 pref, .bool atm, .bool ha, .int .i64 aas, .int .u32 aad, .slice cA cn cc, .bool ho, .int .u32 ori, .slice kA kn kc, .slice uA un uc], .agg #[.int .u32 spab, .int .i64 splb, .int .i64 sprb, .int .u32 shopb, .slice fAb fnb fcb, .slice eAb enb ecb, .int .i64 sprefb, .int .i64 smedb, .int .i64 smetb, .int .i64 stagb], .agg #[.int .u32 spaa, .int .i64 spla, .int .i64 spra, .int .u32 shopa, .slice fAa fna fca, .slice eAa ena eca, .int .i64 sprefa, .int .i64 smeda, .int .i64 smeta, .int .i64 staga]] W (GivesAtt (b, er) W)) := by
    intro W hW
    have hbw := HB4.out.trans (hW.mono HB4.out.size)
    have := changed_any og hop med pref aas aad ori hm hp atm ha ho pA cA kA uA pn pc cn cc kn kc un uc p us cm cl spab splb sprb shopb sprefb smedb smetb stagb fAb eAb fnb fcb enb ecb flb cmsb spaa spla spra shopa sprefa smeda smeta staga fAa eAa fna fca ena eca fla cmsa W (HL.out.grow hbw (Nat.le_refl _)) ((HBP.out.below hbw).more hbw.size) ((HAP.out.below hbw).more hbw.size) ((HAC.out.below hbw).more hbw.size) (by omega) hfu (by omega) (by omega)
    rw [hbr] at this
    exact this
  have HC2 : Hid (∀ W, Below w4.heap.size w4 W → Calls Try.prog 21 #[.agg #[.int .i64 og, .slice pA pn pc, .int .u32 hop, .bool hm, .int .i64 med, .bool hp, .int .i64 pref, .bool atm, .bool ha, .int .i64 aas, .int .u32 aad, .slice cA cn cc, .bool ho, .int .u32 ori, .slice kA kn kc, .slice uA un uc], .agg #[.int .u32 spab, .int .i64 splb, .int .i64 sprb, .int .u32 shopb, .slice fAb fnb fcb, .slice eAb enb ecb, .int .i64 sprefb, .int .i64 smedb, .int .i64 smetb, .int .i64 stagb], .agg #[.int .u32 spaa, .int .i64 spla, .int .i64 spra, .int .u32 shopa, .slice fAa fna fca, .slice eAa ena eca, .int .i64 sprefa, .int .i64 smeda, .int .i64 smeta, .int .i64 staga]] W (GivesAtt (b, er) W)) := by
    intro W hW
    have hbw := HB4.out.trans (hW.mono HB4.out.size)
    have := refChanged_any og hop med pref aas aad ori hm hp atm ha ho pA cA kA uA pn pc cn cc kn kc un uc p us cm cl spab splb sprb shopb sprefb smedb smetb stagb fAb eAb fnb fcb enb ecb flb cmsb spaa spla spra shopa sprefa smeda smeta staga fAa eAa fna fca ena eca fla cmsa W (HL.out.grow hbw (Nat.le_refl _)) ((HBP.out.below hbw).more hbw.size) ((HAP.out.below hbw).more hbw.size) ((HAC.out.below hbw).more hbw.size) (by omega) hfu (by omega) (by omega)
    rw [hbr] at this
    exact this
  clear hbr hG1 hG2 hln hfu hfb heb hfa hea HG1 HG2
  obtain ⟨ogz, pz, hopz, hmz, medz, hpz, prefz, atmz, haz, aasz, aadz, cmz, hoz, oriz, clz, usz⟩ := b
  go_wp2_with (first | (refine wpList_load_blk rfl 40 _ rfl w.heap.size rfl HKA4.out _ Try.underlying40 rfl (by kernel_rfl) ?_) | (refine wpList_load_blk rfl 54 _ rfl (w.heap.size + 1) rfl HKB4.out _ Try.underlying54 rfl (by kernel_rfl) ?_) | (refine wpList_load_blk rfl 54 _ rfl (w.heap.size + 2) rfl HKS4.out _ Try.underlying54 rfl (by kernel_rfl) ?_))
  refine (HC1.out w4 (Below.refl _ _)).mono ?_
  rintro e w5 ⟨pAz, cAz, kAz, uAz, pnz, pcz, cnz, ccz, knz, kcz, unz, ucz, rfl, hL5, hb⟩
  dsimp only at hL5 ⊢
  have HL5 := Lib.hid hL5
  have HKA5 := Lib.hid (HKA4.out.keep hb)
  have HKB5 := Lib.hid (HKB4.out.keep hb)
  have HKS5 := Lib.hid (HKS4.out.keep hb)
  have HB45 := Lib.hid hb
  clear hb hL5 HKA4 HKB4 HKS4
  have HZ6 : Hid (Blk (w5.alloc (.cells #[.int .i64 0, .slice none 0 0, .int .u32 0, .bool false, .int .i64 0, .bool false, .int .i64 0, .bool false, .bool false, .int .i64 0, .int .u32 0, .slice none 0 0, .bool false, .int .u32 0, .slice none 0 0, .slice none 0 0] 40)) w5.heap.size 40 [.int .i64 0, .slice none 0 0, .int .u32 0, .bool false, .int .i64 0, .bool false, .int .i64 0, .bool false, .bool false, .int .i64 0, .int .u32 0, .slice none 0 0, .bool false, .int .u32 0, .slice none 0 0, .slice none 0 0]) := Blk.new w5 _ _
  obtain ⟨w6, hw6⟩ : ∃ w6, (w5.alloc (.cells #[.int .i64 0, .slice none 0 0, .int .u32 0, .bool false, .int .i64 0, .bool false, .int .i64 0, .bool false, .bool false, .int .i64 0, .int .u32 0, .slice none 0 0, .bool false, .int .u32 0, .slice none 0 0, .slice none 0 0] 40)).setRow w5.heap.size #[.int .i64 ogz, .slice pAz pnz pcz, .int .u32 hopz, .bool hmz, .int .i64 medz, .bool hpz, .int .i64 prefz, .bool atmz, .bool haz, .int .i64 aasz, .int .u32 aadz, .slice cAz cnz ccz, .bool hoz, .int .u32 oriz, .slice kAz knz kcz, .slice uAz unz ucz] = w6 := ⟨_, rfl⟩
  have hbX : Blk w6 w5.heap.size 40 [.int .i64 ogz, .slice pAz pnz pcz, .int .u32 hopz, .bool hmz, .int .i64 medz, .bool hpz, .int .i64 prefz, .bool atmz, .bool haz, .int .i64 aasz, .int .u32 aadz, .slice cAz cnz ccz, .bool hoz, .int .u32 oriz, .slice kAz knz kcz, .slice uAz unz ucz] := by rw [← hw6]; exact (box_new [.int .i64 0, .slice none 0 0, .int .u32 0, .bool false, .int .i64 0, .bool false, .int .i64 0, .bool false, .bool false, .int .i64 0, .int .u32 0, .slice none 0 0, .bool false, .int .u32 0, .slice none 0 0, .slice none 0 0] _).1
  have hb6 : Below w5.heap.size w5 w6 := by rw [← hw6]; exact (box_new [.int .i64 0, .slice none 0 0, .int .u32 0, .bool false, .int .i64 0, .bool false, .int .i64 0, .bool false, .bool false, .int .i64 0, .int .u32 0, .slice none 0 0, .bool false, .int .u32 0, .slice none 0 0, .slice none 0 0] _).2
  have HKX := Lib.hid hbX
  have HKA6 := Lib.hid (HKA5.out.keep hb6)
  have HKB6 := Lib.hid (HKB5.out.keep hb6)
  have HKS6 := Lib.hid (HKS5.out.keep hb6)
  have HB46 := Lib.hid (below3 HB45.out hb6)
  have HL6 := Lib.hid (HL5.out.grow hb6 (Nat.le_refl _))
  clear hbX hb6
  go_upto_region 4 with (refine wpList_store_blk (cs := [.int .i64 ogz, .slice pAz pnz pcz, .int .u32 hopz, .bool hmz, .int .i64 medz, .bool hpz, .int .i64 prefz, .bool atmz, .bool haz, .int .i64 aasz, .int .u32 aadz, .slice cAz cnz ccz, .bool hoz, .int .u32 oriz, .slice kAz knz kcz, .slice uAz unz ucz]) rfl 40 _ _ rfl w5.heap.size rfl rfl HZ6.out (by kernel_rfl) rfl (by kernel_rfl) ?_)
  try rw [hw6]
  obtain ⟨M, hM⟩ : ∃ M, w5.heap.size = M := ⟨_, rfl⟩
  rw [hM] at HKX ⊢
  clear hw6 HZ6 HKA5 HKB5 HKS5 HB45 HL5 hM
  go_wp2_with (first | (refine wpList_load_blk rfl 40 _ rfl w.heap.size rfl HKA6.out _ Try.underlying40 rfl (by kernel_rfl) ?_) | (refine wpList_load_blk rfl 54 _ rfl (w.heap.size + 1) rfl HKB6.out _ Try.underlying54 rfl (by kernel_rfl) ?_) | (refine wpList_load_blk rfl 54 _ rfl (w.heap.size + 2) rfl HKS6.out _ Try.underlying54 rfl (by kernel_rfl) ?_))
  refine (HC2.out w6 HB46.out).mono ?_
  rintro e w7 ⟨pB, cB, kB, uB, pn2, pd, cn2, cd, kn2, kd, un2, ud, rfl, hL7, hb⟩
  dsimp only at hL7 ⊢
  obtain rfl : pn2 = pnz := by rw [← hL7.path.len, ← HL6.out.path.len]
  obtain rfl : cn2 = cnz := by rw [← hL7.comm.len, ← HL6.out.comm.len]
  obtain rfl : kn2 = knz := by rw [← hL7.clus.len, ← HL6.out.clus.len]
  obtain rfl : un2 = unz := by rw [← hL7.unk.len, ← HL6.out.unk.len]
  have HL7 := Lib.hid hL7
  have HKX7 := Lib.hid (HKX.out.keep hb)
  have HL67 := Lib.hid (HL6.out.grow hb (Nat.le_refl _))
  have HB7 := Lib.hid (HB4.out.trans ((below3 HB46.out hb).mono HB4.out.size))
  clear hb hL7 HKX HL6 HKA6 HKB6 HKS6 HB46 HC1 HC2 HB4
  have HZ8 : Hid (Blk (w7.alloc (.cells #[.int .i64 0, .slice none 0 0, .int .u32 0, .bool false, .int .i64 0, .bool false, .int .i64 0, .bool false, .bool false, .int .i64 0, .int .u32 0, .slice none 0 0, .bool false, .int .u32 0, .slice none 0 0, .slice none 0 0] 40)) w7.heap.size 40 [.int .i64 0, .slice none 0 0, .int .u32 0, .bool false, .int .i64 0, .bool false, .int .i64 0, .bool false, .bool false, .int .i64 0, .int .u32 0, .slice none 0 0, .bool false, .int .u32 0, .slice none 0 0, .slice none 0 0]) := Blk.new w7 _ _
  obtain ⟨w8, hw8⟩ : ∃ w8, (w7.alloc (.cells #[.int .i64 0, .slice none 0 0, .int .u32 0, .bool false, .int .i64 0, .bool false, .int .i64 0, .bool false, .bool false, .int .i64 0, .int .u32 0, .slice none 0 0, .bool false, .int .u32 0, .slice none 0 0, .slice none 0 0] 40)).setRow w7.heap.size #[.int .i64 ogz, .slice pB pn2 pd, .int .u32 hopz, .bool hmz, .int .i64 medz, .bool hpz, .int .i64 prefz, .bool atmz, .bool haz, .int .i64 aasz, .int .u32 aadz, .slice cB cn2 cd, .bool hoz, .int .u32 oriz, .slice kB kn2 kd, .slice uB un2 ud] = w8 := ⟨_, rfl⟩
  have hbY : Blk w8 w7.heap.size 40 [.int .i64 ogz, .slice pB pn2 pd, .int .u32 hopz, .bool hmz, .int .i64 medz, .bool hpz, .int .i64 prefz, .bool atmz, .bool haz, .int .i64 aasz, .int .u32 aadz, .slice cB cn2 cd, .bool hoz, .int .u32 oriz, .slice kB kn2 kd, .slice uB un2 ud] := by rw [← hw8]; exact (box_new [.int .i64 0, .slice none 0 0, .int .u32 0, .bool false, .int .i64 0, .bool false, .int .i64 0, .bool false, .bool false, .int .i64 0, .int .u32 0, .slice none 0 0, .bool false, .int .u32 0, .slice none 0 0, .slice none 0 0] _).1
  have hb8 : Below w7.heap.size w7 w8 := by rw [← hw8]; exact (box_new [.int .i64 0, .slice none 0 0, .int .u32 0, .bool false, .int .i64 0, .bool false, .int .i64 0, .bool false, .bool false, .int .i64 0, .int .u32 0, .slice none 0 0, .bool false, .int .u32 0, .slice none 0 0, .slice none 0 0] _).2
  have HKY := Lib.hid hbY
  have HKX8 := Lib.hid (HKX7.out.keep hb8)
  have HB8 := Lib.hid (below3 HB7.out hb8)
  have HLA := Lib.hid (HL67.out.grow hb8 (Nat.le_refl _))
  have HLB := Lib.hid (HL7.out.grow hb8 (Nat.le_refl _))
  clear hbY hb8
  go_upto_region 5 with (refine wpList_store_blk (cs := [.int .i64 ogz, .slice pB pn2 pd, .int .u32 hopz, .bool hmz, .int .i64 medz, .bool hpz, .int .i64 prefz, .bool atmz, .bool haz, .int .i64 aasz, .int .u32 aadz, .slice cB cn2 cd, .bool hoz, .int .u32 oriz, .slice kB kn2 kd, .slice uB un2 ud]) rfl 40 _ _ rfl w7.heap.size rfl rfl HZ8.out (by kernel_rfl) rfl (by kernel_rfl) ?_)
  try rw [hw8]
  obtain ⟨M2, hM2⟩ : ∃ M2, w7.heap.size = M2 := ⟨_, rfl⟩
  rw [hM2] at HKY ⊢
  clear hw8 HZ8 HKX7 HB7 HL67 HL7 hM2
  have hee : (er == er) = true := by simp
  go_wp2_with (first | (refine wpList_load_blkG (by rfl) 40 _ rfl M rfl HKX8.out _ Try.underlying40 rfl (by kernel_rfl) ?_) | (refine wpList_load_blkG (by rfl) 40 _ rfl M2 rfl HKY.out _ Try.underlying40 rfl (by kernel_rfl) ?_) | fail)
  refine (same36_true ogz hopz medz prefz aasz aadz oriz hmz hpz atmz haz hoz pAz cAz kAz uAz pn2 pcz cn2 ccz kn2 kcz un2 ucz pz usz cmz clz pB cB kB uB pd cd kd ud w8 HLA.out HLB.out).mono ?_
  rintro e w9 ⟨rfl, hb⟩
  have HB9 := Lib.hid (below3 HB8.out hb)
  clear hb
  go_wp2_with fail
  refine (awake41_any w9).mono ?_
  rintro e wa ⟨rfl, hb⟩
  have HBA := Lib.hid (below3 HB9.out hb)
  clear hb
  go_wp2
  go_ret
  exact ⟨rfl, HBA.out⟩
theorem advertiseChanged_walk (v0 v1 v2 : Value) (w : World) (h0 : AttIn w v0) (h1 : SubjIn w v1) (h2 : SubjIn w v2) :
    Calls Try.prog 6 #[v0, v1, v2] w fun e w' => e = .returned (.bool true) ∧ Below w.heap.size w w' := by
  obtain ⟨og, hop, med, pref, aas, aad, ori, hm, hp, atm, ha, ho, pA, cA, kA, uA, pn, pc, cn, cc, kn, kc, un, uc, p, us, cm, cl, rfl, hL, hs, hus⟩ := h0
  obtain ⟨spab, splb, sprb, shopb, sprefb, smedb, smetb, stagb, fAb, eAb, fnb, fcb, enb, ecb, flb, cmsb, rfl, hb1, hb2, hb3, hb4⟩ := h1
  obtain ⟨spaa, spla, spra, shopa, sprefa, smeda, smeta, staga, fAa, eAa, fna, fca, ena, eca, fla, cmsa, rfl, ha1, ha2, ha3, ha4⟩ := h2
  exact changedLaw og hop med pref aas aad ori hm hp atm ha ho pA cA kA uA pn pc cn cc kn kc un uc p us cm cl spab splb sprb shopb sprefb smedb smetb stagb fAb eAb fnb fcb enb ecb flb cmsb spaa spla spra shopa sprefa smeda smeta staga fAa eAa fna fca ena eca fla cmsa w hL hs hus hb1 hb3 hb4 ha1 ha2 ha3 ha4
end Go.Proofs.Ytojgohgeagbkbaa
