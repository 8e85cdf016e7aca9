/- The document's comparison of attributes: equal ones. -/
import Derived.Test.YtojgohgeagbkbaaAccR
import Derived.Test.YtojgohgeagbkbaaRow
import Derived.Test.YtojgohgeagbkbaaSame17
import Derived.BigQuiet
import Derived.Laws.BytesArg
import Derived.Laws.BytesString
namespace Go.Proofs.Ytojgohgeagbkbaa
open Go.RowKit

theorem conv_bytes {w : World} {B n c : Nat} {A : Option Addr} {xs : List Int} (h : Ints w B .u8 A n c xs) : (convert 86 9 (.slice A n c)).run Try.prog w = .ok (.string (strOfNums xs)) w := by
  have hl := h.len
  cases A with
  | none =>
    have hn : n = 0 := by
      rcases Nat.eq_zero_or_pos n with h0 | h0
      · exact h0
      · obtain ⟨b, o, e, _⟩ := h.2.2.2 h0
        cases e
    subst hn
    rw [run_convert_bytes_nil w 86 5 Try.underlying86 Try.underlying5 0 c _ Try.underlying9]
    rw [List.length_eq_zero_iff.1 hl]
    rfl
  | some a =>
    rcases Nat.eq_zero_or_pos n with h0 | h0
    · subst h0
      rw [List.length_eq_zero_iff.1 hl]
      rw [run_convert_bytes_string w 86 9 5 _ 0 c Try.underlying86 Try.underlying5 Try.underlying9]
      rw [run_bytesToString w a 0 c [] rfl]
      rfl
    · obtain ⟨b, o, e, _, _⟩ := h.2.2.2 h0
      obtain rfl := Option.some.inj e
      refine run_convert_bytes_arg w 86 5 Try.underlying86 Try.underlying5 b o n c xs hl (fun i hi => ?_) _ Try.underlying9
      obtain ⟨b', o', x, e', _, g, hx⟩ := h.cell hi
      have e2 := Option.some.inj e'
      obtain ⟨rfl, rfl⟩ : b = b' ∧ o = o' := by
        injection e2 with e3 e4 e5
        exact ⟨e3, e4⟩
      rw [g, hx.out]
set_option linter.unusedVariables false
set_option linter.unusedSimpArgs false
theorem sameBytes_true (A D : Option Addr) (n c d B : Nat) (xs : List Int) (w : World) (h1 : Ints w B .u8 A n c xs) (h2 : Ints w B .u8 D n d xs) :
    Calls Try.prog 51 #[.slice A n c, .slice D n d] w fun e w' => e = .returned (.bool true) ∧ w = w' := by
  have e1 := conv_bytes h1
  have e2 := conv_bytes h2
  obtain ⟨s, hs⟩ : ∃ s, strOfNums xs = s := ⟨_, rfl⟩
  rw [hs] at e1 e2
  clear h1 h2 hs
  go_enter Try.func51, Try.ntmps51
  go_wp2
  go_ret
  exact ⟨by simp, rfl⟩
set_option maxRecDepth 100000 in
set_option maxHeartbeats 8000000 in
theorem same36_true (og hop med pref aas aad ori : Int) (hm hp atm ha ho : Bool) (pA cA kA uA : Option Addr) (pn pc cn cc kn kc un uc : Nat) (p us : Path) (cm cl : List Int) (pB cB kB uB : Option Addr) (pd cd kd ud : Nat) (w : World) (h1 : Lists w w.heap.size pA cA kA uA pn pc cn cc kn kc un uc p cm cl us) (h2 : Lists w w.heap.size pB cB kB uB pn pd cn cd kn kd un ud p cm cl us) :
    Calls Try.prog 22 #[.agg #[.int .i64 og, .slice pA pn pc, .int .u32 hop, .bool hm, .int .i64 med, .bool hp, .int .i64 pref, .bool atm, .bool ha, .int .i64 aas, .int .u32 aad, .slice cA cn cc, .bool ho, .int .u32 ori, .slice kA kn kc, .slice uA un uc], .agg #[.int .i64 og, .slice pB pn pd, .int .u32 hop, .bool hm, .int .i64 med, .bool hp, .int .i64 pref, .bool atm, .bool ha, .int .i64 aas, .int .u32 aad, .slice cB cn cd, .bool ho, .int .u32 ori, .slice kB kn kd, .slice uB un ud]] w fun e w' => e = .returned (.bool true) ∧ Below w.heap.size w w' := by
  obtain ⟨w1, hw1⟩ : ∃ w1, (w.alloc (.cells #[.int .i64 og, .slice pA pn pc, .int .u32 hop, .bool hm, .int .i64 med, .bool hp, .int .i64 pref, .bool atm, .bool ha, .int .i64 aas, .int .u32 aad, .slice cA cn cc, .bool ho, .int .u32 ori, .slice kA kn kc, .slice uA un uc] 40)).alloc (.cells #[.int .i64 og, .slice pB pn pd, .int .u32 hop, .bool hm, .int .i64 med, .bool hp, .int .i64 pref, .bool atm, .bool ha, .int .i64 aas, .int .u32 aad, .slice cB cn cd, .bool ho, .int .u32 ori, .slice kB kn kd, .slice uB un ud] 40) = w1 := ⟨_, rfl⟩
  have hbA : Blk w1 w.heap.size 40 [.int .i64 og, .slice pA pn pc, .int .u32 hop, .bool hm, .int .i64 med, .bool hp, .int .i64 pref, .bool atm, .bool ha, .int .i64 aas, .int .u32 aad, .slice cA cn cc, .bool ho, .int .u32 ori, .slice kA kn kc, .slice uA un uc] := by rw [← hw1]; exact (Blk.new w _ _).keep (belowA _ _)
  have hbB : Blk w1 (w.heap.size + 1) 40 [.int .i64 og, .slice pB pn pd, .int .u32 hop, .bool hm, .int .i64 med, .bool hp, .int .i64 pref, .bool atm, .bool ha, .int .i64 aas, .int .u32 aad, .slice cB cn cd, .bool ho, .int .u32 ori, .slice kB kn kd, .slice uB un ud] := by rw [← hw1]; exact Blk.new2 w _ _ _
  have hb1 : Below w.heap.size w w1 := by rw [← hw1]; exact below3 (belowA _ _) (belowA _ _)
  have HB1 := Lib.hid hb1
  have HKA := Lib.hid hbA
  have HKB := Lib.hid hbB
  have H1 := Lib.hid h1
  have H2 := Lib.hid h2
  have hun : un ≤ 1000000000 := h1.small.2.2.2
  have hlt : w.heap.size + 1 < w1.heap.size := hbB.lt
  have hlt0 : w.heap.size < w1.heap.size := by omega
  clear h1 h2 hbA hbB hb1
  have a0 := HKA.out.cell 0
  have a1 := HKA.out.cell 1
  have a2 := HKA.out.cell 2
  have a3 := HKA.out.cell 3
  have a4 := HKA.out.cell 4
  have a5 := HKA.out.cell 5
  have a6 := HKA.out.cell 6
  have a7 := HKA.out.cell 7
  have a8 := HKA.out.cell 8
  have a9 := HKA.out.cell 9
  have a10 := HKA.out.cell 10
  have a11 := HKA.out.cell 11
  have a12 := HKA.out.cell 12
  have a13 := HKA.out.cell 13
  have a14 := HKA.out.cell 14
  have a15 := HKA.out.cell 15
  simp only [List.getElem?_cons_zero, List.getElem?_cons_succ] at a0 a1 a2 a3 a4 a5 a6 a7 a8 a9 a10 a11 a12 a13 a14 a15
  have b0 := HKB.out.cell 0
  have b1 := HKB.out.cell 1
  have b2 := HKB.out.cell 2
  have b3 := HKB.out.cell 3
  have b4 := HKB.out.cell 4
  have b5 := HKB.out.cell 5
  have b6 := HKB.out.cell 6
  have b7 := HKB.out.cell 7
  have b8 := HKB.out.cell 8
  have b9 := HKB.out.cell 9
  have b10 := HKB.out.cell 10
  have b11 := HKB.out.cell 11
  have b12 := HKB.out.cell 12
  have b13 := HKB.out.cell 13
  have b14 := HKB.out.cell 14
  have b15 := HKB.out.cell 15
  simp only [List.getElem?_cons_zero, List.getElem?_cons_succ] at b0 b1 b2 b3 b4 b5 b6 b7 b8 b9 b10 b11 b12 b13 b14 b15
  go_enter Try.func22, Try.ntmps22
  go_wp2_with fail
  have hps : Calls Try.prog 50 #[.slice pA pn pc, .slice pB pn pd] w1 fun e w' => e = .returned (.bool true) ∧ Below w1.heap.size w1 w' := by
    have := refSamePath_any pA pB pn pc pn pd p p w.heap.size w.heap.size w1 (H1.out.path.below HB1.out) (H2.out.path.below HB1.out) HB1.out.size HB1.out.size (by have := H1.out.small; omega) (by have := H1.out.small; omega)
    rw [decide_eq_true (rfl : p = p)] at this
    exact this
  refine hps.mono ?_
  rintro e w2 ⟨rfl, hb⟩
  clear a0 a1 a2 a3 a4 a5 a6 a7 a8 a9 a10 a11 a12 a13 a14 a15 b0 b1 b2 b3 b4 b5 b6 b7 b8 b9 b10 b11 b12 b13 b14 b15 hw1 hps
  have HKA2 := Lib.hid (HKA.out.keep hb)
  have HKB2 := Lib.hid (HKB.out.keep hb)
  have HB2 := Lib.hid (HB1.out.trans (hb.mono HB1.out.size))
  have lA : w.heap.size < w2.heap.size := HKA2.out.lt
  have lB : w.heap.size + 1 < w2.heap.size := HKB2.out.lt
  clear hb HKA HKB HB1 hlt hlt0
  have a0 := HKA2.out.cell 0
  have a1 := HKA2.out.cell 1
  have a2 := HKA2.out.cell 2
  have a3 := HKA2.out.cell 3
  have a4 := HKA2.out.cell 4
  have a5 := HKA2.out.cell 5
  have a6 := HKA2.out.cell 6
  have a7 := HKA2.out.cell 7
  have a8 := HKA2.out.cell 8
  have a9 := HKA2.out.cell 9
  have a10 := HKA2.out.cell 10
  have a11 := HKA2.out.cell 11
  have a12 := HKA2.out.cell 12
  have a13 := HKA2.out.cell 13
  have a14 := HKA2.out.cell 14
  have a15 := HKA2.out.cell 15
  simp only [List.getElem?_cons_zero, List.getElem?_cons_succ] at a0 a1 a2 a3 a4 a5 a6 a7 a8 a9 a10 a11 a12 a13 a14 a15
  have b0 := HKB2.out.cell 0
  have b1 := HKB2.out.cell 1
  have b2 := HKB2.out.cell 2
  have b3 := HKB2.out.cell 3
  have b4 := HKB2.out.cell 4
  have b5 := HKB2.out.cell 5
  have b6 := HKB2.out.cell 6
  have b7 := HKB2.out.cell 7
  have b8 := HKB2.out.cell 8
  have b9 := HKB2.out.cell 9
  have b10 := HKB2.out.cell 10
  have b11 := HKB2.out.cell 11
  have b12 := HKB2.out.cell 12
  have b13 := HKB2.out.cell 13
  have b14 := HKB2.out.cell 14
  have b15 := HKB2.out.cell 15
  simp only [List.getElem?_cons_zero, List.getElem?_cons_succ] at b0 b1 b2 b3 b4 b5 b6 b7 b8 b9 b10 b11 b12 b13 b14 b15
  go_wp2
  clear a0 a1 a2 a3 a4 a5 a6 a7 a8 a9 a10 a11 a12 a13 a14 a15 b0 b1 b2 b3 b4 b5 b6 b7 b8 b9 b10 b11 b12 b13 b14 b15
  go_loopw [106] (fun i wr => ∃ k : Nat, k ≤ un ∧ i = .int .i64 k ∧ Hid (Below w2.heap.size w2 wr)) (fun i _ => un - (intOf i).toNat)
  case atStart => exact ⟨0, Nat.zero_le _, rfl, Below.refl _ _⟩
  case round =>
    obtain ⟨k, hk, rfl, hbw⟩ := hrel
    have HKA3 := Lib.hid (HKA2.out.keep hbw.out)
    have HKB3 := Lib.hid (HKB2.out.keep hbw.out)
    have HB3 := Lib.hid (HB2.out.trans (hbw.out.mono HB2.out.size))
    have lA3 : w.heap.size < wr.heap.size := HKA3.out.lt
    have lB3 : w.heap.size + 1 < wr.heap.size := HKB3.out.lt
    by_cases hlt' : k < un
    case neg =>
      obtain rfl : k = un := by omega
      have a11 := HKA3.out.cell 11
      have b11 := HKB3.out.cell 11
      simp only [List.getElem?_cons_zero, List.getElem?_cons_succ] at a11 b11
      have hc1 : ∀ W, Below wr.heap.size wr W → Calls Try.prog 28 #[.slice cA cn cc, .slice cB cn cd] W fun e w' => e = .returned (.bool true) ∧ Below W.heap.size W w' := fun W hW => by
        have hbw' := HB3.out.trans (hW.mono HB3.out.size)
        have := ref18Same_any cA cB cn cc cn cd w.heap.size w.heap.size cm cm W (H1.out.comm.below hbw') (H2.out.comm.below hbw')
        rw [decide_eq_true (rfl : cm = cm)] at this
        exact this
      have hc2 : ∀ W, Below wr.heap.size wr W → Calls Try.prog 28 #[.slice kA kn kc, .slice kB kn kd] W fun e w' => e = .returned (.bool true) ∧ Below W.heap.size W w' := fun W hW => by
        have hbw' := HB3.out.trans (hW.mono HB3.out.size)
        have := ref18Same_any kA kB kn kc kn kd w.heap.size w.heap.size cl cl W (H1.out.clus.below hbw') (H2.out.clus.below hbw')
        rw [decide_eq_true (rfl : cl = cl)] at this
        exact this
      have HC1 := Lib.hid hc1
      have HC2 := Lib.hid hc2
      clear hc1 hc2
      go_wp2_with fail
      refine (HC1.out wr (Below.refl _ _)).mono ?_
      rintro e w4 ⟨rfl, hb⟩
      have a14 := (HKA3.out.keep hb).cell 14
      have b14 := (HKB3.out.keep hb).cell 14
      have l4 := hb.size
      simp only [List.getElem?_cons_zero, List.getElem?_cons_succ] at a14 b14
      have HB4 := Lib.hid hb
      clear hb a11 b11
      have lA4 : w.heap.size < w4.heap.size := by omega
      have lB4 : w.heap.size + 1 < w4.heap.size := by omega
      go_wp2_with fail
      refine (HC2.out w4 HB4.out).mono ?_
      rintro e w5 ⟨rfl, hb⟩
      have HB5 := Lib.hid (HB3.out.trans ((below3 HB4.out hb).mono HB3.out.size))
      clear hb
      go_wp2
      go_ret
      exact ⟨rfl, HB5.out⟩
    have a15 := HKA3.out.cell 15
    have b15 := HKB3.out.cell 15
    simp only [List.getElem?_cons_zero, List.getElem?_cons_succ] at a15 b15
    obtain ⟨xb, xo, f, rfl, hbX, hf, g0, g1, hi⟩ := (H1.out.unk.below HB3.out).get hlt'
    obtain ⟨yb, yo, g, rfl, hbY, hg, q0, q1, hi2⟩ := (H2.out.unk.below HB3.out).get hlt'
    obtain ⟨yk, fA, fn, fc, xs⟩ := f
    obtain ⟨zk, gA, gn, gc, ys⟩ := g
    dsimp only at g0 g1 hi q0 q1 hi2 hf hg
    have hkey : (SV.mk yk fA fn fc xs).key = (SV.mk zk gA gn gc ys).key := Option.some.inj (hf.out.symm.trans hg.out)
    obtain ⟨rfl, rfl⟩ : yk = zk ∧ xs = ys := Prod.mk.inj hkey
    obtain rfl : fn = gn := by rw [← hi.out.len, ← hi2.out.len]
    have HI := Lib.hid hi.out
    have HI2 := Lib.hid hi2.out
    have hxb : xb < wr.heap.size := by omega
    have hyb : yb < wr.heap.size := by omega
    have k0 : (0 : Int) ≤ (k : Int) := by omega
    have k1 : (k : Int) < (un : Int) := by omega
    have HSS : Hid (∀ V, Below wr.heap.size wr V → V.cell? ⟨w.heap.size, 15, none⟩ = some (.slice (some ⟨xb, xo, none⟩) un uc) ∧ V.cell? ⟨w.heap.size + 1, 15, none⟩ = some (.slice (some ⟨yb, yo, none⟩) un ud) ∧ V.cell? ⟨xb, xo + k * 2, none⟩ = some (.int .i64 yk) ∧ V.cell? ⟨xb, xo + k * 2 + 1, none⟩ = some (.slice fA fn fc) ∧ V.cell? ⟨yb, yo + k * 2, none⟩ = some (.int .i64 yk) ∧ V.cell? ⟨yb, yo + k * 2 + 1, none⟩ = some (.slice gA fn gc)) := fun V h => ⟨(HKA3.out.keep h).cell 15, (HKB3.out.keep h).cell 15, (h.cell (by exact hxb)).trans g0, (h.cell (by exact hxb)).trans g1, (h.cell (by exact hyb)).trans q0, (h.cell (by exact hyb)).trans q1⟩
    have HC0 : Hid (Below wr.heap.size wr wr.drew) := (Below.refl _ _).drew
    clear hf hg hi hi2 hkey a15 b15 g0 g1 q0 q1
    go_upto_region 8 with fail
    refine wp_region_noPanic ?_
    refine wp_region_held_drew (S := fun V => V.cell? ⟨w.heap.size, 15, none⟩ = some (.slice (some ⟨xb, xo, none⟩) un uc) ∧ V.cell? ⟨w.heap.size + 1, 15, none⟩ = some (.slice (some ⟨yb, yo, none⟩) un ud) ∧ V.cell? ⟨xb, xo + k * 2, none⟩ = some (.int .i64 yk) ∧ V.cell? ⟨xb, xo + k * 2 + 1, none⟩ = some (.slice fA fn fc) ∧ V.cell? ⟨yb, yo + k * 2, none⟩ = some (.int .i64 yk) ∧ V.cell? ⟨yb, yo + k * 2 + 1, none⟩ = some (.slice gA fn gc)) (by kernel_rfl) (HSS.out _ HC0.out) (fun hHeld => ?_)
    refine take_in (i := 0) _ (some 109) (by kernel_rfl) (by kernel_rfl) (by kernel_rfl) (by kernel_rfl) (fun _ _ _ h => h) (by rfl) (fun o ho w hSw => by cases ho; (try dsimp only at hSw); (try go_split_ands); go_simp; (try with_reducible rfl)) hHeld ?_
    try simp only [Act.put, List.setIfInBounds_toArray, List.set_cons_zero, List.set_cons_succ]
    refine take_in (i := 1) _ (some 110) (by kernel_rfl) (by kernel_rfl) (by kernel_rfl) (by kernel_rfl) (fun _ _ _ h => h) (by rfl) (fun o ho w hSw => by cases ho; (try dsimp only at hSw); (try go_split_ands); go_simp; (try with_reducible rfl)) hHeld ?_
    try simp only [Act.put, List.setIfInBounds_toArray, List.set_cons_zero, List.set_cons_succ]
    refine take_in (i := 2) _ (some 111) (by kernel_rfl) (by kernel_rfl) (by kernel_rfl) (by kernel_rfl) (fun _ _ _ h => h) (by rfl) (fun o ho w hSw => by cases ho; (try dsimp only at hSw); (try go_split_ands); go_simp; (try with_reducible rfl)) hHeld ?_
    try simp only [Act.put, List.setIfInBounds_toArray, List.set_cons_zero, List.set_cons_succ]
    refine take_in (i := 3) _ (some 112) (by kernel_rfl) (by kernel_rfl) (by kernel_rfl) (by kernel_rfl) (fun _ _ _ h => h) (by rfl) (fun o ho w hSw => by cases ho; (try dsimp only at hSw); (try go_split_ands); go_simp; (try with_reducible rfl)) hHeld ?_
    try simp only [Act.put, List.setIfInBounds_toArray, List.set_cons_zero, List.set_cons_succ]
    refine take_in (i := 4) _ (some 113) (by kernel_rfl) (by kernel_rfl) (by kernel_rfl) (by kernel_rfl) (fun _ _ _ h => h) (by rfl) (fun o ho w hSw => by cases ho; (try dsimp only at hSw); (try go_split_ands); go_simp; (try with_reducible rfl)) hHeld ?_
    try simp only [Act.put, List.setIfInBounds_toArray, List.set_cons_zero, List.set_cons_succ]
    refine take_in (i := 5) _ (some 114) (by kernel_rfl) (by kernel_rfl) (by kernel_rfl) (by kernel_rfl) (fun _ _ _ h => h) (by rfl) (fun o ho w hSw => by cases ho; (try dsimp only at hSw); (try go_split_ands); go_simp; (try with_reducible rfl)) hHeld ?_
    try simp only [Act.put, List.setIfInBounds_toArray, List.set_cons_zero, List.set_cons_succ]
    refine take_in (i := 6) _ (some 115) (by kernel_rfl) (by kernel_rfl) (by kernel_rfl) (by kernel_rfl) (fun _ _ _ h => h) (by rfl) (fun o ho w hSw => by cases ho; (try dsimp only at hSw); (try go_split_ands); go_simp; (try with_reducible rfl)) hHeld ?_
    try simp only [Act.put, List.setIfInBounds_toArray, List.set_cons_zero, List.set_cons_succ]
    refine take_in (i := 7) _ (some 116) (by kernel_rfl) (by kernel_rfl) (by kernel_rfl) (by kernel_rfl) (fun _ _ _ h => h) (by rfl) (fun o ho w hSw => by cases ho; (try dsimp only at hSw); (try go_split_ands); go_simp; (try with_reducible rfl)) hHeld ?_
    try simp only [Act.put, List.setIfInBounds_toArray, List.set_cons_zero, List.set_cons_succ]
    refine take_in (i := 8) _ (some 117) (by kernel_rfl) (by kernel_rfl) (by kernel_rfl) (by kernel_rfl) (fun _ _ _ h => h) (by rfl) (fun o ho w hSw => by cases ho; (try dsimp only at hSw); (try go_split_ands); go_simp; (try with_reducible rfl)) hHeld ?_
    try simp only [Act.put, List.setIfInBounds_toArray, List.set_cons_zero, List.set_cons_succ]
    refine take_in (i := 9) _ (some 118) (by kernel_rfl) (by kernel_rfl) (by kernel_rfl) (by kernel_rfl) (fun _ _ _ h => h) (by rfl) (fun o ho w hSw => by cases ho; (try dsimp only at hSw); (try go_split_ands); go_simp; (try with_reducible rfl)) hHeld ?_
    try simp only [Act.put, List.setIfInBounds_toArray, List.set_cons_zero, List.set_cons_succ]
    refine take_in (i := 10) _ (some 119) (by kernel_rfl) (by kernel_rfl) (by kernel_rfl) (by kernel_rfl) (fun _ _ _ h => h) (by rfl) (fun o ho w hSw => by cases ho; (try dsimp only at hSw); (try go_split_ands); go_simp; (try with_reducible rfl)) hHeld ?_
    try simp only [Act.put, List.setIfInBounds_toArray, List.set_cons_zero, List.set_cons_succ]
    refine take_in (i := 11) _ (some 120) (by kernel_rfl) (by kernel_rfl) (by kernel_rfl) (by kernel_rfl) (fun _ _ _ h => h) (by rfl) (fun o ho w hSw => by cases ho; (try dsimp only at hSw); (try go_split_ands); go_simp; (try with_reducible rfl)) hHeld ?_
    try simp only [Act.put, List.setIfInBounds_toArray, List.set_cons_zero, List.set_cons_succ]
    refine take_in (i := 12) _ (some 121) (by kernel_rfl) (by kernel_rfl) (by kernel_rfl) (by kernel_rfl) (fun _ _ _ h => h) (by rfl) (fun o ho w hSw => by cases ho; (try dsimp only at hSw); (try go_split_ands); go_simp; (try with_reducible rfl)) hHeld ?_
    try simp only [Act.put, List.setIfInBounds_toArray, List.set_cons_zero, List.set_cons_succ]
    refine take_in (i := 13) _ (some 122) (by kernel_rfl) (by kernel_rfl) (by kernel_rfl) (by kernel_rfl) (fun _ _ _ h => h) (by rfl) (fun o ho w hSw => by cases ho; (try dsimp only at hSw); (try go_split_ands); go_simp; (try with_reducible rfl)) hHeld ?_
    try simp only [Act.put, List.setIfInBounds_toArray, List.set_cons_zero, List.set_cons_succ]
    refine take_in (i := 14) _ (some 123) (by kernel_rfl) (by kernel_rfl) (by kernel_rfl) (by kernel_rfl) (fun _ _ _ h => h) (by rfl) (fun o ho w hSw => by cases ho; (try dsimp only at hSw); (try go_split_ands); go_simp; (try with_reducible rfl)) hHeld ?_
    try simp only [Act.put, List.setIfInBounds_toArray, List.set_cons_zero, List.set_cons_succ]
    refine take_in (i := 15) _ (some 124) (by kernel_rfl) (by kernel_rfl) (by kernel_rfl) (by kernel_rfl) (fun _ _ _ h => h) (by rfl) (fun o ho w hSw => by cases ho; (try dsimp only at hSw); (try go_split_ands); go_simp; (try with_reducible rfl)) hHeld ?_
    try simp only [Act.put, List.setIfInBounds_toArray, List.set_cons_zero, List.set_cons_succ]
    refine take_in (i := 16) _ (some 125) (by kernel_rfl) (by kernel_rfl) (by kernel_rfl) (by kernel_rfl) (fun _ _ _ h => h) (by rfl) (fun o ho w hSw => by cases ho; (try dsimp only at hSw); (try go_split_ands); go_simp; (try with_reducible rfl)) hHeld ?_
    try simp only [Act.put, List.setIfInBounds_toArray, List.set_cons_zero, List.set_cons_succ]
    refine take_in (i := 17) _ (some 126) (by kernel_rfl) (by kernel_rfl) (by kernel_rfl) (by kernel_rfl) (fun _ _ _ h => h) (by rfl) (fun o ho w hSw => by cases ho; (try dsimp only at hSw); (try go_split_ands); go_simp; (try with_reducible rfl)) hHeld ?_
    try simp only [Act.put, List.setIfInBounds_toArray, List.set_cons_zero, List.set_cons_succ]
    refine take_in (i := 18) _ (some 127) (by kernel_rfl) (by kernel_rfl) (by kernel_rfl) (by kernel_rfl) (fun _ _ _ h => h) (by rfl) (fun o ho w hSw => by cases ho; (try dsimp only at hSw); (try go_split_ands); go_simp; (try with_reducible rfl)) hHeld ?_
    try simp only [Act.put, List.setIfInBounds_toArray, List.set_cons_zero, List.set_cons_succ]
    refine take_in (i := 19) _ (some 128) (by kernel_rfl) (by kernel_rfl) (by kernel_rfl) (by kernel_rfl) (fun _ _ _ h => h) (by rfl) (fun o ho w hSw => by cases ho; (try dsimp only at hSw); (try go_split_ands); go_simp; (try with_reducible rfl)) hHeld ?_
    try simp only [Act.put, List.setIfInBounds_toArray, List.set_cons_zero, List.set_cons_succ]
    refine take_in (i := 20) _ (some 129) (by kernel_rfl) (by kernel_rfl) (by kernel_rfl) (by kernel_rfl) (fun _ _ _ h => h) (by rfl) (fun o ho w hSw => by cases ho; (try dsimp only at hSw); (try go_split_ands); go_simp; (try with_reducible rfl)) hHeld ?_
    try simp only [Act.put, List.setIfInBounds_toArray, List.set_cons_zero, List.set_cons_succ]
    refine take_in (i := 21) _ (some 130) (by kernel_rfl) (by kernel_rfl) (by kernel_rfl) (by kernel_rfl) (fun _ _ _ h => h) (by rfl) (fun o ho w hSw => by cases ho; (try dsimp only at hSw); (try go_split_ands); go_simp; (try with_reducible rfl)) hHeld ?_
    try simp only [Act.put, List.setIfInBounds_toArray, List.set_cons_zero, List.set_cons_succ]
    refine take_in (i := 22) _ (some 131) (by kernel_rfl) (by kernel_rfl) (by kernel_rfl) (by kernel_rfl) (fun _ _ _ h => h) (by rfl) (fun o ho w hSw => by cases ho; (try dsimp only at hSw); (try go_split_ands); go_simp; (try with_reducible rfl)) hHeld ?_
    try simp only [Act.put, List.setIfInBounds_toArray, List.set_cons_zero, List.set_cons_succ]
    refine take_in (i := 23) _ (some 132) (by kernel_rfl) (by kernel_rfl) (by kernel_rfl) (by kernel_rfl) (fun _ _ _ h => h) (by rfl) (fun o ho w hSw => by cases ho; (try dsimp only at hSw); (try go_split_ands); go_simp; (try with_reducible rfl)) hHeld ?_
    try simp only [Act.put, List.setIfInBounds_toArray, List.set_cons_zero, List.set_cons_succ]
    refine take_in (i := 24) _ (some 133) (by kernel_rfl) (by kernel_rfl) (by kernel_rfl) (by kernel_rfl) (fun _ _ _ h => h) (by rfl) (fun o ho w hSw => by cases ho; (try dsimp only at hSw); (try go_split_ands); go_simp; (try with_reducible rfl)) hHeld ?_
    try simp only [Act.put, List.setIfInBounds_toArray, List.set_cons_zero, List.set_cons_succ]
    refine take_in (i := 25) _ (some 134) (by kernel_rfl) (by kernel_rfl) (by kernel_rfl) (by kernel_rfl) (fun _ _ _ h => h) (by rfl) (fun o ho w hSw => by cases ho; (try dsimp only at hSw); (try go_split_ands); go_simp; (try with_reducible rfl)) hHeld ?_
    try simp only [Act.put, List.setIfInBounds_toArray, List.set_cons_zero, List.set_cons_succ]
    refine wpAnyH_ready (rs := [26]) (by kernel_rfl) (by simp) ?_
    refine AllReadyH.cons (o := _) rfl (fun K hK => ?_) AllReadyH.nil
    go_simp
    go_at_call 51
    with_reducible refine (sameBytes_true fA gA fn fc gc w.heap.size xs _ (HI.out.below (HC0.out.mono HB3.out.size)) (HI2.out.below (HC0.out.mono HB3.out.size))).mono ?_
    rintro e wX ⟨rfl, rfl⟩
    refine hK.out _ _ (HSS.out _ HC0.out) (fun hHeld => ?_)
    clear hK K
    try simp only [Act.put, List.setIfInBounds_toArray, List.set_cons_zero, List.set_cons_succ]
    refine take_in (i := 27) _ (some 136) (by kernel_rfl) (by kernel_rfl) (by kernel_rfl) (by kernel_rfl) (fun _ _ _ h => h) (by rfl) (fun o ho w hSw => by cases ho; (try dsimp only at hSw); (try go_split_ands); go_simp; (try with_reducible rfl)) hHeld ?_
    try simp only [Act.put, List.setIfInBounds_toArray, List.set_cons_zero, List.set_cons_succ]
    refine take_in (i := 28) _ (some 137) (by kernel_rfl) (by kernel_rfl) (by kernel_rfl) (by kernel_rfl) (fun _ _ _ h => h) (by rfl) (fun o ho w hSw => by cases ho; (try dsimp only at hSw); (try go_split_ands); go_simp; (try with_reducible rfl)) hHeld ?_
    try simp only [Act.put, List.setIfInBounds_toArray, List.set_cons_zero, List.set_cons_succ]
    refine wpAnyH_done (by kernel_rfl) ?_ _
    refine NoPanic.normal ?_
    go_wp2
    go_roundw
    case rel => exact ⟨k + 1, by omega, by go_num, hbw.out.drew⟩
    case measure => simp [intOf]; omega
end Go.Proofs.Ytojgohgeagbkbaa
