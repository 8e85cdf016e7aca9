/- The laws' function 'awake' returns true. -/
import Derived.Test.YtlcgjgmhllmekaaPair
namespace Go.Proofs.Ytlcgjgmhllmekaa
open Go.RowKit

def awakeA : List PV := [⟨2, 0, 0, 1, none, 0, 0, [], -1⟩, ⟨1, 0, 0, 1, none, 0, 0, [], -1⟩, ⟨2, 0, 0, 1, none, 0, 0, [], -1⟩]
def awakeB : List PV := [⟨2, 0, 0, 0, none, 0, 0, [], -1⟩, ⟨1, 0, 0, 1, none, 0, 0, [], -1⟩, ⟨2, 0, 0, 1, none, 0, 0, [], -1⟩]
theorem awake_a : failG 2 3 pairDs 0 = awakeA := by kernel_rfl
theorem awake_b : failG 2 3 awakeA 2 = awakeB := by kernel_rfl
theorem awake_pick : pick 2 3 awakeB 3 = 1 := by decide +kernel
theorem awake_check : gErr 2 3 pairDs = 0 := by decide +kernel
theorem awake_c1 : ((ch [0, 5, 0] 7 3 : Nat) : Int) - 1 = 1 := by decide +kernel
theorem awake_c2 : ((ch [0, 0] 7 2 : Nat) : Int) - 1 = -1 := by decide +kernel
theorem short_pair : ShortD pairDs := by intro d hd; simp only [pairDs, List.mem_cons, List.not_mem_nil, or_false] at hd; rcases hd with rfl | rfl | rfl <;> simp
theorem short_a : ShortD awakeA := by intro d hd; simp only [awakeA, List.mem_cons, List.not_mem_nil, or_false] at hd; rcases hd with rfl | rfl | rfl <;> simp
theorem wide_of {ws : List Int} (h : ∀ x ∈ ws, 0 ≤ x ∧ x ≤ 65535) : Wide ws := by
  intro j
  rw [List.getD_eq_getElem?_getD]
  cases hj : ws[j]? with
  | none => simp
  | some x =>
    have := h x (List.mem_of_getElem? hj)
    simp
    omega

set_option maxRecDepth 100000 in
set_option maxHeartbeats 2000000 in
theorem awake_any (w : World) : Calls Try.prog 9 #[] w fun e w' => e = .returned (.bool true) ∧ Below w.heap.size w w' := by
  go_enter Try.func9, Try.ntmps9
  go_wp2_with fail
  refine (pair_any w).mono ?_
  rintro e w1 ⟨A1, c1, rfl, h1, hb1⟩
  have HB1 := Lib.hid hb1
  clear hb1
  go_wp2_with fail
  refine (fail_at A1 3 c1 2 0 pairDs w1 h1 short_pair (by omega)).mono ?_
  rintro e w2 ⟨A2, c2, rfl, h2, hb2⟩
  rw [awake_a] at h2
  have HB2 := Lib.hid (HB1.out.trans (hb2.mono HB1.out.size))
  have hba : Below w2.heap.size w2 (w2.alloc (.cells #[.int .i64 2, .slice A2 3 c2] 24)) := (Below.refl _ _).alloc (Nat.le_refl _) _
  have H2 := Lib.hid h2
  have HBA := Lib.hid hba
  clear h1 hb2 hba HB1 h2
  go_wp2_with fail
  refine (fail_at A2 3 c2 2 2 awakeA _ (H2.out.grow HBA.out HBA.out.size) short_a (by omega)).mono ?_
  rintro e w3 ⟨A3, c3, rfl, h3, hb3⟩
  rw [awake_b] at h3
  have hb3' : Below (w2.heap.size + 1) (w2.alloc (.cells #[.int .i64 2, .slice A2 3 c2] 24)) w3 := hb3.mono (by simp)
  have HB3 : Hid (Below w.heap.size w w3) := HB2.out.trans ((HBA.out.trans (hb3'.mono (Nat.le_succ _))).mono HB2.out.size)
  have a1 : w3.cell? ⟨w2.heap.size, 1, none⟩ = some (.slice A2 3 c2) := (hb3'.cell (p := ⟨w2.heap.size, 1, none⟩) (Nat.lt_succ_self _)).trans (by go_simp)
  have hs3 : w2.heap.size < w3.heap.size := by have := hb3'.size; simp at this; omega
  have H23 : Hid (GroupAt w3 w2.heap.size A2 3 c2 awakeA) := (H2.out.below HBA.out).below (hb3'.mono (Nat.le_succ _))
  have H3 := Lib.hid h3
  clear hb3 hb3' h3 H2 HBA
  obtain ⟨ba, oa, p, D, dk, rfl, hba, hp, _, p0, _, _, p3, _, _⟩ := H23.out.get (j := 0) (by omega)
  obtain rfl : p = ⟨2, 0, 0, 1, none, 0, 0, [], -1⟩ := (Option.some.inj hp).symm
  clear hp
  have hba3 : ba < w3.heap.size := by omega
  have q0 : w3.cell? ⟨ba, oa, none⟩ = some (.int .i64 2) := by simpa using p0
  have q3 : w3.cell? ⟨ba, oa + 3, none⟩ = some (.int .i64 1) := by simpa using p3
  have HG : Hid (Below w3.heap.size w3 (w3.alloc (.cells #[.int .i64 2, .slice A3 3 c3] 24))) := (Below.refl _ _).alloc (Nat.le_refl _) _
  have hl1 := ints_lit (w3.alloc (.cells #[.int .i64 2, .slice A3 3 c3] 24)) 3 .i64 3 [0, 5, 0] rfl (by simp [maxLen]) (w3.heap.size + 2) (by simp)
  rw [show (w3.alloc (.cells #[.int .i64 2, .slice A3 3 c3] 24)).heap.size = w3.heap.size + 1 by simp] at hl1
  have HL1 := Lib.hid hl1
  clear hl1 p0 p3
  go_wp2_with fail
  refine (choose_any (some ⟨w3.heap.size + 1, 0, none⟩) 3 3 (w3.heap.size + 2) [0, 5, 0] 7 _ HL1.out (by simp) (wide_of (by simp)) (by omega) (by omega)).mono ?_
  rintro e w4 ⟨rfl, hb4⟩
  have HB4 : Hid (Below (w3.heap.size + 1) (w3.alloc (.cells #[.int .i64 2, .slice A3 3 c3] 24)) w4) := (((Below.refl _ (w3.alloc (.cells #[.int .i64 2, .slice A3 3 c3] 24))).alloc (by simp) _).trans (hb4.mono (by simp)))
  have hs4 : w3.heap.size + 2 ≤ w4.heap.size := by have := hb4.size; simpa using this
  rw [awake_c1]
  have HL2 := Lib.hid (ints_lit w4 3 .i64 2 [0, 0] rfl (by simp [maxLen]) (w4.heap.size + 1) (by simp))
  clear hb4
  go_wp2_with fail
  refine (choose_any (some ⟨w4.heap.size, 0, none⟩) 2 2 (w4.heap.size + 1) [0, 0] 7 _ HL2.out (by simp) (wide_of (by simp)) (by omega) (by omega)).mono ?_
  rintro e w5 ⟨rfl, hb5⟩
  have HB5 : Hid (Below (w3.heap.size + 1) (w3.alloc (.cells #[.int .i64 2, .slice A3 3 c3] 24)) w5) := HB4.out.trans (((Below.refl _ w4).alloc (by omega) _).trans (hb5.mono (by simp; omega)))
  rw [awake_c2]
  clear hb5 HB4
  have k1 : ∀ b o, b < w3.heap.size → w5.cell? ⟨b, o, none⟩ = w3.cell? ⟨b, o, none⟩ := fun b o hb => (HB5.out.cell (p := ⟨b, o, none⟩) (Nat.lt_succ_of_lt hb)).trans (HG.out.cell (p := ⟨b, o, none⟩) hb)
  have x1 := (k1 w2.heap.size 1 hs3).trans a1
  have x2 := (k1 ba oa hba3).trans q0
  have x3 := (k1 ba (oa + 3) hba3).trans q3
  have y0 : w5.cell? ⟨w3.heap.size, 0, none⟩ = some (.int .i64 2) := (HB5.out.cell (p := ⟨w3.heap.size, 0, none⟩) (Nat.lt_succ_self _)).trans (by go_simp)
  have y1 : w5.cell? ⟨w3.heap.size, 1, none⟩ = some (.slice A3 3 c3) := (HB5.out.cell (p := ⟨w3.heap.size, 1, none⟩) (Nat.lt_succ_self _)).trans (by go_simp)
  have HB35 : Hid (Below w3.heap.size w3 w5) := HG.out.trans (HB5.out.mono (Nat.le_succ _))
  have HW5 : Hid (Below w.heap.size w w5) := HB3.out.trans (HB35.out.mono HB3.out.size)
  have H5 : Hid (GroupAt w5 w3.heap.size A3 3 c3 awakeB) := H3.out.below HB35.out
  clear k1 a1 q0 q3 HL1 HL2 H23 H3 HB3 HB2 HG HB5
  go_wp2_with fail
  refine (pick_at A3 3 c3 w3.heap.size 2 3 awakeB w5 H5.out HB35.out.size (by omega) (by omega)).mono ?_
  rintro e w6 ⟨rfl, hb6⟩
  rw [awake_pick]
  have HW6 : Hid (Below w.heap.size w w6) := HW5.out.trans (hb6.mono HW5.out.size)
  clear hb6 x1 x2 x3 y0 y1
  go_wp2_with fail
  refine (pair_any w6).mono ?_
  rintro e w7 ⟨A7, c7, rfl, h7, hb7⟩
  have HW7 : Hid (Below w.heap.size w w7) := HW6.out.trans (hb7.mono HW6.out.size)
  have H7 := Lib.hid h7
  clear h7 hb7
  go_wp2_with fail
  refine (check_at A7 3 c7 w7.heap.size 2 pairDs w7 H7.out (Nat.le_refl _) (by omega)).mono ?_
  rintro e w8 ⟨rfl, hb8⟩
  rw [awake_check]
  have HW8 : Hid (Below w.heap.size w w8) := HW7.out.trans (hb8.mono HW7.out.size)
  clear hb8
  go_wp2
  go_ret
  exact ⟨rfl, HW8.out⟩
end Go.Proofs.Ytlcgjgmhllmekaa
