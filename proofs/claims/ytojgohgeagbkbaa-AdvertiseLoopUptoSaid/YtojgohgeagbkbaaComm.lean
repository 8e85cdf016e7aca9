/- Lists of communities: the order. -/
import Derived.Test.YtojgohgeagbkbaaU32
namespace Go.Proofs.Ytojgohgeagbkbaa
open Go.RowKit

/-- the error of a list of communities -/
def commE (l : List Int) : Int := if 255 < l.length then 4 else if ascB l = true then 0 else 16
theorem asc_no {l : List Int} {k : Nat} (hk : k + 1 < l.length) (h : l.getD (k + 1) 0 ≤ l.getD k 0) : ascB l = false := by
  cases e : ascB l with
  | false => rfl
  | true =>
    have := (ascB_iff l).1 e k hk
    omega
theorem asc_next {l : List Int} {k : Nat} {y z : Int} (h : ∀ j, j + 1 < k → l.getD j 0 < l.getD (j + 1) 0) (hy : 0 < k → l.getD (k - 1) 0 = z ∧ z < y) (hz : l.getD k 0 = y) : ∀ j, j + 1 < k + 1 → l.getD j 0 < l.getD (j + 1) 0 := by
  intro j hj
  rcases Nat.lt_or_ge (j + 1) k with h1 | h1
  · exact h j h1
  · obtain rfl : k = j + 1 := by omega
    obtain ⟨h2, h3⟩ := hy (by omega)
    rw [hz]
    simp only [Nat.add_sub_cancel] at h2
    rw [h2]
    exact h3
set_option maxHeartbeats 1000000 in
theorem commCheck_any (T : Option Addr) (tn tc B : Nat) (xs : List Int) (w : World) (ht : Ints w B .u32 T tn tc xs) (htn : tn ≤ 140737488355328) :
    Calls Try.prog 67 #[.slice T tn tc] w fun e w' => e = .returned (.int .i64 (commE xs)) ∧ Below w.heap.size w w' := by
  have HT := Lib.hid ht
  have hl := Lib.hid ht.len
  clear ht
  by_cases h64 : 255 < tn
  · have d : decide ((tn : Int) > 255) = true := by simp; omega
    have HF : Hid (commE xs = 4) := if_pos (by rw [hl.out]; exact h64)
    go_enter Try.func67, Try.ntmps67
    go_wp2
    go_ret
    exact ⟨by rw [HF.out]; rfl, Below.refl _ _⟩
  have d64 : decide ((tn : Int) > 255) = false := by simp; omega
  have HP : Hid (commE xs = if ascB xs = true then 0 else 16) := if_neg (by rw [hl.out]; exact h64)
  clear h64
  go_enter Try.func67, Try.ntmps67
  go_wp2
  go_loopw [9] (fun i wr => ∃ k : Nat, k ≤ tn ∧ i = .int .i64 k ∧ Hid (∀ j, j + 1 < k → xs.getD j 0 < xs.getD (j + 1) 0) ∧ Hid (∃ x, wr = w.drewN x)) (fun i _ => tn - (intOf i).toNat)
  case atStart => exact ⟨0, Nat.zero_le _, rfl, fun j hj => absurd hj (by omega), 0, rfl⟩
  case round =>
    obtain ⟨k, hk, rfl, has, hdr⟩ := hrel
    obtain ⟨x0, rfl⟩ := hdr.out
    have HBW : Hid (Below w.heap.size w (w.drewN x0)) := below_drewN (Below.refl _ _) _
    by_cases hlt : k < tn
    case neg =>
      obtain rfl : k = tn := by omega
      have HL : Hid (commE xs = 0) := by
        show _ = _
        rw [HP.out, if_pos ((ascB_iff xs).2 fun j hj => has.out j (by rw [← hl.out]; exact hj))]
      go_wp2
      go_ret
      exact ⟨by rw [HL.out]; rfl, HBW.out⟩
    by_cases hk0 : k = 0
    · subst hk0
      have HN : Hid (∀ j, j + 1 < 0 + 1 → xs.getD j 0 < xs.getD (j + 1) 0) := fun j hj => absurd hj (by omega)
      have d0 : decide (((0 : Nat) : Int) > 0) = false := by simp
      have d1 : decide ((0 : Int) > 0) = false := by simp
      go_wp2
      go_quiet (fail)
      go_wp2
      go_roundw
      case rel => exact ⟨0 + 1, by omega, by go_num, HN, _, rfl⟩
      case measure => simp [intOf]; omega
    obtain ⟨b, o, y, rfl, hbB, c0, hy⟩ := HT.out.cell hlt
    obtain ⟨b', o', z, he', hbB', c1, hz⟩ := HT.out.cell (j := k - 1) (by omega)
    obtain ⟨rfl, rfl⟩ : b = b' ∧ o = o' := by simpa using he'
    have dk : decide ((k : Int) > 0) = true := by simp; omega
    have hk1 : 0 < k := by omega
    have ek : (k : Int) - 1 = ((k - 1 : Nat) : Int) := by omega
    by_cases hyz : y ≤ z
    · have HL : Hid (commE xs = 16) := by
        show _ = _
        rw [HP.out, if_neg]
        rw [asc_no (l := xs) (k := k - 1) (by rw [hl.out]; omega) (by rw [show k - 1 + 1 = k by omega, hy.out, hz.out]; exact hyz)]
        simp
      have d : decide (y ≤ z) = true := by simp [hyz]
      have EK := Lib.hid ek
      have nz : ((k : Int) - 1).toNat = k - 1 := by omega
      have p1 : 0 ≤ (k : Int) - 1 := by omega
      have p2 : (k : Int) - 1 < (tn : Int) := by omega
      clear hy hz he' ek
      go_wp2
      go_quiet (fail)
      go_wp2
      go_ret
      exact ⟨by rw [HL.out]; rfl, below_drewN HBW.out _⟩
    · have HN : Hid (∀ j, j + 1 < k + 1 → xs.getD j 0 < xs.getD (j + 1) 0) := asc_next has.out (fun _ => ⟨hz.out, by omega⟩) hy.out
      have d : decide (y ≤ z) = false := by simp; omega
      have nz : ((k : Int) - 1).toNat = k - 1 := by omega
      have p1 : 0 ≤ (k : Int) - 1 := by omega
      have p2 : (k : Int) - 1 < (tn : Int) := by omega
      clear hy hz he' ek
      go_wp2
      go_quiet (fail)
      go_wp2
      go_roundw
      case rel => exact ⟨k + 1, by omega, by go_num, HN, _, rfl⟩
      case measure => simp [intOf]; omega
set_option maxHeartbeats 1000000 in
theorem ref18Check_any (T : Option Addr) (tn tc B : Nat) (xs : List Int) (w : World) (ht : Ints w B .u32 T tn tc xs) (htn : tn ≤ 140737488355328) :
    Calls Try.prog 54 #[.slice T tn tc] w fun e w' => e = .returned (.int .i64 (commE xs)) ∧ Below w.heap.size w w' := by
  have HT := Lib.hid ht
  have hl := Lib.hid ht.len
  clear ht
  by_cases h64 : 255 < tn
  · have d : decide ((tn : Int) > 255) = true := by simp; omega
    have HF : Hid (commE xs = 4) := if_pos (by rw [hl.out]; exact h64)
    go_enter Try.func54, Try.ntmps54
    go_wp2
    go_ret
    exact ⟨by rw [HF.out]; rfl, Below.refl _ _⟩
  have d64 : decide ((tn : Int) > 255) = false := by simp; omega
  have HP : Hid (commE xs = if ascB xs = true then 0 else 16) := if_neg (by rw [hl.out]; exact h64)
  clear h64
  go_enter Try.func54, Try.ntmps54
  go_wp2
  go_loopw [3] (fun i wr => ∃ k : Nat, k ≤ tn + 1 ∧ 1 ≤ k ∧ i = .int .i64 k ∧ Hid (∀ j, j + 1 < k → xs.getD j 0 < xs.getD (j + 1) 0) ∧ Hid (∃ x, wr = w.drewN x)) (fun i _ => tn - (intOf i).toNat)
  case atStart => exact ⟨1, by omega, by omega, rfl, fun j hj => absurd hj (by omega), 0, rfl⟩
  case round =>
    obtain ⟨k, hk, hk1, rfl, has, hdr⟩ := hrel
    obtain ⟨x0, rfl⟩ := hdr.out
    have HBW : Hid (Below w.heap.size w (w.drewN x0)) := below_drewN (Below.refl _ _) _
    by_cases hlt : k < tn
    case neg =>
      have HL : Hid (commE xs = 0) := by
        show _ = _
        rw [HP.out, if_pos ((ascB_iff xs).2 fun j hj => has.out j (by rw [hl.out] at hj; omega))]
      go_wp2
      go_ret
      exact ⟨by rw [HL.out]; rfl, HBW.out⟩
    obtain ⟨b, o, y, rfl, hbB, c0, hy⟩ := HT.out.cell hlt
    obtain ⟨b', o', z, he', hbB', c1, hz⟩ := HT.out.cell (j := k - 1) (by omega)
    obtain ⟨rfl, rfl⟩ : b = b' ∧ o = o' := by simpa using he'
    have nz : ((k : Int) - 1).toNat = k - 1 := by omega
    have p1 : 0 ≤ (k : Int) - 1 := by omega
    have p2 : (k : Int) - 1 < (tn : Int) := by omega
    by_cases hyz : y ≤ z
    · have HL : Hid (commE xs = 16) := by
        show _ = _
        rw [HP.out, if_neg]
        rw [asc_no (l := xs) (k := k - 1) (by rw [hl.out]; omega) (by rw [show k - 1 + 1 = k by omega, hy.out, hz.out]; exact hyz)]
        simp
      have d : decide (y ≤ z) = true := by simp [hyz]
      clear hy hz he'
      go_wp2
      go_quiet (fail)
      go_wp2
      go_ret
      exact ⟨by rw [HL.out]; rfl, below_drewN HBW.out _⟩
    · have HN : Hid (∀ j, j + 1 < k + 1 → xs.getD j 0 < xs.getD (j + 1) 0) := asc_next has.out (fun _ => ⟨hz.out, by omega⟩) hy.out
      have d : decide (y ≤ z) = false := by simp; omega
      clear hy hz he'
      go_wp2
      go_quiet (fail)
      go_wp2
      go_roundw
      case rel => exact ⟨k + 1, by omega, by omega, by go_num, HN, _, rfl⟩
      case measure => simp [intOf]; omega
end Go.Proofs.Ytojgohgeagbkbaa
