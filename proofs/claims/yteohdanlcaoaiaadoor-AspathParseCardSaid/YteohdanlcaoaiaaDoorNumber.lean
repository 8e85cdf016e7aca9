/- Number: the program's. -/
import Derived.Test.YteohdanlcaoaiaaDoorGet
import Derived.Lib.ItoaNum
import Derived.Lib.Strings
namespace Go.Proofs.YteohdanlcaoaiaaDoor
open Go.RowKit

/-- the bytes of a string -/
def byts (s : ByteArray) : List Int := s.data.toList.map fun b => (b.toNat : Int)
theorem byts_len (s : ByteArray) : (byts s).length = s.size := by unfold byts; rw [List.length_map, Array.length_toList]; rfl
theorem byts_at {s : ByteArray} {k : Nat} (h : k < s.size) : (byts s).getD k 0 = (s[k].toNat : Int) := by
  have h' : k < s.data.size := h
  unfold byts
  rw [List.getD_eq_getElem?_getD, List.getElem?_map, Array.getElem?_toList, Array.getElem?_eq_getElem h']
  rfl
theorem byte_bd {s : ByteArray} {k : Nat} (h : k < s.size) : 0 ≤ (s[k].toNat : Int) ∧ (s[k].toNat : Int) ≤ 255 := by
  have := s[k].toNat_lt
  omega
theorem isEmpty_size (s : ByteArray) : s.toList.isEmpty = decide (s.size = 0) := by
  rw [Lib.toList_data]
  have e : s.size = s.data.toList.length := by rw [Array.length_toList]; rfl
  rw [e]
  cases h : s.data.toList with
  | nil => rfl
  | cons a l => simp
def dig (y : Int) : Prop := 48 ≤ y ∧ y ≤ 57
instance (y : Int) : Decidable (dig y) := by unfold dig; exact inferInstance
/-- digits without a needless 0 at the beginning -/
def Canon (l : List Int) : Prop := l.length ≠ 0 ∧ ¬ (1 < l.length ∧ l.getD 0 0 = 48) ∧ ∀ j, j < l.length → dig (l.getD j 0)
/-- the number of the first k digits -/
def val (l : List Int) : Nat → Int
  | 0 => 0
  | k + 1 => 10 * val l k + (l.getD k 0 - 48)
theorem val_nonneg {l : List Int} (h : ∀ j, j < l.length → dig (l.getD j 0)) : ∀ k, k ≤ l.length → 0 ≤ val l k
  | 0, _ => Int.le_refl _
  | k + 1, hk => by
    have h1 := val_nonneg h k (by omega)
    have h2 := (h k (by omega)).1
    rw [val]
    omega
theorem val_mono {l : List Int} (h : ∀ j, j < l.length → dig (l.getD j 0)) {j : Nat} : ∀ {k : Nat}, j ≤ k → k ≤ l.length → val l j ≤ val l k := by
  intro k hjk hk
  obtain ⟨d, rfl⟩ : ∃ d, k = j + d := ⟨k - j, by omega⟩
  clear hjk
  induction d with
  | zero => exact Int.le_refl _
  | succ d ih =>
    have h1 := ih (by omega)
    have h2 := val_nonneg h (j + d) (by omega)
    have h3 := (h (j + d) (by omega)).1
    show val l j ≤ 10 * val l (j + d) + (l.getD (j + d) 0 - 48)
    omega
open Classical in
noncomputable def numR (l : List Int) (most : Int) : Int × Int := if ¬ Canon l then (0, 2) else if most < val l l.length then (0, 5) else (val l l.length, 0)
open Classical in
noncomputable def canonB (l : List Int) : Bool := decide (Canon l)
theorem canonB_true {l : List Int} (h : Canon l) : canonB l = true := by unfold canonB; simp [h]
theorem canonB_false {l : List Int} (h : ¬ Canon l) : canonB l = false := by unfold canonB; simp [h]
set_option maxHeartbeats 1000000 in
theorem canonical_any (s : ByteArray) (w : World) (hs : s.size ≤ 140737488355328) :
    Calls Tryd.prog 70 #[.string s] w fun e w' => e = .returned (.bool (canonB (byts s))) ∧ w = w' := by
  have hl := byts_len s
  by_cases h0 : s.size = 0
  · have he : s.toList.isEmpty = true := by rw [isEmpty_size]; simp [h0]
    have HF : Hid (canonB (byts s) = false) := by
      show _ = _
      unfold canonB Canon
      simp [hl, h0]
    clear hl h0
    go_enter Tryd.func70, Tryd.ntmps70
    go_wp2
    go_ret
    exact ⟨ret_bool HF.out.symm, rfl⟩
  have he : s.toList.isEmpty = false := by rw [isEmpty_size]; simp [h0]
  have h00 : 0 < s.size := by omega
  obtain ⟨c0, hc0⟩ : ∃ c, (s[0].toNat : Int) = c := ⟨_, rfl⟩
  have HC0 : Hid ((byts s).getD 0 0 = c0) := by show _ = _; rw [byts_at h00]; exact hc0
  by_cases h1 : 1 < s.size ∧ c0 = 48
  · obtain ⟨h1, rfl⟩ := h1
    have h1' : (1 : Int) < (s.size : Int) := by omega
    have HF : Hid (canonB (byts s) = false) := by
      show _ = _
      unfold canonB Canon
      simp only [hl, HC0.out]
      simp [h1]
    clear hl h0
    go_enter Tryd.func70, Tryd.ntmps70
    go_wp2
    go_ret
    exact ⟨ret_bool HF.out.symm, rfl⟩
  have HNZ : Hid (¬ (1 < s.size ∧ c0 = 48)) := h1
  have HL := Lib.hid hl
  by_cases h2 : 1 < s.size
  · have h1' : (1 : Int) < (s.size : Int) := by omega
    have hz : (c0 == 48) = false := by simp; intro h'; exact h1 ⟨h2, h'⟩
    clear h1 hl
    go_enter Tryd.func70, Tryd.ntmps70
    go_wp2
    go_loop [18] (fun i => ∃ k : Nat, k ≤ s.size ∧ i = .int .i64 k ∧ Hid (∀ j, j < k → dig ((byts s).getD j 0))) (fun i => s.size - (intOf i).toNat)
    case atStart => exact ⟨0, Nat.zero_le _, rfl, fun j hj => absurd hj (by omega)⟩
    case round =>
      obtain ⟨k, hk, rfl, hd⟩ := hrel
      by_cases hlt : k < s.size
      · have hks : (k : Int) < (s.size : Int) := by omega
        obtain ⟨y, hy⟩ : ∃ y, (s[k].toNat : Int) = y := ⟨_, rfl⟩
        have HY : Hid ((byts s).getD k 0 = y) := by show _ = _; rw [byts_at hlt]; exact hy
        by_cases hdg : dig y
        · have e1 : decide (y < 48) = false := by simp; exact hdg.1
          have e2 : decide (y > 57) = false := by simp; exact hdg.2
          have HN : Hid (∀ j, j < k + 1 → dig ((byts s).getD j 0)) := by
            intro j hj
            rcases Nat.lt_or_ge j k with h | h
            · exact hd.out j h
            · obtain rfl : j = k := by omega
              rw [HY.out]
              exact hdg
          clear hdg
          go_wp2
          go_round
          case rel => exact ⟨k + 1, by omega, by go_num, HN⟩
          case measure => simp [intOf]; omega
        · have HF : Hid (canonB (byts s) = false) := by
            show _ = _
            refine canonB_false fun hc => hdg ?_
            have := hc.2.2 k (by rw [HL.out]; exact hlt)
            rwa [HY.out] at this
          by_cases h3 : y < 48
          · have e1 : decide (y < 48) = true := by simp [h3]
            clear hdg h3
            go_wp2
            go_ret
            exact ⟨ret_bool HF.out.symm, rfl⟩
          · have e1 : decide (y < 48) = false := by simp; omega
            have e2 : decide (y > 57) = true := by
              simp
              rcases Int.lt_or_le 57 y with h | h
              · exact h
              · exact absurd ⟨by omega, h⟩ hdg
            clear hdg h3
            go_wp2
            go_ret
            exact ⟨ret_bool HF.out.symm, rfl⟩
      · obtain rfl : k = s.size := by omega
        have HT : Hid (canonB (byts s) = true) := by
          show _ = _
          refine canonB_true ⟨by rw [HL.out]; exact h0, ?_, fun j hj => hd.out j (by rw [← HL.out]; exact hj)⟩
          rw [HL.out, HC0.out]
          exact HNZ.out
        go_wp2
        go_ret
        exact ⟨ret_bool HT.out.symm, rfl⟩
  · have h1' : ¬ (1 : Int) < (s.size : Int) := by omega
    clear h1 hl
    go_enter Tryd.func70, Tryd.ntmps70
    go_wp2
    go_loop [18] (fun i => ∃ k : Nat, k ≤ s.size ∧ i = .int .i64 k ∧ Hid (∀ j, j < k → dig ((byts s).getD j 0))) (fun i => s.size - (intOf i).toNat)
    case atStart => exact ⟨0, Nat.zero_le _, rfl, fun j hj => absurd hj (by omega)⟩
    case round =>
      obtain ⟨k, hk, rfl, hd⟩ := hrel
      by_cases hlt : k < s.size
      · have hks : (k : Int) < (s.size : Int) := by omega
        obtain ⟨y, hy⟩ : ∃ y, (s[k].toNat : Int) = y := ⟨_, rfl⟩
        have HY : Hid ((byts s).getD k 0 = y) := by show _ = _; rw [byts_at hlt]; exact hy
        by_cases hdg : dig y
        · have e1 : decide (y < 48) = false := by simp; exact hdg.1
          have e2 : decide (y > 57) = false := by simp; exact hdg.2
          have HN : Hid (∀ j, j < k + 1 → dig ((byts s).getD j 0)) := by
            intro j hj
            rcases Nat.lt_or_ge j k with h | h
            · exact hd.out j h
            · obtain rfl : j = k := by omega
              rw [HY.out]
              exact hdg
          clear hdg
          go_wp2
          go_round
          case rel => exact ⟨k + 1, by omega, by go_num, HN⟩
          case measure => simp [intOf]; omega
        · have HF : Hid (canonB (byts s) = false) := by
            show _ = _
            refine canonB_false fun hc => hdg ?_
            have := hc.2.2 k (by rw [HL.out]; exact hlt)
            rwa [HY.out] at this
          by_cases h3 : y < 48
          · have e1 : decide (y < 48) = true := by simp [h3]
            clear hdg h3
            go_wp2
            go_ret
            exact ⟨ret_bool HF.out.symm, rfl⟩
          · have e1 : decide (y < 48) = false := by simp; omega
            have e2 : decide (y > 57) = true := by
              simp
              rcases Int.lt_or_le 57 y with h | h
              · exact h
              · exact absurd ⟨by omega, h⟩ hdg
            clear hdg h3
            go_wp2
            go_ret
            exact ⟨ret_bool HF.out.symm, rfl⟩
      · obtain rfl : k = s.size := by omega
        have HT : Hid (canonB (byts s) = true) := by
          show _ = _
          refine canonB_true ⟨by rw [HL.out]; exact h0, ?_, fun j hj => hd.out j (by rw [← HL.out]; exact hj)⟩
          rw [HL.out, HC0.out]
          exact HNZ.out
        go_wp2
        go_ret
        exact ⟨ret_bool HT.out.symm, rfl⟩
end Go.Proofs.YteohdanlcaoaiaaDoor
