/- Decimal numerals: the plain laws. -/
import Derived.Test.YteohdanlcaoaiaaDoorNumber2
import Derived.Test.YteohdanlcaoaiaaDoorDigits
namespace Go.Proofs.YteohdanlcaoaiaaDoor
open Go.RowKit

/-- the bytes of a list of letters -/
def bl (l : List UInt8) : List Int := l.map fun b => (b.toNat : Int)
theorem byts_mk (l : List UInt8) : byts ⟨l.toArray⟩ = bl l := rfl
theorem bl_append (l r : List UInt8) : bl (l ++ r) = bl l ++ bl r := List.map_append
theorem val_append (l r : List Int) : ∀ k, k ≤ l.length → val (l ++ r) k = val l k
  | 0, _ => rfl
  | k + 1, h => by
    rw [val, val, val_append l r k (by omega), List.getD_eq_getElem?_getD, List.getElem?_append_left (by omega), ← List.getD_eq_getElem?_getD]
theorem dig_of (d : Nat) (h : d < 10) : ((UInt8.ofNat (48 + d)).toNat : Int) = 48 + d := by
  have : (UInt8.ofNat (48 + d)).toNat = 48 + d := by
    rw [UInt8.toNat_ofNat']
    omega
  omega
theorem getD_last (l : List Int) (y : Int) : (l ++ [y]).getD l.length 0 = y := by
  rw [List.getD_eq_getElem?_getD, List.getElem?_append_right (Nat.le_refl _)]
  simp
theorem getD_left (l : List Int) (y : Int) {j : Nat} (h : j < l.length) : (l ++ [y]).getD j 0 = l.getD j 0 := by
  rw [List.getD_eq_getElem?_getD, List.getElem?_append_left h, ← List.getD_eq_getElem?_getD]
/-- a numeral is canonical and reads as its number -/
theorem dec_canon (n : Nat) : ∀ u, u < n → Canon (bl (Lib.decDigits u)) ∧ val (bl (Lib.decDigits u)) (bl (Lib.decDigits u)).length = u ∧ (0 < u → (bl (Lib.decDigits u)).getD 0 0 ≠ 48) := by
  induction n with
  | zero => intro u h; omega
  | succ n ih =>
    intro u hu
    by_cases h : u < 10
    · have e : bl (Lib.decDigits u) = [48 + (u : Int)] := by rw [Lib.decDigits_one h]; unfold bl; rw [List.map_singleton, dig_of u h]
      rw [e]
      refine ⟨⟨by simp, by simp, fun j hj => ?_⟩, ?_, fun h0 => ?_⟩
      · obtain rfl : j = 0 := by simpa using hj
        exact ⟨by simp <;> omega, by simp <;> omega⟩
      · simp [val] <;> omega
      · simp <;> omega
    · have e : bl (Lib.decDigits u) = bl (Lib.decDigits (u / 10)) ++ [48 + ((u % 10 : Nat) : Int)] := by
        rw [Lib.decDigits, dif_neg h, bl_append]
        unfold bl
        rw [List.map_singleton, dig_of (u % 10) (by omega)]
      obtain ⟨⟨c1, c2, c3⟩, hv, hz⟩ := ih (u / 10) (by omega)
      have hz' := hz (by omega)
      rw [e]
      obtain ⟨l, hl⟩ : ∃ l, bl (Lib.decDigits (u / 10)) = l := ⟨_, rfl⟩
      rw [hl] at c1 c2 c3 hv hz' ⊢
      have h0 : (l ++ [48 + ((u % 10 : Nat) : Int)]).getD 0 0 ≠ 48 := by rw [getD_left _ _ (by omega)]; exact hz'
      refine ⟨⟨by simp, fun hh => h0 hh.2, fun j hj => ?_⟩, ?_, fun _ => h0⟩
      · rw [List.length_append, List.length_singleton] at hj
        rcases Nat.lt_or_ge j l.length with hjl | hjl
        · rw [getD_left _ _ hjl]; exact c3 j hjl
        · obtain rfl : j = l.length := by omega
          rw [getD_last]
          exact ⟨by omega, by omega⟩
      · rw [List.length_append, List.length_singleton, val, val_append _ _ _ (Nat.le_refl _), getD_last, hv]
        omega
theorem num_dec (u : Nat) : numR (byts ⟨(Lib.itoa (u : Int)).toArray⟩) (u : Int) = ((u : Int), 0) := by
  have hi : Lib.itoa (u : Int) = Lib.decDigits u := by unfold Lib.itoa; rw [if_neg (by omega), Int.toNat_natCast]
  obtain ⟨hc, hv, _⟩ := dec_canon (u + 1) u (by omega)
  rw [hi, byts_mk, numR_ok hc (by rw [hv]; exact Int.le_refl _), hv]
end Go.Proofs.YteohdanlcaoaiaaDoor
