/- FieldBack: the plain laws. -/
import Derived.Test.YtonckpcbehobhaaDoorNumber2
import Derived.Test.YtonckpcbehobhaaDoorJoin
import Derived.Test.YtonckpcbehobhaaDoorDigits
namespace Go.Proofs.YtonckpcbehobhaaDoor
open Go.RowKit

theorem num_head (l : List Int) (i : Nat) : ∀ k, num l i (k + 1) = l.getD i 0 * 256 ^ k + num l (i + 1) k
  | 0 => by simp [num]
  | k + 1 => by
    rw [num, num_head l i k, num, show i + 1 + k = i + (k + 1) by omega, Int.pow_succ, Int.add_mul, Int.mul_assoc, Int.add_assoc]
theorem split_mod (x : Nat) (m : Nat) : (((x : Int) / 2 ^ (8 * m)) % 256) * 256 ^ m + (x : Int) % 256 ^ m = (x : Int) % 256 ^ (m + 1) := by
  have e : (2 : Int) ^ (8 * m) = 256 ^ m := by rw [Int.pow_mul]; rfl
  rw [e]
  have h : x % (256 ^ m * 256) = x % 256 ^ m + 256 ^ m * (x / 256 ^ m % 256) := Nat.mod_mul
  have h2 : ((x % (256 ^ m * 256) : Nat) : Int) = ((x % 256 ^ m + 256 ^ m * (x / 256 ^ m % 256) : Nat) : Int) := by rw [h]
  have c : ((256 : Nat) : Int) = 256 := rfl
  rw [Int.pow_succ]
  simp only [Int.natCast_emod, Int.natCast_mul, Int.natCast_pow, Int.natCast_add, Int.natCast_ediv, c] at h2
  rw [h2, Int.mul_comm, Int.add_comm]
theorem num_pb (x : Nat) : ∀ (m : Nat) (xs : List Int), num (xs ++ pb x m) xs.length m = (x : Int) % 256 ^ m
  | 0, xs => by simp [num]
  | m + 1, xs => by
    have h1 : xs ++ pb x (m + 1) = (xs ++ [(x : Int) / 2 ^ (8 * m) % 256]) ++ pb x m := by rw [pb]; simp
    have h2 : (xs ++ pb x (m + 1)).getD xs.length 0 = (x : Int) / 2 ^ (8 * m) % 256 := by
      rw [pb, List.getD_eq_getElem?_getD, List.getElem?_append_right (Nat.le_refl _)]
      simp
    rw [num_head, h2]
    have h3 := num_pb x m (xs ++ [(x : Int) / 2 ^ (8 * m) % 256])
    rw [← h1, List.length_append, List.length_singleton] at h3
    rw [h3, split_mod]
/-- the bytes of a list of letters -/
def bl (l : List UInt8) : List Int := l.map fun b => (b.toNat : Int)
theorem byts_mk (l : List UInt8) : byts ⟨l.toArray⟩ = bl l := rfl
theorem bl_append (l r : List UInt8) : bl (l ++ r) = bl l ++ bl r := List.map_append
theorem val_append (l r : List Int) : ∀ k, k ≤ l.length → val (l ++ r) k = val l k
  | 0, _ => rfl
  | k + 1, h => by
    rw [val, val, val_append l r k (by omega), List.getD_eq_getElem?_getD, List.getElem?_append_left (by omega), ← List.getD_eq_getElem?_getD]
theorem dig_of (d : Nat) (h : d < 10) : ((UInt8.ofNat (48 + d)).toNat : Int) = 48 + d := by
  have : (UInt8.ofNat (48 + d)).toNat = 48 + d := by
    rw [UInt8.toNat_ofNat']
    omega
  omega
theorem getD_last (l : List Int) (y : Int) : (l ++ [y]).getD l.length 0 = y := by
  rw [List.getD_eq_getElem?_getD, List.getElem?_append_right (Nat.le_refl _)]
  simp
theorem getD_left (l : List Int) (y : Int) {j : Nat} (h : j < l.length) : (l ++ [y]).getD j 0 = l.getD j 0 := by
  rw [List.getD_eq_getElem?_getD, List.getElem?_append_left h, ← List.getD_eq_getElem?_getD]
/-- a numeral is canonical and reads as its number -/
theorem dec_canon (n : Nat) : ∀ u, u < n → Canon (bl (Lib.decDigits u)) ∧ val (bl (Lib.decDigits u)) (bl (Lib.decDigits u)).length = u ∧ (0 < u → (bl (Lib.decDigits u)).getD 0 0 ≠ 48) := by
  induction n with
  | zero => intro u h; omega
  | succ n ih =>
    intro u hu
    by_cases h : u < 10
    · have e : bl (Lib.decDigits u) = [48 + (u : Int)] := by rw [Lib.decDigits_one h]; unfold bl; rw [List.map_singleton, dig_of u h]
      rw [e]
      refine ⟨⟨by simp, by simp, fun j hj => ?_⟩, ?_, fun h0 => ?_⟩
      · obtain rfl : j = 0 := by simpa using hj
        exact ⟨by simp <;> omega, by simp <;> omega⟩
      · simp [val] <;> omega
      · simp <;> omega
    · have e : bl (Lib.decDigits u) = bl (Lib.decDigits (u / 10)) ++ [48 + ((u % 10 : Nat) : Int)] := by
        rw [Lib.decDigits, dif_neg h, bl_append]
        unfold bl
        rw [List.map_singleton, dig_of (u % 10) (by omega)]
      obtain ⟨⟨c1, c2, c3⟩, hv, hz⟩ := ih (u / 10) (by omega)
      have hz' := hz (by omega)
      rw [e]
      obtain ⟨l, hl⟩ : ∃ l, bl (Lib.decDigits (u / 10)) = l := ⟨_, rfl⟩
      rw [hl] at c1 c2 c3 hv hz' ⊢
      have h0 : (l ++ [48 + ((u % 10 : Nat) : Int)]).getD 0 0 ≠ 48 := by rw [getD_left _ _ (by omega)]; exact hz'
      refine ⟨⟨by simp, fun hh => h0 hh.2, fun j hj => ?_⟩, ?_, fun _ => h0⟩
      · rw [List.length_append, List.length_singleton] at hj
        rcases Nat.lt_or_ge j l.length with hjl | hjl
        · rw [getD_left _ _ hjl]; exact c3 j hjl
        · obtain rfl : j = l.length := by omega
          rw [getD_last]
          exact ⟨by omega, by omega⟩
      · rw [List.length_append, List.length_singleton, val, val_append _ _ _ (Nat.le_refl _), getD_last, hv]
        omega
theorem num_dec (u : Nat) : numR (byts ⟨(Lib.itoa (u : Int)).toArray⟩) (u : Int) = ((u : Int), 0) := by
  have hi : Lib.itoa (u : Int) = Lib.decDigits u := by unfold Lib.itoa; rw [if_neg (by omega), Int.toNat_natCast]
  obtain ⟨hc, hv, _⟩ := dec_canon (u + 1) u (by omega)
  rw [hi, byts_mk, numR_ok hc (by rw [hv]; exact Int.le_refl _), hv]
/-- a canonical text is the numeral of its number -/
theorem canon_dec : ∀ (n : Nat) (l : List UInt8), l.length < n → Canon (bl l) → ∃ u : Nat, val (bl l) (bl l).length = (u : Int) ∧ l = Lib.decDigits u ∧ (1 < l.length → 0 < u)
  | 0, l, h, _ => absurd h (by omega)
  | n + 1, l, hl, ⟨c1, c2, c3⟩ => by
    have hbl : (bl l).length = l.length := by unfold bl; simp
    rcases List.eq_nil_or_concat l with rfl | ⟨r, b, rfl⟩
    · exact absurd rfl c1
    rw [List.concat_eq_append] at *
    have hb : bl (r ++ [b]) = bl r ++ [(b.toNat : Int)] := bl_append r [b]
    have hbr : (bl r).length = r.length := by unfold bl; simp
    rw [hb] at c1 c2 c3 ⊢
    have hd := c3 (bl r).length (by simp)
    rw [getD_last] at hd
    obtain ⟨hd0, hd1⟩ := hd
    have hbb : b = UInt8.ofNat (48 + (b.toNat - 48)) := by
      refine UInt8.toNat_inj.1 ?_
      rw [UInt8.toNat_ofNat']
      have := b.toNat_lt
      omega
    by_cases hr : r = []
    · subst hr
      refine ⟨b.toNat - 48, ?_, ?_, fun h => absurd h (by simp)⟩
      · simp [bl, val]; omega
      · rw [Lib.decDigits_one (by omega), List.nil_append, ← hbb]
    · have hr0 : 0 < r.length := List.length_pos_iff.2 hr
      have hcr : Canon (bl r) := ⟨by omega, fun hh => c2 ⟨by rw [List.length_append, List.length_singleton]; omega, by rw [getD_left _ _ (by omega)]; exact hh.2⟩, fun j hj => by
        have := c3 j (by rw [List.length_append]; omega)
        rwa [getD_left _ _ hj] at this⟩
      obtain ⟨u, hu, hru, hpos⟩ := canon_dec n r (by rw [List.length_append, List.length_singleton] at hl; omega) hcr
      have hz : (bl r).getD 0 0 ≠ 48 := fun hh => c2 ⟨by rw [List.length_append, List.length_singleton]; omega, by rw [getD_left _ _ (by omega)]; exact hh⟩
      have hu0 : 0 < u := by
        rcases Nat.lt_or_ge 1 r.length with h | h
        · exact hpos h
        · obtain ⟨y, rfl⟩ := List.length_eq_one_iff.1 (show r.length = 1 by omega)
          have h1 := hcr.2.2 0 (by simp [bl])
          have h2 : val (bl [y]) (bl [y]).length = (bl [y]).getD 0 0 - 48 := by simp [bl, val]
          rw [h2] at hu
          have := h1.1
          omega
      refine ⟨10 * u + (b.toNat - 48), ?_, ?_, fun _ => by omega⟩
      · rw [List.length_append, List.length_singleton, val, val_append _ _ _ (Nat.le_refl _), getD_last, hu]
        omega
      · rw [Lib.decDigits, dif_neg (by omega), show (10 * u + (b.toNat - 48)) / 10 = u by omega, show (10 * u + (b.toNat - 48)) % 10 = b.toNat - 48 by omega, ← hru, ← hbb]
theorem back_dec {s : ByteArray} {m y : Int} (h : numR (byts s) m = (y, 0)) : (⟨(Lib.itoa y).toArray⟩ : ByteArray) = s := by
  by_cases hc : Canon (byts s)
  case neg => rw [numR_bad hc] at h; cases h
  by_cases hm : m < val (byts s) (byts s).length
  case pos => rw [numR_over hc hm] at h; cases h
  rw [numR_ok hc (by omega)] at h
  simp only [Prod.mk.injEq, and_true] at h
  obtain ⟨u, hu, hl, _⟩ := canon_dec (s.data.toList.length + 1) s.data.toList (by omega) hc
  have e : byts s = bl s.data.toList := rfl
  rw [e, hu] at h
  subst h
  have hi : Lib.itoa (u : Int) = Lib.decDigits u := by unfold Lib.itoa; rw [if_neg (by omega), Int.toNat_natCast]
  rw [hi, ← hl]
end Go.Proofs.YtonckpcbehobhaaDoor
