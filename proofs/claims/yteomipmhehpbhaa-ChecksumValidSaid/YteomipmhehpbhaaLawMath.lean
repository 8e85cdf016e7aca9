/- What the last three laws of layer 4 say of the sums: a sealed slice is valid; one byte changed is detected; the words' order does not matter. -/
import Derived.Test.YteomipmhehpbhaaRefFlet
import Derived.Test.YteomipmhehpbhaaRefNet
namespace Go.Proofs.Yteomipmhehpbhaa

theorem valid_sealed {xs : List Int} {n i : Nat} (hl : xs.length = n) (hi : i + 1 < n) : valid (sealedXs xs n i) n = true := by
  have bd := cXY_bd xs n i
  have e1 : (256 * cX xs n i + cY xs n i) / 256 = cX xs n i := by omega
  have e2 : (256 * cX xs n i + cY xs n i) % 256 = cY xs n i := by omega
  have hb : byte (sealedXs xs n i) = fun j => if j = i + 1 then cY xs n i else (fun j => if j = i then cX xs n i else skipped xs i j) j := by
    funext j
    rw [sealedXs, byte_with2 (by omega), e1, e2]
    by_cases h1 : j = i
    · subst h1; simp
    · by_cases h2 : j = i + 1
      · subst h2; simp
      · rw [if_neg h1, if_neg h2]
        simp only [h1, h2, if_false]
        rw [skip_no (by omega)]
  have s1 : skipped xs i i = 0 := skip_yes (by omega) (by omega)
  have s2 : skipped xs i (i + 1) = 0 := skip_yes (by omega) (by omega)
  have hS := sealed_S (fS (skipped xs i) n % 255) (cX xs n i)
  have hT := sealed_T (fS (skipped xs i) n) (fT (skipped xs i) n n) n i
  have k1 : i < n := by omega
  have k2 : i + 1 ≠ i := by omega
  unfold valid
  rw [hb, fS_set, fS_set, fT_set, fT_set, if_pos hi, if_pos hi, if_pos k1, if_pos k1, if_neg k2, s1, s2]
  change (fT (skipped xs i) n n + ((n : Int) - i) * cX xs n i + ((n : Int) - i - 1) * cY xs n i) % 255 = 0 at hT
  change (fS (skipped xs i) n % 255 + cX xs n i + cY xs n i) % 255 = 0 at hS
  have hT' : (fT (skipped xs i) n n + ((n : Int) - i) * (cX xs n i - 0) + ((n : Int) - ((i + 1 : Nat) : Int)) * (cY xs n i - 0)) % 255 = 0 := by
    have : ((n : Int) - ((i + 1 : Nat) : Int)) = (n : Int) - i - 1 := by omega
    rw [this, Int.sub_zero, Int.sub_zero]
    exact hT
  have hS' : (fS (skipped xs i) n + (cX xs n i - 0) + (cY xs n i - 0)) % 255 = 0 := by omega
  rw [hS', hT']
  rfl

theorem byte_set {xs : List Int} {i : Nat} {x : Int} (hi : i < xs.length) : byte (xs.set i x) = fun j => if j = i then x else byte xs j := by
  funext j
  unfold byte
  simp only [List.getD_eq_getElem?_getD, List.getElem?_set]
  by_cases h : i = j
  · subst h; simp [hi]
  · have : j ≠ i := fun e => h e.symm
    simp [h, this]
theorem getD_set (xs : List Int) (i j : Nat) (x : Int) (hi : i < xs.length) : (xs.set i x).getD j 0 = if j = i then x else xs.getD j 0 := congrFun (byte_set hi) j
theorem not_valid {xs : List Int} {n i : Nat} {x : Int} (hb : Bytes xs) (hl : xs.length = n) (hi : i < n) (hv : valid xs n = true) (hne : xs.getD i 0 ≠ x) (hx0 : 0 ≤ x) (hx1 : x ≤ 255)
    (h : ¬ (xs.getD i 0 = 0 ∧ x = 255 ∨ xs.getD i 0 = 255 ∧ x = 0)) : valid (xs.set i x) n = false := by
  unfold valid at *
  rw [byte_set (by omega), fS_set, if_pos hi]
  simp at hv
  have := hb i
  have hz : byte xs i = xs.getD i 0 := rfl
  have : ¬ (fS (byte xs) n + (x - byte xs i)) % 255 = 0 := by omega
  simp [this]
theorem wsum_set {xs : List Int} {i : Nat} {x : Int} (hi : i < xs.length) : ∀ k, wsum (xs.set i x) k = wsum xs k + if i < k then (if i % 2 = 0 then (x - xs.getD i 0) * 256 else x - xs.getD i 0) else 0
  | 0 => by simp [wsum]
  | k + 1 => by
    rw [wsum, wsum, wsum_set hi k, getD_set _ _ _ _ hi]
    by_cases h1 : k = i
    · subst h1
      have e1 : ¬ k < k := by omega
      have e2 : k < k + 1 := by omega
      rw [if_neg e1, if_pos e2, if_pos rfl]
      split <;> omega
    · rw [if_neg h1]
      by_cases h2 : i < k
      · have e2 : i < k + 1 := by omega
        rw [if_pos h2, if_pos e2]
        omega
      · have e2 : ¬ i < k + 1 := by omega
        rw [if_neg h2, if_neg e2]
        omega
theorem inet_ne {s d : Int} (h0 : 0 ≤ s) (h1 : 0 ≤ s + d) (hd : d ≠ 0) (hb : -65535 < d ∧ d < 65535) : inet s ≠ inet (s + d) := by
  unfold inet
  split <;> split <;> omega
theorem wsum_nonneg {xs : List Int} (h : ∀ j, 0 ≤ xs.getD j 0) : ∀ k, 0 ≤ wsum xs k
  | 0 => by simp [wsum]
  | k + 1 => by
    have := wsum_nonneg h k
    have := h k
    rw [wsum]
    split <;> omega
theorem inet_set {xs : List Int} {n i : Nat} {x : Int} (hb : Bytes xs) (hl : xs.length = n) (hi : i < n) (hne : xs.getD i 0 ≠ x) (hx0 : 0 ≤ x) (hx1 : x ≤ 255) : inet (wsum xs n) ≠ inet (wsum (xs.set i x) n) := by
  have h0 := wsum_nonneg (fun j => (hb j).1) n
  have h1 : 0 ≤ wsum (xs.set i x) n := wsum_nonneg (fun j => by rw [getD_set _ _ _ _ (by omega)]; split; exact hx0; exact (hb j).1) n
  have hi' := hb i
  rw [wsum_set (by omega), if_pos hi] at h1 ⊢
  refine inet_ne h0 h1 ?_ ?_ <;> split <;> omega
/-- two words exchanged -/
def swapped (xs : List Int) (i k : Nat) : List Int :=
  (((xs.set (2 * i) (xs.getD (2 * k) 0)).set (2 * i + 1) (xs.getD (2 * k + 1) 0)).set (2 * k) (xs.getD (2 * i) 0)).set (2 * k + 1) (xs.getD (2 * i + 1) 0)
theorem wsum_swapped {xs : List Int} {n i k : Nat} (hl : xs.length = n) (hi : 2 * i + 1 < n) (hk : 2 * k + 1 < n) : wsum (swapped xs i k) n = wsum xs n := by
  have a1 : 2 * i < n := by omega
  have a2 : 2 * k < n := by omega
  have p1 : 2 * i % 2 = 0 := by omega
  have p2 : 2 * k % 2 = 0 := by omega
  have q1 : ¬ (2 * i + 1) % 2 = 0 := by omega
  have q2 : ¬ (2 * k + 1) % 2 = 0 := by omega
  unfold swapped
  obtain ⟨y1, h1⟩ : ∃ y, y = xs.set (2 * i) (xs.getD (2 * k) 0) := ⟨_, rfl⟩
  obtain ⟨y2, h2⟩ : ∃ y, y = y1.set (2 * i + 1) (xs.getD (2 * k + 1) 0) := ⟨_, rfl⟩
  obtain ⟨y3, h3⟩ : ∃ y, y = y2.set (2 * k) (xs.getD (2 * i) 0) := ⟨_, rfl⟩
  have l1 : y1.length = n := by rw [h1, List.length_set, hl]
  have l2 : y2.length = n := by rw [h2, List.length_set, l1]
  have l3 : y3.length = n := by rw [h3, List.length_set, l2]
  have g1 := fun j => getD_set xs (2 * i) j (xs.getD (2 * k) 0) (by omega)
  have g2 := fun j => getD_set y1 (2 * i + 1) j (xs.getD (2 * k + 1) 0) (by omega)
  have g3 := fun j => getD_set y2 (2 * k) j (xs.getD (2 * i) 0) (by omega)
  rw [← h1] at g1
  rw [← h2] at g2
  rw [← h3] at g3
  have s1 := wsum_set (xs := xs) (i := 2 * i) (x := xs.getD (2 * k) 0) (by omega) n
  have s2 := wsum_set (xs := y1) (i := 2 * i + 1) (x := xs.getD (2 * k + 1) 0) (by omega) n
  have s3 := wsum_set (xs := y2) (i := 2 * k) (x := xs.getD (2 * i) 0) (by omega) n
  have s4 := wsum_set (xs := y3) (i := 2 * k + 1) (x := xs.getD (2 * i + 1) 0) (by omega) n
  rw [← h1, if_pos a1, if_pos p1] at s1
  rw [← h2, if_pos hi, if_neg q1, g1, if_neg (by omega)] at s2
  rw [← h3, if_pos a2, if_pos p2, g2, if_neg (by omega), g1] at s3
  rw [if_pos hk, if_neg q2, g3, if_neg (by omega), g2, g1, if_neg (show ¬ 2 * k + 1 = 2 * i by omega)] at s4
  rw [← h1, ← h2, ← h3, s4, s3, s2, s1]
  by_cases h : k = i
  · subst h
    simp
  · rw [if_neg (by omega), if_neg (by omega)]
    omega
theorem Bytes.set {xs : List Int} (hb : Bytes xs) {i : Nat} {x : Int} (hi : i < xs.length) (h0 : 0 ≤ x) (h1 : x ≤ 255) : Bytes (xs.set i x) := by
  intro j
  rw [getD_set _ _ _ _ hi]
  split
  · exact ⟨h0, h1⟩
  · exact hb j
theorem Bytes.swapped {xs : List Int} (hb : Bytes xs) {n i k : Nat} (hl : xs.length = n) (hi : 2 * i + 1 < n) (hk : 2 * k + 1 < n) : Bytes (swapped xs i k) := by
  have b1 := hb (2 * i)
  have b2 := hb (2 * i + 1)
  have b3 := hb (2 * k)
  have b4 := hb (2 * k + 1)
  have l1 : (xs.set (2 * i) (xs.getD (2 * k) 0)).length = n := by rw [List.length_set, hl]
  have l2 : ((xs.set (2 * i) (xs.getD (2 * k) 0)).set (2 * i + 1) (xs.getD (2 * k + 1) 0)).length = n := by rw [List.length_set, l1]
  have l3 : (((xs.set (2 * i) (xs.getD (2 * k) 0)).set (2 * i + 1) (xs.getD (2 * k + 1) 0)).set (2 * k) (xs.getD (2 * i) 0)).length = n := by rw [List.length_set, l2]
  exact (((hb.set (by omega) b3.1 b3.2).set (by omega) b4.1 b4.2).set (by omega) b1.1 b1.2).set (by omega) b2.1 b2.2
end Go.Proofs.Yteomipmhehpbhaa
