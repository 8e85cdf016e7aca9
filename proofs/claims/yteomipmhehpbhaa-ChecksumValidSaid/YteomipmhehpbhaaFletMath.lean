/- The Fletcher sums as plain mathematics: the value that makes both sums multiples of 255 is the one that the search finds. -/
import Derived.Test.YteomipmhehpbhaaBase
namespace Go.Proofs.Yteomipmhehpbhaa

/-- the sum of the first k values -/
def fS (f : Nat → Int) : Nat → Int
  | 0 => 0
  | k + 1 => fS f k + f k
/-- the weighted sum of the first k values -/
def fT (f : Nat → Int) (n : Nat) : Nat → Int
  | 0 => 0
  | k + 1 => fT f n k + ((n : Int) - k) * f k
theorem mod_add (s c : Int) : (s % 255 + c) % 255 = (s + c) % 255 := by omega
theorem mod_mul_add (t d c : Int) : (t % 255 + d % 255 * c) % 255 = (t + d * c) % 255 := by
  have h : d * c = d % 255 * c + 255 * (d / 255 * c) := by
    have := Int.emod_add_mul_ediv d 255
    grind
  rw [h]
  generalize d % 255 * c = u
  generalize d / 255 * c = v
  omega
theorem fS_congr {f g : Nat → Int} : ∀ {k : Nat}, (∀ j, j < k → f j = g j) → fS f k = fS g k
  | 0, _ => rfl
  | k + 1, h => by rw [fS, fS, fS_congr (fun j hj => h j (by omega)), h k (by omega)]
theorem fT_congr {f g : Nat → Int} {n : Nat} : ∀ {k : Nat}, (∀ j, j < k → f j = g j) → fT f n k = fT g n k
  | 0, _ => rfl
  | k + 1, h => by rw [fT, fT, fT_congr (fun j hj => h j (by omega)), h k (by omega)]
/-- one place gets another value -/
theorem fS_set (f : Nat → Int) (i : Nat) (v : Int) : ∀ k, fS (fun j => if j = i then v else f j) k = fS f k + if i < k then v - f i else 0
  | 0 => by simp [fS]
  | k + 1 => by
    rw [fS, fS, fS_set f i v k]
    by_cases h : k = i
    · subst h
      simp
      omega
    · by_cases h2 : i < k
      · have : i < k + 1 := by omega
        simp [h, h2, this]
        omega
      · have : ¬ i < k + 1 := by omega
        simp [h, h2, this]
theorem fT_set (f : Nat → Int) (n i : Nat) (v : Int) : ∀ k, fT (fun j => if j = i then v else f j) n k = fT f n k + if i < k then ((n : Int) - i) * (v - f i) else 0
  | 0 => by simp [fT]
  | k + 1 => by
    rw [fT, fT, fT_set f n i v k]
    by_cases h : k = i
    · subst h
      simp
      grind
    · by_cases h2 : i < k
      · have : i < k + 1 := by omega
        simp [h, h2, this]
        grind
      · have : ¬ i < k + 1 := by omega
        simp [h, h2, this]

/-- the number from 1 to 255 that differs by a multiple of 255 -/
def res (n : Int) : Int := (n - 1) % 255 + 1
theorem res_mod (n : Int) : res n % 255 = n % 255 := by unfold res; omega
theorem res_bd (n : Int) : 1 ≤ res n ∧ res n ≤ 255 := by unfold res; omega
theorem res_eq {m n : Int} (h : m % 255 = n % 255) (h1 : 1 ≤ m) (h2 : m ≤ 255) : m = res n := by unfold res; omega

/-- the search's test at x, of the sums s and t modulo 255, d the number of bytes behind the index -/
def hit (s t : Int) (n i : Nat) (x : Int) : Int := (t + ((n : Int) - i) % 255 * x + (((n : Int) - i) % 255 + 254) % 255 * (255 - (s + x) % 255)) % 255
theorem hit_eq (s t : Int) (n i : Nat) (x : Int) : hit s t n i x = (t + x - ((n : Int) - i - 1) % 255 * s) % 255 := by
  unfold hit
  have e1 : (((n : Int) - i) % 255 + 254) % 255 = ((n : Int) - i - 1) % 255 := by omega
  rw [e1]
  obtain ⟨d, hd⟩ : ∃ d, d = ((n : Int) - i - 1) % 255 := ⟨_, rfl⟩
  obtain ⟨e, he⟩ : ∃ e, ((n : Int) - i) % 255 = d + 1 - 255 * e := ⟨(d + 1) / 255, by omega⟩
  obtain ⟨q, hq⟩ : ∃ q, (s + x) % 255 = s + x - 255 * q := ⟨(s + x) / 255, by omega⟩
  rw [← hd, he, hq]
  have h : t + (d + 1 - 255 * e) * x + d * (255 - (s + x - 255 * q)) = t + x - d * s + 255 * (d + d * q - e * x) := by grind
  rw [h]
  generalize d * s = u
  generalize d + d * q - e * x = v
  omega
/-- the first of the two bytes -/
def fX (s t : Int) (n i : Nat) : Int := res (((n : Int) - i - 1) % 255 * s - t)
def fY (s x : Int) : Int := res (-s - x)
theorem fY_eq (s x : Int) : 255 - (s + x) % 255 = fY s x := by unfold fY res; omega
theorem hit_fX (s t : Int) (n i : Nat) : hit s t n i (fX s t n i) = 0 := by
  rw [hit_eq]
  have := res_mod (((n : Int) - i - 1) % 255 * s - t)
  unfold fX
  generalize ((n : Int) - i - 1) % 255 * s = u at *
  omega
theorem hit_only {s t : Int} {n i : Nat} {x : Int} (h : hit s t n i x = 0) (h1 : 1 ≤ x) (h2 : x ≤ 255) : x = fX s t n i := by
  rw [hit_eq] at h
  unfold fX
  generalize ((n : Int) - i - 1) % 255 * s = u at *
  refine res_eq ?_ h1 h2
  omega
/-- with both bytes in their places the sums are multiples of 255 -/
theorem sealed_S (s x : Int) : (s + x + fY s x) % 255 = 0 := by unfold fY res; omega
theorem sealed_T (s t : Int) (n i : Nat) : (t + ((n : Int) - i) * fX (s % 255) (t % 255) n i + ((n : Int) - i - 1) * fY (s % 255) (fX (s % 255) (t % 255) n i)) % 255 = 0 := by
  obtain ⟨x, hx⟩ : ∃ x, x = fX (s % 255) (t % 255) n i := ⟨_, rfl⟩
  rw [← hx]
  have h0 := hit_fX (s % 255) (t % 255) n i
  rw [← hx, hit_eq] at h0
  obtain ⟨y, hy⟩ : ∃ y, y = fY (s % 255) x := ⟨_, rfl⟩
  rw [← hy]
  obtain ⟨q, hq⟩ : ∃ q, s % 255 + x + y = 255 * q := ⟨(s % 255 + x + y) / 255, by
    have := sealed_S (s % 255) x
    rw [← hy] at this
    omega⟩
  obtain ⟨d, hd⟩ : ∃ d, d = (n : Int) - i - 1 := ⟨_, rfl⟩
  have e1 : (n : Int) - i = d + 1 := by omega
  rw [← hd] at h0 ⊢
  rw [e1]
  obtain ⟨r, hr⟩ : ∃ r, d % 255 = d - 255 * r := ⟨d / 255, by omega⟩
  obtain ⟨u, hu⟩ : ∃ u, t = t % 255 + 255 * u := ⟨t / 255, by omega⟩
  rw [hr] at h0
  have ey : y = 255 * q - s % 255 - x := by omega
  have h : t + (d + 1) * x + d * y = (t % 255 + x - (d - 255 * r) * (s % 255)) + 255 * (u + d * q - r * (s % 255)) := by
    rw [ey]
    grind
  rw [h]
  generalize t % 255 + x - (d - 255 * r) * (s % 255) = a at *
  generalize u + d * q - r * (s % 255) = b
  omega
end Go.Proofs.Yteomipmhehpbhaa
