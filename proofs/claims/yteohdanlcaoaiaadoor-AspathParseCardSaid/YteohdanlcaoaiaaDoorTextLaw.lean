/- The texts of paths: plain laws. -/
import Derived.Test.YteohdanlcaoaiaaDoorPrepend
import Derived.Test.YteohdanlcaoaiaaDoorLineLaw
import Derived.Test.YteohdanlcaoaiaaDoorDigits
namespace Go.Proofs.YteohdanlcaoaiaaDoor
open Go.RowKit

def strB (l : List UInt8) : ByteArray := ⟨l.toArray⟩
theorem strB_list (l : List UInt8) : (strB l).data.toList = l := by simp [strB]
theorem strB_size (l : List UInt8) : (strB l).size = l.length := by
  show l.toArray.size = _
  simp
theorem strB_of {b : ByteArray} {l : List UInt8} (h : b.data.toList = l) : b = strB l := bytes_ext (by rw [h, strB_list])
theorem size_list (b : ByteArray) : b.size = b.data.toList.length := by rw [Array.length_toList]; rfl
theorem add_list (a b : ByteArray) : (a ++ b).data.toList = a.data.toList ++ b.data.toList := by rw [ByteArray.data_append]; simp
/-- numbers with a separator -/
def sepd (c : UInt8) : List Int → List UInt8
  | [] => []
  | [n] => Lib.itoa n
  | n :: m :: r => Lib.itoa n ++ c :: sepd c (m :: r)
theorem sepd_app (c : UInt8) : ∀ (a b : List Int), a ≠ [] → b ≠ [] → sepd c (a ++ b) = sepd c a ++ c :: sepd c b
  | [], b, h, _ => absurd rfl h
  | [x], [], _, h => absurd rfl h
  | [x], y :: b, _, _ => rfl
  | x :: y :: a, b, _, hb => by
    have := sepd_app c (y :: a) b (by simp) hb
    rw [List.cons_append, List.cons_append, sepd, ← List.cons_append, this, sepd]
    simp
theorem dec_short : ∀ (k u : Nat), u < 10 ^ (k + 1) → (Lib.decDigits u).length ≤ k + 1
  | 0, u, h => by rw [Lib.decDigits_one (by simpa using h)]; simp
  | k + 1, u, h => by
    by_cases h10 : u < 10
    · rw [Lib.decDigits_one h10]; simp
    · rw [Lib.decDigits, dif_neg h10, List.length_append, List.length_singleton]
      rw [Nat.pow_succ] at h
      have := dec_short k (u / 10) (by omega)
      omega
theorem itoa_short {n : Int} (h0 : 1 ≤ n) (h1 : n ≤ 4294967295) : (Lib.itoa n).length ≤ 10 := by
  unfold Lib.itoa
  rw [if_neg (by omega)]
  exact dec_short 9 _ (by omega)
theorem decDigits_pos (u : Nat) : 1 ≤ (Lib.decDigits u).length := by
  rw [Lib.decDigits]
  split
  · simp
  · simp
theorem itoa_pos {n : Int} : 1 ≤ (Lib.itoa n).length := by
  unfold Lib.itoa
  split
  · simp
  · exact decDigits_pos _
theorem sepd_short (c : UInt8) : ∀ (l : List Int), rangeB l = true → (sepd c l).length ≤ 11 * l.length
  | [], _ => by simp [sepd]
  | [n], h => by
    unfold rangeB at h
    simp only [List.all_cons, List.all_nil, Bool.and_true, decide_eq_true_eq] at h
    have := itoa_short h.1 h.2
    simp only [sepd, List.length_singleton]
    omega
  | n :: m :: r, h => by
    unfold rangeB at h
    rw [List.all_cons, Bool.and_eq_true, decide_eq_true_eq] at h
    have := itoa_short h.1.1 h.1.2
    have h2 := sepd_short c (m :: r) h.2
    rw [sepd, List.length_append, List.length_cons]
    simp only [List.length_cons] at h2 ⊢
    omega
theorem sepd_ne {c : UInt8} : ∀ {l : List Int}, l ≠ [] → sepd c l ≠ []
  | [], h => absurd rfl h
  | [n], _ => by
    rw [sepd]
    intro h
    have := itoa_pos (n := n)
    rw [h] at this
    simp at this
  | n :: m :: r, _ => by
    rw [sepd]
    simp
theorem range_take {l : List Int} (h : rangeB l = true) (k : Nat) : rangeB (l.take k) = true := by
  unfold rangeB at h ⊢
  rw [List.all_eq_true] at h ⊢
  exact fun x hx => h x (List.mem_of_mem_take hx)
theorem range_app {a b : List Int} : rangeB (a ++ b) = (rangeB a && rangeB b) := by unfold rangeB; rw [List.all_append]
/-- one more number -/
theorem sepd_next {c : UInt8} {l : List Int} {k : Nat} {x : Int} {b b' : List UInt8} (h : l[k]? = some x) (hb : b = sepd c (l.take k)) (hb' : b' = if k = 0 then b ++ Lib.itoa x else (b ++ [c]) ++ Lib.itoa x) : b' = sepd c (l.take (k + 1)) := by
  rw [List.take_add_one, h, hb', hb]
  by_cases h0 : k = 0
  · subst h0
    simp [sepd]
  · rw [if_neg h0]
    have hne : l.take k ≠ [] := by
      intro hh
      have h1 := congrArg List.length hh
      have h2 := (List.getElem?_eq_some_iff.1 h).1
      rw [List.length_take, List.length_nil] at h1
      omega
    rw [show (some x).toList = [x] from rfl, sepd_app c _ _ hne (by simp)]
    simp [sepd]
/-- a word -/
def wordR (k : Int) (l : List Int) : List UInt8 :=
  if k = 2 then sepd 32 l else if k = 1 then 123 :: (sepd 44 l ++ [125]) else if k = 4 then 91 :: (sepd 44 l ++ [93]) else 40 :: (sepd 32 l ++ [41])
/-- adjacent sequences of a kind are written together -/
def grp : Path → Path
  | [] => []
  | s :: r => match grp r with
    | [] => [s]
    | t :: q => if s.1 = t.1 ∧ seqB s.1 = true then (s.1, s.2 ++ t.2) :: q else s :: t :: q
/-- the text -/
def txt (p : Path) : List UInt8 := jl ((grp p).map fun g => wordR g.1 g.2)
/-- the text behind other words -/
def spt (p : Path) : List UInt8 := if p = [] then [] else 32 :: txt p
theorem grp_cons (s : Int × List Int) (r : Path) : ∃ l q, grp (s :: r) = (s.1, l) :: q := by
  rw [grp]
  split
  · exact ⟨s.2, [], rfl⟩
  · split
    · exact ⟨_, _, rfl⟩
    · exact ⟨_, _, rfl⟩
theorem grp_nil {p : Path} : grp p = [] ↔ p = [] := by
  cases p with
  | nil => simp [grp]
  | cons s r =>
    obtain ⟨l, q, h⟩ := grp_cons s r
    rw [h]
    simp
theorem jl_map_cons (g : Int × List Int) (q : Path) : jl ((g :: q).map fun g => wordR g.1 g.2) = wordR g.1 g.2 ++ if q = [] then [] else 32 :: jl (q.map fun g => wordR g.1 g.2) := by
  cases q with
  | nil => simp [jl]
  | cons h t => simp [jl]
/-- a segment that is not joined to what follows -/
theorem txt_single {s : Int × List Int} {r : Path} (h : seqB s.1 = false ∨ ∀ t, r[0]? = some t → t.1 ≠ s.1) : txt (s :: r) = wordR s.1 s.2 ++ spt r := by
  unfold txt spt
  cases r with
  | nil => simp [grp, jl]
  | cons t r =>
    obtain ⟨l, q, hg⟩ := grp_cons t r
    have : grp (s :: t :: r) = s :: grp (t :: r) := by
      rw [grp, hg]
      show (if s.1 = t.1 ∧ seqB s.1 = true then _ else _) = _
      rw [if_neg]
      rintro ⟨h1, h2⟩
      rcases h with h | h
      · rw [h] at h2; cases h2
      · exact h t rfl h1.symm
    rw [this, jl_map_cons, hg]
    simp [txt, hg]
/-- a segment that is joined to the next one -/
theorem txt_join {k : Int} {l l' : List Int} {r : Path} (h : seqB k = true) : txt ((k, l) :: (k, l') :: r) = txt ((k, l ++ l') :: r) := by
  unfold txt
  congr 2
  rw [grp]
  cases hg : grp r with
  | nil => rw [grp, hg]; simp [grp, hg, h]
  | cons t q =>
    rw [grp, hg]
    simp only
    by_cases h1 : k = t.1
    · subst h1
      simp [grp, hg, h]
    · simp [grp, hg, h, h1]
/-- the words of a sequence that has no brackets -/
theorem txt_seq {l : List Int} {r : Path} (hl : l ≠ []) (hr : ∀ t ∈ r, t.2 ≠ []) : txt ((2, l) :: r) = sepd 32 l ++ spt r := by
  induction r generalizing l with
  | nil => simp [txt, grp, jl, wordR, spt]
  | cons t r ih =>
    obtain ⟨k, l'⟩ := t
    by_cases hk : k = 2
    · subst hk
      have hl' : l' ≠ [] := hr _ (List.mem_cons_self)
      have hr' : ∀ t ∈ r, t.2 ≠ [] := fun t ht => hr t (List.mem_cons_of_mem _ ht)
      rw [txt_join (by decide), ih (l := l ++ l') (by simp [hl]) hr', sepd_app 32 l l' hl hl']
      have : spt ((2, l') :: r) = 32 :: txt ((2, l') :: r) := by unfold spt; rw [if_neg (by simp)]
      rw [this, ih hl' hr']
      simp
    · rw [txt_single (.inr (fun t ht => by
        simp only [List.getElem?_cons_zero, Option.some.injEq] at ht
        subst ht
        exact hk))]
      rfl
/-- a whole run of sequences -/
theorem txt_run {k : Int} (h : seqB k = true) : ∀ (m : Nat) (l : List Int) (r : Path), m = runL k r → txt ((k, l) :: r) = wordR k (l ++ flat (r.take m)) ++ spt (r.drop m)
  | 0, l, r, hm => by
    rw [txt_single (.inr fun t ht => ?_)]
    · simp [flat]
    · cases r with
      | nil => simp at ht
      | cons u r =>
        simp only [List.getElem?_cons_zero, Option.some.injEq] at ht
        subst ht
        rw [runL_cons] at hm
        intro h1
        rw [if_pos h1] at hm
        omega
  | m + 1, l, [], hm => by simp [runL] at hm
  | m + 1, l, (k', l') :: r, hm => by
    rw [runL_cons] at hm
    by_cases h1 : k' = k
    · subst h1
      rw [if_pos rfl] at hm
      rw [txt_join h, txt_run h m (l ++ l') r (by omega)]
      simp [flat]
    · rw [if_neg h1] at hm
      omega
theorem spt_short {p : Path} (h : (txt p).length ≤ 1000000000) : (spt p).length ≤ 1000000001 := by
  unfold spt
  split
  · simp
  · rw [List.length_cons]; omega
theorem word_short {k : Int} {l : List Int} (h : rangeB l = true) : (wordR k l).length ≤ 11 * l.length + 2 := by
  unfold wordR
  have h1 := sepd_short 32 l h
  have h2 := sepd_short 44 l h
  split
  · omega
  · split
    · simp only [List.length_cons, List.length_append, List.length_nil]; omega
    · split
      · simp only [List.length_cons, List.length_append, List.length_nil]; omega
      · simp only [List.length_cons, List.length_append, List.length_nil]; omega
theorem grp_short : ∀ (p : Path), rangeB (flat p) = true → rangeB (flat (grp p)) = true ∧ flat (grp p) = flat p ∧ (grp p).length ≤ p.length
  | [], _ => ⟨rfl, rfl, Nat.le_refl _⟩
  | s :: r, h => by
    have h0 : flat (s :: r) = s.2 ++ flat r := by unfold flat; rw [List.flatMap_cons]
    have h1 : rangeB (flat r) = true := by rw [h0, range_app, Bool.and_eq_true] at h; exact h.2
    obtain ⟨i1, i2, i3⟩ := grp_short r h1
    have key : flat (grp (s :: r)) = flat (s :: r) ∧ (grp (s :: r)).length ≤ r.length + 1 := by
      rw [grp]
      split
      · rename_i hg
        have := grp_nil.1 hg
        subst this
        exact ⟨rfl, by simp⟩
      · rename_i t q hg
        rw [hg] at i2 i3
        simp only [List.length_cons] at i3
        split
        · refine ⟨?_, by simp only [List.length_cons]; omega⟩
          rw [h0, ← i2]
          unfold flat
          simp
        · refine ⟨?_, by simp only [List.length_cons]; omega⟩
          rw [h0, ← i2]
          unfold flat
          simp
    exact ⟨by rw [key.1]; exact h, key.1, key.2⟩
theorem jl_words_short : ∀ (p : Path), rangeB (flat p) = true → (jl (p.map fun g => wordR g.1 g.2)).length ≤ 11 * (flat p).length + 3 * p.length
  | [], _ => by simp [jl]
  | s :: r, h => by
    have h0 : flat (s :: r) = s.2 ++ flat r := by unfold flat; rw [List.flatMap_cons]
    rw [h0, range_app, Bool.and_eq_true] at h
    have h1 := jl_words_short r h.2
    have h2 := word_short (k := s.1) h.1
    rw [jl_map_cons, h0, List.length_append, List.length_append, List.length_cons]
    split
    · simp only [List.length_nil]; omega
    · rw [List.length_cons]; omega
theorem txt_short {p : Path} (h : rangeB (flat p) = true) : (txt p).length ≤ 11 * (flat p).length + 3 * p.length := by
  obtain ⟨h1, h2, h3⟩ := grp_short p h
  have := jl_words_short (grp p) h1
  rw [h2] at this
  unfold txt
  omega
/-- what a valid path is like -/
theorem chk_seg : ∀ {pr : Option (Int × List Int)} {pl : Bool} {p : Path}, chk pr pl p = 0 → ∀ s ∈ p, segErr s = 0
  | _, _, [], _, s, hs => by cases hs
  | pr, pl, t :: r, h, s, hs => by
    rw [chk] at h
    by_cases h1 : segErr t = 0
    · rw [if_neg (fun g => g h1)] at h
      rcases List.mem_cons.1 hs with rfl | hs
      · exact h1
      · split at h
        · cases h
        · split at h
          · cases h
          · exact chk_seg h s hs
    · rw [if_pos h1] at h
      exact absurd h h1
theorem segErr_parts {s : Int × List Int} (h : segErr s = 0) : (1 ≤ s.1 ∧ s.1 ≤ 4) ∧ s.2 ≠ [] ∧ s.2.length ≤ 255 ∧ rangeB s.2 = true ∧ (setB s.1 = true → ascB s.2 = true) := by
  unfold segErr at h
  split at h
  · cases h
  · rename_i h1
    split at h
    · cases h
    · rename_i h2
      split at h
      · cases h
      · rename_i h3
        split at h
        · cases h
        · rename_i h4
          split at h
          · cases h
          · rename_i h5
            refine ⟨by simpa using h1, fun e => h2 (by rw [e]; rfl), by omega, by simpa using h4, fun hs => ?_⟩
            cases ha : ascB s.2 with
            | true => rfl
            | false => exact absurd ⟨hs, ha⟩ h5
theorem pathErr_parts {p : Path} (h : pathErr p = 0) : p.length ≤ 64 ∧ chk none false p = 0 := by
  unfold pathErr at h
  split at h
  · cases h
  · exact ⟨by omega, h⟩
theorem valid_seg {p : Path} (h : pathErr p = 0) {s : Int × List Int} (hs : s ∈ p) : (1 ≤ s.1 ∧ s.1 ≤ 4) ∧ s.2 ≠ [] ∧ s.2.length ≤ 255 ∧ rangeB s.2 = true ∧ (setB s.1 = true → ascB s.2 = true) :=
  segErr_parts (chk_seg (pathErr_parts h).2 s hs)
theorem valid_range {p : Path} (h : pathErr p = 0) : rangeB (flat p) = true := by
  unfold rangeB flat
  rw [List.all_eq_true]
  intro x hx
  obtain ⟨s, hs, hx⟩ := List.mem_flatMap.1 hx
  have := (valid_seg h hs).2.2.2.1
  unfold rangeB at this
  exact List.all_eq_true.1 this x hx
theorem range_drop {p : Path} (h : rangeB (flat p) = true) (k : Nat) : rangeB (flat (p.drop k)) = true := by
  have : flat p = flat (p.take k) ++ flat (p.drop k) := by
    conv => lhs; rw [← List.take_append_drop k p]
    unfold flat
    rw [List.flatMap_append]
  rw [this, range_app, Bool.and_eq_true] at h
  exact h.2
/-- Text -/
def textR (p : Path) : List UInt8 × Int := if pathErr p = 0 then (txt p, 0) else ([], pathErr p)
end Go.Proofs.YteohdanlcaoaiaaDoor
