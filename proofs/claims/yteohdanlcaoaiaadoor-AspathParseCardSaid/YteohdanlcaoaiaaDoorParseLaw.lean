/- Parse: the plain model, and the path of a text. -/
import Derived.Test.YteohdanlcaoaiaaDoorText
import Derived.Test.YteohdanlcaoaiaaDoorBackLaw
namespace Go.Proofs.YteohdanlcaoaiaaDoor
open Go.RowKit

open Classical in
/-- a number of at most 2^32 - 1 -/
noncomputable def numL (l : List UInt8) : Option Int := if (numR (bl l) 4294967295).2 = 0 then some (numR (bl l) 4294967295).1 else none
theorem numL_of {l : List UInt8} {n : Int} (h : numR (bl l) 4294967295 = (n, 0)) : numL l = some n := by unfold numL; rw [h]; simp
theorem numL_none {l : List UInt8} {n e : Int} (h : numR (bl l) 4294967295 = (n, e)) (he : e ≠ 0) : numL l = none := by unfold numL; rw [h]; simp [he]
theorem itoa_nat {n : Int} (h0 : 0 ≤ n) : ∃ u : Nat, n = (u : Int) ∧ Lib.itoa n = Lib.decDigits u := by
  obtain ⟨u, rfl⟩ : ∃ u : Nat, n = (u : Int) := ⟨n.toNat, by omega⟩
  exact ⟨u, rfl, by unfold Lib.itoa; rw [if_neg (by omega), Int.toNat_natCast]⟩
theorem numL_dec {n : Int} (h0 : 0 ≤ n) (h1 : n ≤ 4294967295) : numL (Lib.itoa n) = some n := by
  obtain ⟨u, rfl, hu⟩ := itoa_nat h0
  obtain ⟨hc, hv, _⟩ := dec_canon (u + 1) u (by omega)
  rw [hu]
  exact numL_of (by rw [numR_ok hc (by rw [hv]; exact h1), hv])
theorem itoa_digit {n : Int} (h0 : 0 ≤ n) : ∀ c ∈ Lib.itoa n, 48 ≤ c.toNat ∧ c.toNat ≤ 57 := by
  obtain ⟨u, rfl, hu⟩ := itoa_nat h0
  obtain ⟨⟨_, _, h3⟩, _, _⟩ := dec_canon (u + 1) u (by omega)
  rw [hu]
  intro c hc
  obtain ⟨j, hj, rfl⟩ := List.mem_iff_getElem.1 hc
  have hj' : j < (bl (Lib.decDigits u)).length := by unfold bl; rw [List.length_map]; exact hj
  have h4 := h3 j hj'
  rw [List.getD_eq_getElem?_getD, List.getElem?_eq_getElem hj'] at h4
  have h5 : dig (((Lib.decDigits u)[j].toNat : Nat) : Int) := by simpa [bl] using h4
  unfold dig at h5
  omega
theorem numL_nil : numL [] = none := numL_none (numR_bad (fun h => h.1 rfl)) (by decide)
theorem numL_pos {l : List UInt8} {n : Int} (h : numL l = some n) : 1 ≤ l.length := by
  cases l with
  | nil => rw [numL_nil] at h; cases h
  | cons a r => simp
/-- numbers that are separated by commas -/
noncomputable def setF : List UInt8 → List UInt8 → Option (List Int)
  | [], cur => match numL cur with
    | none => none
    | some n => some [n]
  | c :: r, cur => if c = 44 then (match numL cur with
    | none => none
    | some n => match setF r [] with
      | none => none
      | some l => some (n :: l)) else setF r (cur ++ [c])
theorem setF_word : ∀ (x r cur : List UInt8), (∀ c ∈ x, c ≠ 44) → setF (x ++ r) cur = setF r (cur ++ x)
  | [], r, cur, _ => by simp
  | c :: x, r, cur, h => by
    rw [List.cons_append, setF, if_neg (h c (by simp)), setF_word x r _ (fun d hd => h d (by simp [hd]))]
    simp
theorem itoa_no (n : Int) (h0 : 0 ≤ n) (d : UInt8) (hd : d.toNat < 48 ∨ 57 < d.toNat) : ∀ c ∈ Lib.itoa n, c ≠ d := fun c hc e => by
  have := itoa_digit h0 c hc
  rw [e] at this
  omega
theorem setF_sepd : ∀ (l : List Int), l ≠ [] → (∀ x ∈ l, 0 ≤ x ∧ x ≤ 4294967295) → setF (sepd 44 l) [] = some l
  | [], h, _ => absurd rfl h
  | [n], _, h => by
    have hn := h n (by simp)
    have := setF_word (Lib.itoa n) [] [] (itoa_no n hn.1 44 (by decide))
    rw [List.append_nil] at this
    rw [sepd, this, setF, List.nil_append, numL_dec hn.1 hn.2]
  | n :: m :: r, _, h => by
    have hn := h n (by simp)
    rw [sepd, setF_word _ _ _ (itoa_no n hn.1 44 (by decide)), List.nil_append, setF, if_pos rfl, numL_dec hn.1 hn.2, setF_sepd (m :: r) (by simp) (fun x hx => h x (by simp [hx]))]
theorem setF_len : ∀ (r cur : List UInt8) (l : List Int), setF r cur = some l → 2 * l.length ≤ r.length + cur.length + 1
  | [], cur, l, h => by
    rw [setF] at h
    cases hn : numL cur with
    | none => rw [hn] at h; cases h
    | some n =>
      rw [hn] at h
      obtain rfl := Option.some.inj h
      have := numL_pos hn
      simp only [List.length_singleton, List.length_nil]
      omega
  | c :: r, cur, l, h => by
    rw [setF] at h
    by_cases hc : c = 44
    · rw [if_pos hc] at h
      cases hn : numL cur with
      | none => rw [hn] at h; cases h
      | some n =>
        rw [hn] at h
        cases hs : setF r [] with
        | none => rw [hs] at h; cases h
        | some l' =>
          rw [hs] at h
          obtain rfl := Option.some.inj h
          have h1 := numL_pos hn
          have h2 := setF_len r [] l' hs
          simp only [List.length_cons, List.length_nil] at h2 ⊢
          omega
    · rw [if_neg hc] at h
      have h2 := setF_len r _ l h
      simp only [List.length_append, List.length_cons, List.length_nil] at h2 ⊢
      omega
/-- the parser's state: the path, the run, within parentheses -/
abbrev PStt := Path × List Int × Bool
/-- the number of a word -/
noncomputable def wordNum (st : PStt) (w : List UInt8) (closed : Bool) : Option PStt :=
  match numL (if closed = true ∧ w ≠ [] then w.dropLast else w) with
  | none => none
  | some n => if closed = true ∧ st.2.2 = false then none
    else if closed = true then some (st.1 ++ seqs 3 (st.2.1 ++ [n]), [], false) else some (st.1, st.2.1 ++ [n], st.2.2)
def isSetW (s : List UInt8) : Bool := decide ((s.head? = some 123 ∧ s.getLast? = some 125) ∨ (s.head? = some 91 ∧ s.getLast? = some 93))
noncomputable def wordStep (st : PStt) (s : List UInt8) : Option PStt :=
  if isSetW s = true then
    match setF ((s.drop 1).dropLast) [] with
    | none => none
    | some l => if st.2.2 = true ∨ 255 < l.length then none else some (st.1 ++ seqs 2 st.2.1 ++ [(if s.head? = some 91 then 4 else 1, l)], [], false)
  else if s.head? = some 40 then
    if st.2.2 = true then none else wordNum (st.1 ++ seqs 2 st.2.1, [], true) (s.drop 1) (decide (s.getLast? = some 41))
  else wordNum st s (decide (s.getLast? = some 41))
noncomputable def foldW : PStt → List (List UInt8) → Option PStt
  | st, [] => some st
  | st, w :: ws => match wordStep st w with
    | none => none
    | some st' => foldW st' ws
open Classical in
/-- Parse -/
noncomputable def parseR (s : ByteArray) : Path × Int :=
  if (wordsR s).2 ≠ 0 then ([], 2)
  else match foldW ([], [], false) (dB (wordsR s).1) with
    | none => ([], 2)
    | some (p, run, op) => if op = true then ([], 2) else if textR (p ++ seqs 2 run) = (s.data.toList, 0) then (p ++ seqs 2 run, 0) else ([], 2)
/-- how much a state holds -/
def wt (st : PStt) : Nat := st.1.length + (flat st.1).length + 2 * st.2.1.length
theorem flat_app (a b : Path) : flat (a ++ b) = flat a ++ flat b := by unfold flat; rw [List.flatMap_append]
theorem wt_num {st st' : PStt} {w : List UInt8} {c : Bool} (h : wordNum st w c = some st') : wt st' ≤ wt st + 2 := by
  unfold wordNum at h
  cases hn : numL (if c = true ∧ w ≠ [] then w.dropLast else w) with
  | none => rw [hn] at h; cases h
  | some n =>
    rw [hn] at h
    simp only at h
    split at h
    · cases h
    · split at h
      · obtain rfl := Option.some.inj h
        have h1 := seqs_len 3 _ (st.2.1 ++ [n]) (Nat.le_refl _)
        have h2 := seqs_flat 3 _ (st.2.1 ++ [n]) (Nat.le_refl _)
        have h3 := congrArg List.length h2
        rw [List.length_append, List.length_singleton] at h1 h3
        unfold wt
        simp only [flat_app, List.length_append, List.length_nil]
        omega
      · obtain rfl := Option.some.inj h
        unfold wt
        simp only [List.length_append, List.length_singleton]
        omega
theorem wt_flush (p : Path) (run : List Int) (k : Int) (op : Bool) : wt (p ++ seqs k run, [], op) ≤ p.length + (flat p).length + 2 * run.length := by
  have h1 := seqs_len k _ run (Nat.le_refl _)
  have h3 := congrArg List.length (seqs_flat k _ run (Nat.le_refl _))
  unfold wt
  simp only [flat_app, List.length_append, List.length_nil]
  omega
theorem wt_step {st st' : PStt} {s : List UInt8} (hs : s ≠ []) (h : wordStep st s = some st') : wt st' ≤ wt st + s.length + 1 := by
  have hs0 : 1 ≤ s.length := by cases s with | nil => exact absurd rfl hs | cons a r => simp
  unfold wordStep at h
  split at h
  · cases hl : setF ((s.drop 1).dropLast) [] with
    | none => rw [hl] at h; cases h
    | some l =>
      rw [hl] at h
      simp only at h
      split at h
      · cases h
      · obtain rfl := Option.some.inj h
        have h1 := setF_len _ _ _ hl
        rw [List.length_dropLast, List.length_drop, List.length_nil] at h1
        have h2 := wt_flush st.1 st.2.1 2 false
        unfold wt at h2 ⊢
        simp only [flat_app, List.length_append, List.length_nil, List.length_singleton] at h2 ⊢
        have h3 : (flat [((if s.head? = some 91 then (4 : Int) else 1), l)]).length = l.length := by simp [flat]
        rw [h3]
        omega
  · split at h
    · split at h
      · cases h
      · have h1 := wt_num h
        have h2 := wt_flush st.1 st.2.1 2 true
        unfold wt at h1 h2 ⊢
        omega
    · have h1 := wt_num h
      omega
/-- a whole line's words -/
theorem jl_cons_len (w : List UInt8) (ws : List (List UInt8)) : w.length + (if ws = [] then 0 else 1 + (jl ws).length) = (jl (w :: ws)).length := by
  cases ws with
  | nil => simp [jl]
  | cons x r => rw [if_neg (by simp), jl, List.length_append, List.length_cons]; omega
theorem wt_fold : ∀ {ws : List (List UInt8)} {st st' : PStt}, (∀ w ∈ ws, w ≠ []) → foldW st ws = some st' → wt st' ≤ wt st + (jl ws).length + 1
  | [], st, st', _, h => by
    obtain rfl := Option.some.inj h
    omega
  | w :: ws, st, st', hw, h => by
    rw [foldW] at h
    cases hs : wordStep st w with
    | none => rw [hs] at h; cases h
    | some s1 =>
      rw [hs] at h
      have h1 := wt_step (hw w (by simp)) hs
      have h2 := jl_cons_len w ws
      cases ws with
      | nil =>
        obtain rfl := Option.some.inj h
        simp only [if_pos] at h2
        omega
      | cons x r =>
        have h3 := wt_fold (fun v hv => hw v (List.mem_cons_of_mem _ hv)) h
        rw [if_neg (by simp)] at h2
        omega
theorem foldW_app : ∀ (a b : List (List UInt8)) (st : PStt), foldW st (a ++ b) = match foldW st a with | none => none | some st' => foldW st' b
  | [], b, st => by simp [foldW]
  | w :: a, b, st => by
    rw [List.cons_append, foldW, foldW]
    cases wordStep st w with
    | none => rfl
    | some s1 => exact foldW_app a b s1
/-- the words of a group -/
def cwF : List Int → List (List UInt8)
  | [] => []
  | [n] => [Lib.itoa n ++ [41]]
  | n :: m :: r => Lib.itoa n :: cwF (m :: r)
def addOpen : List (List UInt8) → List (List UInt8)
  | [] => []
  | w :: ws => (40 :: w) :: ws
def gw (g : Int × List Int) : List (List UInt8) :=
  if g.1 = 2 then g.2.map Lib.itoa else if g.1 = 3 then addOpen (cwF g.2) else [wordR g.1 g.2]
theorem jl_app : ∀ (a b : List (List UInt8)), a ≠ [] → b ≠ [] → jl (a ++ b) = jl a ++ 32 :: jl b
  | [], _, h, _ => absurd rfl h
  | [x], [], _, h => absurd rfl h
  | [x], y :: b, _, _ => rfl
  | x :: y :: a, b, _, hb => by
    have := jl_app (y :: a) b (by simp) hb
    rw [List.cons_append, List.cons_append, jl, ← List.cons_append, this, jl]
    simp
theorem jl_itoa : ∀ l : List Int, jl (l.map Lib.itoa) = sepd 32 l
  | [] => rfl
  | [n] => rfl
  | n :: m :: r => by
    have := jl_itoa (m :: r)
    rw [List.map_cons, List.map_cons, jl, ← List.map_cons, this, sepd]
theorem jl_cwF : ∀ l : List Int, l ≠ [] → jl (cwF l) = sepd 32 l ++ [41]
  | [], h => absurd rfl h
  | [n], _ => rfl
  | n :: m :: r, _ => by
    have := jl_cwF (m :: r) (by simp)
    have hne : ∃ y ys, cwF (m :: r) = y :: ys := by
      cases r with
      | nil => exact ⟨_, _, rfl⟩
      | cons a b => exact ⟨_, _, rfl⟩
    obtain ⟨y, ys, hy⟩ := hne
    rw [cwF, hy, jl, ← hy, this, sepd]
    simp
theorem jl_addOpen : ∀ l : List (List UInt8), l ≠ [] → jl (addOpen l) = 40 :: jl l
  | [], h => absurd rfl h
  | [x], _ => rfl
  | x :: y :: r, _ => by simp [addOpen, jl]
theorem cwF_ne {l : List Int} (h : l ≠ []) : cwF l ≠ [] := by
  match l, h with
  | [n], _ => simp [cwF]
  | n :: m :: r, _ => simp [cwF]
theorem gw_ne {g : Int × List Int} (h : g.2 ≠ []) : gw g ≠ [] := by
  unfold gw
  split
  · simpa using h
  · split
    · have := cwF_ne h
      cases hc : cwF g.2 with
      | nil => exact absurd hc this
      | cons x r => simp [addOpen]
    · simp
theorem gw_word {g : Int × List Int} (h : g.2 ≠ []) (_hk : 1 ≤ g.1 ∧ g.1 ≤ 4) : jl (gw g) = wordR g.1 g.2 := by
  unfold gw
  by_cases h2 : g.1 = 2
  · rw [if_pos h2, jl_itoa]
    unfold wordR
    rw [if_pos h2]
  · rw [if_neg h2]
    by_cases h3 : g.1 = 3
    · rw [if_pos h3, jl_addOpen _ (cwF_ne h), jl_cwF _ h]
      unfold wordR
      rw [if_neg h2, if_neg (by omega), if_neg (by omega)]
    · rw [if_neg h3]
      rfl
theorem txt_words : ∀ (G : Path), (∀ g ∈ G, g.2 ≠ [] ∧ 1 ≤ g.1 ∧ g.1 ≤ 4) → jl (G.map fun g => wordR g.1 g.2) = jl (G.flatMap gw)
  | [], _ => rfl
  | [g], h => by
    have h1 := h g (by simp)
    simp [jl, gw_word h1.1 h1.2]
  | g :: t :: r, h => by
    have h1 := h g (by simp)
    have h2 := h t (by simp)
    have ih := txt_words (t :: r) (fun x hx => h x (by simp [hx]))
    rw [List.flatMap_cons, jl_app _ _ (gw_ne h1.1) (by rw [List.flatMap_cons]; exact fun e => gw_ne h2.1 (List.append_eq_nil_iff.1 e).1), gw_word h1.1 h1.2, ← ih]
    rfl
/-- the steps at the words of a text -/
theorem ge_head {w : List UInt8} (hw : ∀ c ∈ w, 48 ≤ c.toNat ∧ c.toNat ≤ 57) (d : UInt8) (hd : d.toNat < 48 ∨ 57 < d.toNat) : w.head? ≠ some d := by
  cases w with
  | nil => simp
  | cons a r =>
    have := hw a (by simp)
    intro h
    simp only [List.head?_cons, Option.some.injEq] at h
    rw [h] at this
    omega
theorem ge_last {w : List UInt8} (hw : ∀ c ∈ w, 48 ≤ c.toNat ∧ c.toNat ≤ 57) (d : UInt8) (hd : d.toNat < 48 ∨ 57 < d.toNat) : w.getLast? ≠ some d := by
  intro h
  have := hw d (List.mem_of_getLast? h)
  omega
theorem head_app {w : List UInt8} (h : w ≠ []) (r : List UInt8) : (w ++ r).head? = w.head? := by
  cases w with
  | nil => exact absurd rfl h
  | cons a t => rfl
theorem itoa_ne (n : Int) : Lib.itoa n ≠ [] := fun h => by have := itoa_pos (n := n); rw [h] at this; simp at this
section
variable {P : Path} {R : List Int} {op : Bool} {n : Int}
theorem step_num (h0 : 0 ≤ n) (h1 : n ≤ 4294967295) : wordStep (P, R, op) (Lib.itoa n) = some (P, R ++ [n], op) := by
  have hd := itoa_digit h0
  have e1 : isSetW (Lib.itoa n) = false := by
    unfold isSetW
    rw [decide_eq_false_iff_not]
    rintro (⟨h, _⟩ | ⟨h, _⟩)
    · exact ge_head hd 123 (by decide) h
    · exact ge_head hd 91 (by decide) h
  have e2 : decide ((Lib.itoa n).getLast? = some 41) = false := decide_eq_false (ge_last hd 41 (by decide))
  unfold wordStep
  rw [if_neg (by rw [e1]; simp), if_neg (ge_head hd 40 (by decide)), e2]
  unfold wordNum
  rw [if_neg (by simp), numL_dec h0 h1]
  simp
theorem step_close (h0 : 0 ≤ n) (h1 : n ≤ 4294967295) : wordStep (P, R, true) (Lib.itoa n ++ [41]) = some (P ++ seqs 3 (R ++ [n]), [], false) := by
  have hd := itoa_digit h0
  have hh := head_app (itoa_ne n) [41]
  have hl : (Lib.itoa n ++ [41]).getLast? = some 41 := by simp
  have e1 : isSetW (Lib.itoa n ++ [41]) = false := by
    unfold isSetW
    rw [decide_eq_false_iff_not, hl]
    rintro (⟨_, h⟩ | ⟨_, h⟩)
    · exact absurd (Option.some.inj h) (by decide)
    · exact absurd (Option.some.inj h) (by decide)
  unfold wordStep
  rw [if_neg (by rw [e1]; simp), if_neg (by rw [hh]; exact ge_head hd 40 (by decide)), hl]
  unfold wordNum
  rw [if_pos ⟨by simp, by simp⟩, List.dropLast_concat, numL_dec h0 h1]
  simp
theorem step_open (h0 : 0 ≤ n) (h1 : n ≤ 4294967295) : wordStep (P, R, false) (40 :: Lib.itoa n) = some (P ++ seqs 2 R, [n], true) := by
  have hd := itoa_digit h0
  obtain ⟨a, t, ht⟩ : ∃ a t, Lib.itoa n = a :: t := by
    cases h : Lib.itoa n with
    | nil => exact absurd h (itoa_ne n)
    | cons a t => exact ⟨a, t, rfl⟩
  have hl : (40 :: Lib.itoa n).getLast? = (Lib.itoa n).getLast? := by rw [ht]; exact List.getLast?_cons_cons
  have e1 : isSetW (40 :: Lib.itoa n) = false := by
    unfold isSetW
    rw [decide_eq_false_iff_not]
    rintro (⟨h, _⟩ | ⟨h, _⟩)
    · exact absurd (Option.some.inj h) (by decide)
    · exact absurd (Option.some.inj h) (by decide)
  have e2 : decide ((40 :: Lib.itoa n).getLast? = some 41) = false := decide_eq_false (by rw [hl]; exact ge_last hd 41 (by decide))
  unfold wordStep
  rw [if_neg (by rw [e1]; simp), if_pos (show (40 :: Lib.itoa n).head? = some 40 from rfl), if_neg (by simp), e2]
  unfold wordNum
  rw [if_neg (by simp), show (40 :: Lib.itoa n).drop 1 = Lib.itoa n from rfl, numL_dec h0 h1]
  simp
theorem step_single (h0 : 0 ≤ n) (h1 : n ≤ 4294967295) : wordStep (P, R, false) (40 :: (Lib.itoa n ++ [41])) = some (P ++ seqs 2 R ++ seqs 3 [n], [], false) := by
  have hl : (40 :: (Lib.itoa n ++ [41])).getLast? = some 41 := by rw [← List.cons_append]; exact List.getLast?_concat
  have e1 : isSetW (40 :: (Lib.itoa n ++ [41])) = false := by
    unfold isSetW
    rw [decide_eq_false_iff_not]
    rintro (⟨h, _⟩ | ⟨h, _⟩)
    · exact absurd (Option.some.inj h) (by decide)
    · exact absurd (Option.some.inj h) (by decide)
  unfold wordStep
  rw [if_neg (by rw [e1]; simp), if_pos (show (40 :: (Lib.itoa n ++ [41])).head? = some 40 from rfl), if_neg (by simp), hl]
  unfold wordNum
  rw [show (40 :: (Lib.itoa n ++ [41])).drop 1 = Lib.itoa n ++ [41] from rfl, if_pos ⟨by simp, by simp⟩, List.dropLast_concat, numL_dec h0 h1]
  simp
theorem step_set {k : Int} {l : List Int} (hk : k = 1 ∨ k = 4) (hl : l ≠ []) (hr : ∀ x ∈ l, 0 ≤ x ∧ x ≤ 4294967295) (h255 : l.length ≤ 255) : wordStep (P, R, false) (wordR k l) = some (P ++ seqs 2 R ++ [(k, l)], [], false) := by
  have key : ∀ (a b : UInt8) (k : Int), (a = 123 ∧ b = 125 ∧ k = 1) ∨ (a = 91 ∧ b = 93 ∧ k = 4) → wordStep (P, R, false) (a :: (sepd 44 l ++ [b])) = some (P ++ seqs 2 R ++ [(k, l)], [], false) := by
    intro a b k h
    have hg : (a :: (sepd 44 l ++ [b])).getLast? = some b := by rw [← List.cons_append]; exact List.getLast?_concat
    have e1 : isSetW (a :: (sepd 44 l ++ [b])) = true := by
      unfold isSetW
      rw [decide_eq_true_iff, hg]
      rcases h with ⟨rfl, rfl, _⟩ | ⟨rfl, rfl, _⟩
      · exact .inl ⟨rfl, rfl⟩
      · exact .inr ⟨rfl, rfl⟩
    have e2 : (if (a :: (sepd 44 l ++ [b])).head? = some 91 then (4 : Int) else 1) = k := by
      rcases h with ⟨rfl, _, rfl⟩ | ⟨rfl, _, rfl⟩
      · exact if_neg (by simp)
      · exact if_pos rfl
    unfold wordStep
    rw [if_pos e1, show (a :: (sepd 44 l ++ [b])).drop 1 = sepd 44 l ++ [b] from rfl, List.dropLast_concat, setF_sepd l hl hr, e2]
    simp only
    rw [if_neg (by simp; omega)]
  rcases hk with rfl | rfl
  · exact key 123 125 1 (.inl ⟨rfl, rfl, rfl⟩)
  · exact key 91 93 4 (.inr ⟨rfl, rfl, rfl⟩)
theorem fold_nums : ∀ (l : List Int) (R : List Int), (∀ x ∈ l, 0 ≤ x ∧ x ≤ 4294967295) → foldW (P, R, op) (l.map Lib.itoa) = some (P, R ++ l, op)
  | [], R, _ => by simp [foldW]
  | n :: l, R, h => by
    have hn := h n (by simp)
    rw [List.map_cons, foldW, step_num hn.1 hn.2]
    simp only
    rw [fold_nums l _ (fun x hx => h x (by simp [hx]))]
    simp
theorem fold_close : ∀ (l : List Int) (R : List Int), l ≠ [] → (∀ x ∈ l, 0 ≤ x ∧ x ≤ 4294967295) → foldW (P, R, true) (cwF l) = some (P ++ seqs 3 (R ++ l), [], false)
  | [], _, h, _ => absurd rfl h
  | [n], R, _, h => by
    have hn := h n (by simp)
    rw [cwF, foldW, step_close hn.1 hn.2]
    rfl
  | n :: m :: r, R, _, h => by
    have hn := h n (by simp)
    rw [cwF, foldW, step_num hn.1 hn.2]
    simp only
    rw [fold_close (m :: r) _ (by simp) (fun x hx => h x (by simp [hx]))]
    simp
theorem fold_conf : ∀ (l : List Int), l ≠ [] → (∀ x ∈ l, 0 ≤ x ∧ x ≤ 4294967295) → foldW (P, R, false) (addOpen (cwF l)) = some (P ++ seqs 2 R ++ seqs 3 l, [], false)
  | [], h, _ => absurd rfl h
  | [n], _, h => by
    have hn := h n (by simp)
    rw [cwF, addOpen, foldW, step_single hn.1 hn.2]
    rfl
  | n :: m :: r, _, h => by
    have hn := h n (by simp)
    rw [cwF, addOpen, foldW, step_open hn.1 hn.2]
    simp only
    rw [fold_close (m :: r) _ (by simp) (fun x hx => h x (by simp [hx]))]
    simp
end
/-- groups as segments -/
def unG (g : Int × List Int) : Path := if seqB g.1 = true then seqs g.1 g.2 else [g]
def okG : Path → Prop
  | a :: b :: r => (a.1 = b.1 → seqB a.1 = false) ∧ okG (b :: r)
  | _ => True
theorem fold_groups : ∀ (G : Path) (P : Path) (R : List Int), (∀ g ∈ G, g.2 ≠ [] ∧ (1 ≤ g.1 ∧ g.1 ≤ 4) ∧ (seqB g.1 = false → g.2.length ≤ 255) ∧ ∀ x ∈ g.2, 0 ≤ x ∧ x ≤ 4294967295) → okG G → (R ≠ [] → ∀ g, G[0]? = some g → g.1 ≠ 2) →
    ∃ P' R', foldW (P, R, false) (G.flatMap gw) = some (P', R', false) ∧ P' ++ seqs 2 R' = (P ++ seqs 2 R) ++ G.flatMap unG
  | [], P, R, _, _, _ => ⟨P, R, rfl, by simp⟩
  | g :: G, P, R, h, ho, hR => by
    obtain ⟨k, l⟩ := g
    obtain ⟨hl, hk, h255, hx⟩ := h (k, l) (by simp)
    have ho' : okG G := by
      cases G with
      | nil => trivial
      | cons b r => exact ho.2
    have hG : ∀ g ∈ G, _ := fun g hg => h g (List.mem_cons_of_mem _ hg)
    rw [List.flatMap_cons, foldW_app]
    by_cases h2 : k = 2
    · subst h2
      have hR0 : R = [] := by
        cases R with
        | nil => rfl
        | cons a r => exact absurd rfl (hR (by simp) (2, l) rfl)
      subst hR0
      have e : gw (2, l) = l.map Lib.itoa := if_pos rfl
      rw [e, fold_nums l [] hx]
      simp only
      obtain ⟨P', R', h1, h2⟩ := fold_groups G P ([] ++ l) hG ho' (fun _ t ht e => by
        cases G with
        | nil => simp at ht
        | cons b r =>
          simp only [List.getElem?_cons_zero, Option.some.injEq] at ht
          subst ht
          have := ho.1 e.symm
          exact absurd this (by show ¬ seqB 2 = false; decide))
      refine ⟨P', R', h1, ?_⟩
      rw [h2, List.flatMap_cons]
      have : unG (2, l) = seqs 2 l := if_pos (show seqB 2 = true by decide)
      rw [this, seqs_nil 2 (l := []) rfl]
      simp
    · by_cases h3 : k = 3
      · subst h3
        have e : gw (3, l) = addOpen (cwF l) := by
          unfold gw
          rw [if_neg h2, if_pos rfl]
        rw [e, fold_conf l hl hx]
        simp only
        obtain ⟨P', R', h1, h4⟩ := fold_groups G (P ++ seqs 2 R ++ seqs 3 l) [] hG ho' (fun h => absurd rfl h)
        refine ⟨P', R', h1, ?_⟩
        rw [h4, List.flatMap_cons]
        have : unG (3, l) = seqs 3 l := if_pos (show seqB 3 = true by decide)
        rw [this, seqs_nil 2 (l := []) rfl]
        simp
      · have hk14 : k = 1 ∨ k = 4 := by
          have h1 : 1 ≤ k ∧ k ≤ 4 := hk
          omega
        have hsq : seqB k = false := by rcases hk14 with rfl | rfl <;> decide
        have e : gw (k, l) = [wordR k l] := by
          unfold gw
          rw [if_neg h2, if_neg h3]
        rw [e, foldW, step_set hk14 hl hx (h255 hsq)]
        simp only [foldW]
        obtain ⟨P', R', h1, h4⟩ := fold_groups G (P ++ seqs 2 R ++ [(k, l)]) [] hG ho' (fun h => absurd rfl h)
        refine ⟨P', R', h1, ?_⟩
        rw [h4, List.flatMap_cons]
        have : unG (k, l) = [(k, l)] := if_neg (by show ¬ seqB k = true; rw [hsq]; simp)
        rw [this, seqs_nil 2 (l := []) rfl]
        simp
/-- adjacent sequences of a kind: all but the last are full -/
def okA : Path → Prop
  | s :: t :: r => (s.1 = t.1 → seqB s.1 = true → s.2.length = 255) ∧ okA (t :: r)
  | _ => True
theorem seqs_one {k : Int} {l : List Int} (h : l ≠ []) (h1 : l.length ≤ 255) : seqs k l = [(k, l)] := by
  have h0 : ¬ l.length = 0 := fun e => h (List.eq_nil_of_length_eq_zero e)
  rw [seqs_step h0, List.take_of_length_le h1, seqs_nil k (by rw [List.length_drop]; omega)]
theorem seqs_full {k : Int} {l m : List Int} (h1 : l.length = 255) : seqs k (l ++ m) = (k, l) :: seqs k m := by
  rw [seqs_step (by rw [List.length_append]; omega), List.take_append_of_le_length (by omega), List.take_of_length_le (by omega), List.drop_append_of_le_length (by omega), List.drop_of_length_le (by omega)]
  rfl
theorem unG_grp : ∀ (p : Path), okA p → (∀ s ∈ p, s.2 ≠ [] ∧ s.2.length ≤ 255) → (grp p).flatMap unG = p
  | [], _, _ => rfl
  | [s], _, h => by
    have h1 := h s (by simp)
    simp only [grp, List.flatMap_cons, List.flatMap_nil, List.append_nil]
    unfold unG
    split
    · exact seqs_one h1.1 h1.2
    · rfl
  | s :: t :: r, ho, h => by
    have ih := unG_grp (t :: r) ho.2 (fun x hx => h x (by simp [hx]))
    have h1 := h s (by simp)
    obtain ⟨L, q, hg⟩ := grp_cons t r
    rw [hg, List.flatMap_cons] at ih
    rw [grp, hg]
    simp only
    by_cases hj : s.1 = t.1 ∧ seqB s.1 = true
    · rw [if_pos hj, List.flatMap_cons]
      have hf := ho.1 hj.1 hj.2
      have e1 : unG (s.1, s.2 ++ L) = s :: unG (t.1, L) := by
        unfold unG
        simp only
        rw [if_pos hj.2, seqs_full hf, if_pos (by rw [← hj.1]; exact hj.2), ← hj.1]
      rw [e1, List.cons_append, ih]
    · rw [if_neg hj, List.flatMap_cons, List.flatMap_cons, ih]
      have : unG s = [s] := by
        unfold unG
        split
        · exact seqs_one h1.1 h1.2
        · rfl
      rw [this]
      rfl
theorem okG_grp : ∀ (p : Path), okG (grp p)
  | [] => trivial
  | s :: r => by
    have ih := okG_grp r
    rw [grp]
    split
    · trivial
    · rename_i t q hg
      rw [hg] at ih
      split
      · rename_i hj
        cases q with
        | nil => trivial
        | cons u q => exact ⟨fun e => by have := ih.1 (hj.1 ▸ e); rw [hj.1]; exact this, ih.2⟩
      · rename_i hj
        refine ⟨fun e => ?_, ih⟩
        cases hs : seqB s.1 with
        | false => rfl
        | true => exact absurd ⟨e, hs⟩ hj
theorem chk_okA : ∀ {pr : Option (Int × List Int)} {pl : Bool} {p : Path}, chk pr pl p = 0 → okA p
  | _, _, [], _ => trivial
  | _, _, [s], _ => trivial
  | pr, pl, s :: t :: r, h => by
    have hs := chk_seg h s (by simp)
    have ht := chk_seg h t (by simp)
    rw [chk, if_neg (fun g => g hs)] at h
    split at h
    · cases h
    · split at h
      · cases h
      · refine ⟨fun e1 e2 => ?_, chk_okA h⟩
        rw [chk, if_neg (fun g => g ht)] at h
        split at h
        · cases h
        · split at h
          · cases h
          · rename_i ha
            have h255 := (segErr_parts hs).2.2.1
            unfold adj at ha
            simp only [Bool.and_eq_true, decide_eq_true_eq, not_and] at ha
            have := ha (by rw [← e1]; exact e2) e1
            omega
theorem grp_parts : ∀ (p : Path), (∀ s ∈ p, s.2 ≠ [] ∧ (1 ≤ s.1 ∧ s.1 ≤ 4) ∧ s.2.length ≤ 255 ∧ ∀ x ∈ s.2, 0 ≤ x ∧ x ≤ 4294967295) →
    ∀ g ∈ grp p, g.2 ≠ [] ∧ (1 ≤ g.1 ∧ g.1 ≤ 4) ∧ (seqB g.1 = false → g.2.length ≤ 255) ∧ ∀ x ∈ g.2, 0 ≤ x ∧ x ≤ 4294967295
  | [], _, g, hg => by cases hg
  | s :: r, h, g, hg => by
    have hs := h s (by simp)
    have ih := grp_parts r (fun x hx => h x (List.mem_cons_of_mem _ hx))
    rw [grp] at hg
    split at hg
    · obtain rfl : g = s := by simpa using hg
      exact ⟨hs.1, hs.2.1, fun _ => hs.2.2.1, hs.2.2.2⟩
    · rename_i t q hq
      rw [hq] at ih
      split at hg
      · rename_i hj
        rcases List.mem_cons.1 hg with rfl | hg
        · have ht := ih t (by simp)
          refine ⟨by simp [hs.1], hs.2.1, fun e => ?_, fun x hx => ?_⟩
          · exact absurd hj.2 (by show ¬ seqB s.1 = true; rw [show seqB s.1 = false from e]; simp)
          · rcases List.mem_append.1 hx with hx | hx
            · exact hs.2.2.2 x hx
            · exact ht.2.2.2 x hx
        · exact ih g (List.mem_cons_of_mem _ hg)
      · rcases List.mem_cons.1 hg with rfl | hg
        · exact ⟨hs.1, hs.2.1, fun _ => hs.2.2.1, hs.2.2.2⟩
        · exact ih g hg
theorem valid_parts {p : Path} (h : pathErr p = 0) : ∀ s ∈ p, s.2 ≠ [] ∧ (1 ≤ s.1 ∧ s.1 ≤ 4) ∧ s.2.length ≤ 255 ∧ ∀ x ∈ s.2, 0 ≤ x ∧ x ≤ 4294967295 := fun s hs => by
  obtain ⟨h1, h2, h3, h4, _⟩ := valid_seg h hs
  refine ⟨h2, h1, h3, fun x hx => ?_⟩
  unfold rangeB at h4
  have := List.all_eq_true.1 h4 x hx
  simp at this
  omega
/-- words without spaces and line feeds -/
def clean (w : List UInt8) : Prop := w ≠ [] ∧ ∀ c ∈ w, c ≠ 32 ∧ c ≠ 10
theorem itoa_clean {n : Int} (h0 : 0 ≤ n) : ∀ c ∈ Lib.itoa n, c ≠ 32 ∧ c ≠ 10 := fun c hc => ⟨itoa_no n h0 32 (by decide) c hc, itoa_no n h0 10 (by decide) c hc⟩
theorem sepd_clean : ∀ (l : List Int), (∀ x ∈ l, 0 ≤ x) → ∀ c ∈ sepd 44 l, c ≠ 32 ∧ c ≠ 10
  | [], _, c, hc => by simp [sepd] at hc
  | [n], h, c, hc => itoa_clean (h n (by simp)) c hc
  | n :: m :: r, h, c, hc => by
    rw [sepd] at hc
    rcases List.mem_append.1 hc with hc | hc
    · exact itoa_clean (h n (by simp)) c hc
    · rcases List.mem_cons.1 hc with rfl | hc
      · decide
      · exact sepd_clean (m :: r) (fun x hx => h x (by simp [hx])) c hc
theorem cwF_clean : ∀ (l : List Int), (∀ x ∈ l, 0 ≤ x) → ∀ w ∈ cwF l, clean w
  | [], _, w, hw => by simp [cwF] at hw
  | [n], h, w, hw => by
    obtain rfl : w = Lib.itoa n ++ [41] := by simpa [cwF] using hw
    refine ⟨by simp, fun c hc => ?_⟩
    rcases List.mem_append.1 hc with hc | hc
    · exact itoa_clean (h n (by simp)) c hc
    · obtain rfl : c = 41 := by simpa using hc
      decide
  | n :: m :: r, h, w, hw => by
    rw [cwF] at hw
    rcases List.mem_cons.1 hw with rfl | hw
    · exact ⟨itoa_ne n, itoa_clean (h n (by simp))⟩
    · exact cwF_clean (m :: r) (fun x hx => h x (by simp [hx])) w hw
theorem addOpen_clean {l : List (List UInt8)} (h : ∀ w ∈ l, clean w) : ∀ w ∈ addOpen l, clean w := by
  cases l with
  | nil => intro w hw; cases hw
  | cons x r =>
    intro w hw
    rcases List.mem_cons.1 hw with rfl | hw
    · refine ⟨by simp, fun c hc => ?_⟩
      rcases List.mem_cons.1 hc with rfl | hc
      · decide
      · exact (h x (by simp)).2 c hc
    · exact h w (List.mem_cons_of_mem _ hw)
theorem gw_clean {g : Int × List Int} (hk : 1 ≤ g.1 ∧ g.1 ≤ 4) (h : ∀ x ∈ g.2, 0 ≤ x ∧ x ≤ 4294967295) : ∀ w ∈ gw g, clean w := by
  have h' : ∀ x ∈ g.2, 0 ≤ x := fun x hx => (h x hx).1
  unfold gw
  split
  · intro w hw
    obtain ⟨n, hn, rfl⟩ := List.mem_map.1 hw
    exact ⟨itoa_ne n, itoa_clean (h' n hn)⟩
  · split
    · exact addOpen_clean (cwF_clean g.2 h')
    · rename_i h2 h3
      intro w hw
      obtain rfl : w = wordR g.1 g.2 := by simpa using hw
      have key : ∀ (a b : UInt8), (a ≠ 32 ∧ a ≠ 10) → (b ≠ 32 ∧ b ≠ 10) → clean (a :: (sepd 44 g.2 ++ [b])) := by
        intro a b ha hb
        refine ⟨by simp, fun c hc => ?_⟩
        rcases List.mem_cons.1 hc with rfl | hc
        · exact ha
        · rcases List.mem_append.1 hc with hc | hc
          · exact sepd_clean g.2 h' c hc
          · obtain rfl : c = b := by simpa using hc
            exact hb
      unfold wordR
      rw [if_neg h2]
      split
      · exact key 123 125 (by decide) (by decide)
      · rw [if_pos (by omega)]
        exact key 91 93 (by decide) (by decide)
/-- a valid path is parsed from its text -/
theorem parse_back {p : Path} (h : pathErr p = 0) : parseR (strB (txt p)) = (p, 0) := by
  have hv := valid_parts h
  have hg := grp_parts p hv
  have hw : txt p = jl ((grp p).flatMap gw) := txt_words (grp p) (fun g hgm => ⟨(hg g hgm).1, (hg g hgm).2.1⟩)
  have hcl : ∀ w ∈ (grp p).flatMap gw, clean w := fun w hwm => by
    obtain ⟨g, hgm, hwg⟩ := List.mem_flatMap.1 hwm
    exact gw_clean (hg g hgm).2.1 (hg g hgm).2.2.2 w hwg
  have hdb : dB (((grp p).flatMap gw).map strB) = (grp p).flatMap gw := by
    unfold dB
    rw [List.map_map]
    conv => rhs; rw [← List.map_id ((grp p).flatMap gw)]
    refine List.map_congr_left fun w _ => ?_
    exact strB_list w
  have hws : wordsR (strB (txt p)) = (((grp p).flatMap gw).map strB, 0) := by
    refine joined_words (by rw [strB_list, hdb, hw]) ?_
    rw [List.all_eq_true]
    intro b hb
    obtain ⟨w, hwm, rfl⟩ := List.mem_map.1 hb
    obtain ⟨c1, c2⟩ := hcl w hwm
    unfold okW plainB
    rw [isEmpty_size, strB_size, strB_list]
    have : ¬ w.length = 0 := fun e => c1 (List.eq_nil_of_length_eq_zero e)
    simp only [this, decide_false, Bool.not_false, Bool.true_and, List.all_eq_true]
    intro c hc
    simp [c2 c hc]
  obtain ⟨P', R', h1, h2⟩ := fold_groups (grp p) [] [] (fun g hgm => hg g hgm) (okG_grp p) (fun h => absurd rfl h)
  rw [unG_grp p (chk_okA (pathErr_parts h).2) (fun s hs => ⟨(hv s hs).1, (hv s hs).2.2.1⟩), seqs_nil 2 (l := []) rfl] at h2
  simp only [List.nil_append] at h2
  unfold parseR
  rw [hws]
  rw [if_neg (fun g => g rfl), hdb, h1]
  simp only
  have ht : textR p = (txt p, 0) := if_pos h
  rw [if_neg (by simp), h2, strB_list, if_pos ht]
end Go.Proofs.YteohdanlcaoaiaaDoor
