/- Valid paths: what Prepend and Merge make. -/
import Derived.Test.YteohdanlcaoaiaaDoorMerge
namespace Go.Proofs.YteohdanlcaoaiaaDoor
open Go.RowKit

def okC : Bool → Path → Prop
  | _, [] => True
  | pl, s :: r => (confB s.1 && pl) = false ∧ okC (pl || !confB s.1) r
def okB : Option (Int × List Int) → Path → Prop
  | _, [] => True
  | pr, s :: r => adj pr s = false ∧ okB (some s) r
theorem chk_iff : ∀ {p : Path} {pr : Option (Int × List Int)} {pl : Bool}, chk pr pl p = 0 ↔ (∀ s ∈ p, segErr s = 0) ∧ okC pl p ∧ okB pr p
  | [], pr, pl => by simp [chk, okC, okB]
  | s :: r, pr, pl => by
    have ih := @chk_iff r (some s) (pl || !confB s.1)
    rw [chk]
    constructor
    · intro h
      by_cases h1 : segErr s = 0
      · rw [if_neg (fun g => g h1)] at h
        cases h2 : (confB s.1 && pl) with
        | true => rw [if_pos h2] at h; cases h
        | false =>
          rw [if_neg (by rw [h2]; simp)] at h
          cases h3 : adj pr s with
          | true => rw [if_pos h3] at h; cases h
          | false =>
            rw [if_neg (by rw [h3]; simp)] at h
            obtain ⟨g1, g2, g3⟩ := ih.1 h
            refine ⟨fun t ht => ?_, ⟨h2, g2⟩, h3, g3⟩
            rcases List.mem_cons.1 ht with rfl | ht
            · exact h1
            · exact g1 t ht
      · rw [if_pos h1] at h
        exact absurd h h1
    · rintro ⟨h1, ⟨h2, h4⟩, h3, h5⟩
      rw [if_neg (fun g => g (h1 s (by simp))), if_neg (by rw [h2]; simp), if_neg (by rw [h3]; simp)]
      exact ih.2 ⟨fun t ht => h1 t (List.mem_cons_of_mem _ ht), h4, h5⟩
theorem okB_head {pr pr' : Option (Int × List Int)} {D : Path} (h : okB pr D) (hh : ∀ t, D[0]? = some t → adj pr' t = false) : okB pr' D := by
  cases D with
  | nil => trivial
  | cons t r => exact ⟨hh t rfl, h.2⟩
theorem okC_true : ∀ {D : Path}, okC true D → ∀ s ∈ D, confB s.1 = false
  | [], _, s, hs => by cases hs
  | t :: r, h, s, hs => by
    have h1 : confB t.1 = false := by simpa using h.1
    rcases List.mem_cons.1 hs with rfl | hs
    · exact h1
    · exact okC_true (D := r) (by simpa using h.2) s hs
theorem okC_of : ∀ {D : Path} {pl : Bool}, (∀ s ∈ D, confB s.1 = false) → okC pl D
  | [], _, _ => trivial
  | t :: r, pl, h => ⟨by rw [h t (by simp)]; rfl, okC_of (fun s hs => h s (List.mem_cons_of_mem _ hs))⟩
theorem seqs_mem {k : Int} : ∀ (n : Nat) (l : List Int), l.length ≤ n → ∀ s ∈ seqs k l, s.1 = k ∧ s.2 ≠ [] ∧ s.2.length ≤ 255 ∧ ∀ x ∈ s.2, x ∈ l
  | 0, l, h, s, hs => by rw [seqs_nil k (by omega)] at hs; cases hs
  | n + 1, l, h, s, hs => by
    by_cases h0 : l.length = 0
    · rw [seqs_nil k h0] at hs; cases hs
    · rw [seqs_step h0] at hs
      rcases List.mem_cons.1 hs with rfl | hs
      · refine ⟨rfl, fun e => ?_, by simp; omega, fun x hx => List.mem_of_mem_take hx⟩
        have := congrArg List.length e
        simp only [List.length_take, List.length_nil] at this
        omega
      · obtain ⟨g1, g2, g3, g4⟩ := seqs_mem n (l.drop 255) (by rw [List.length_drop]; omega) s hs
        exact ⟨g1, g2, g3, fun x hx => List.mem_of_mem_drop (g4 x hx)⟩
theorem seq_segErr {k : Int} {xs : List Int} (hk : k = 2 ∨ k = 3) (h0 : xs ≠ []) (h1 : xs.length ≤ 255) (hr : rangeB xs = true) : segErr (k, xs) = 0 := by
  unfold segErr
  rw [if_neg (by rcases hk with rfl | rfl <;> simp), if_neg (fun e => h0 (List.eq_nil_of_length_eq_zero e)), if_neg (by show ¬ 255 < xs.length; omega), if_neg (by rw [hr]; simp), if_neg]
  rintro ⟨h, _⟩
  rcases hk with rfl | rfl
  · exact absurd (show setB 2 = true from h) (by decide)
  · exact absurd (show setB 3 = true from h) (by decide)
theorem range_mem {xs : List Int} : rangeB xs = true ↔ ∀ x ∈ xs, 1 ≤ x ∧ x ≤ 4294967295 := by
  unfold rangeB
  rw [List.all_eq_true]
  simp
theorem okB_seqs {k : Int} {D : Path} (hD : ∀ t, D[0]? = some t → t.1 ≠ k) (hB : okB none D) : ∀ (n : Nat) (l : List Int) (pr : Option (Int × List Int)), l.length ≤ n → (pr = none ∨ ∃ xs, pr = some (k, xs) ∧ (l ≠ [] → xs.length = 255)) → okB pr (seqs k l ++ D)
  | 0, l, pr, h, hp => by
    rw [seqs_nil k (by omega), List.nil_append]
    refine okB_head hB fun t ht => ?_
    rcases hp with rfl | ⟨xs, rfl, _⟩
    · rfl
    · unfold adj
      have := hD t ht
      simp
      intro _ e
      exact absurd e.symm this
  | n + 1, l, pr, h, hp => by
    by_cases h0 : l.length = 0
    · rw [seqs_nil k h0, List.nil_append]
      refine okB_head hB fun t ht => ?_
      rcases hp with rfl | ⟨xs, rfl, _⟩
      · rfl
      · unfold adj
        have := hD t ht
        simp
        intro _ e
        exact absurd e.symm this
    · rw [seqs_step h0, List.cons_append]
      refine ⟨?_, okB_seqs hD hB n (l.drop 255) _ (by rw [List.length_drop]; omega) (.inr ⟨_, rfl, fun hne => ?_⟩)⟩
      · rcases hp with rfl | ⟨xs, rfl, hx⟩
        · rfl
        · have := hx (fun e => h0 (by rw [e]; rfl))
          unfold adj
          simp [this]
      · have : 0 < (l.drop 255).length := List.length_pos_iff.2 hne
        rw [List.length_drop] at this
        rw [List.length_take]
        omega
theorem okC_seqs {k : Int} {D : Path} (hk : k = 2 ∨ k = 3) : ∀ (n : Nat) (l : List Int) (pl : Bool), l.length ≤ n → (pl = true → k = 2) → okC (pl || decide (l ≠ [] ∧ k = 2)) D → okC pl (seqs k l ++ D)
  | 0, l, pl, h, _, hD => by
    rw [seqs_nil k (by omega), List.nil_append]
    have : l = [] := List.eq_nil_of_length_eq_zero (by omega)
    subst this
    simpa using hD
  | n + 1, l, pl, h, hp, hD => by
    by_cases h0 : l.length = 0
    · rw [seqs_nil k h0, List.nil_append]
      have : l = [] := List.eq_nil_of_length_eq_zero h0
      subst this
      simpa using hD
    · have hne : l ≠ [] := fun e => h0 (by rw [e]; rfl)
      rw [seqs_step h0, List.cons_append]
      rcases hk with rfl | rfl
      · have hc : confB 2 = false := by decide
        refine ⟨by show (confB 2 && pl) = false; rw [hc]; rfl, okC_seqs (.inl rfl) n (l.drop 255) _ (by rw [List.length_drop]; omega) (fun _ => rfl) ?_⟩
        have e1 : (pl || !confB (2, l.take 255).1) = true := by show (pl || !confB 2) = true; rw [hc]; simp
        rw [e1]
        have e2 : (pl || decide (l ≠ [] ∧ (2 : Int) = 2)) = true := by simp [hne]
        rw [e2] at hD
        simpa using hD
      · have hpl : pl = false := by
          cases pl with
          | false => rfl
          | true => exact absurd (hp rfl) (by decide)
        subst hpl
        have hc : confB 3 = true := by decide
        have e1 : (false || !confB (3, l.take 255).1) = false := by show (false || !confB 3) = false; rw [hc]; rfl
        refine ⟨by simp, ?_⟩
        rw [e1]
        refine okC_seqs (.inr rfl) n (l.drop 255) _ (by rw [List.length_drop]; omega) (fun h => by cases h) ?_
        simpa using hD
/-- sequences ahead of segments of other kinds -/
theorem valid_seqs {k : Int} {l : List Int} {D : Path} (hk : k = 2 ∨ k = 3) (hr : rangeB l = true) (hD : ∀ t, D[0]? = some t → t.1 ≠ k) (hs : ∀ s ∈ D, segErr s = 0) (hB : okB none D) (hC : okC (decide (l ≠ [] ∧ k = 2)) D) (h64 : ¬ 64 < (seqs k l ++ D).length) : pathErr (seqs k l ++ D) = 0 := by
  unfold pathErr
  rw [if_neg h64, chk_iff]
  refine ⟨fun s hss => ?_, okC_seqs hk _ l false (Nat.le_refl _) (fun h => by cases h) (by simpa using hC), okB_seqs hD hB _ l none (Nat.le_refl _) (.inl rfl)⟩
  rcases List.mem_append.1 hss with h | h
  · obtain ⟨g1, g2, g3, g4⟩ := seqs_mem _ l (Nat.le_refl _) s h
    obtain ⟨k', xs⟩ := s
    dsimp only at g1 g2 g3 g4
    subst g1
    refine seq_segErr hk g2 g3 ?_
    rw [range_mem] at hr ⊢
    exact fun x hx => hr x (g4 x hx)
  · exact hs s h
theorem okC_drop : ∀ {p : Path} {pl : Bool} (r : Nat), okC pl p → ∃ pl', okC pl' (p.drop r) ∧ pl' = (pl || (p.take r).any fun t => !confB t.1)
  | p, pl, 0, h => ⟨pl, by simpa using h, by simp⟩
  | [], pl, r + 1, h => ⟨pl, by simp [okC], by simp⟩
  | s :: q, pl, r + 1, h => by
    obtain ⟨pl', h1, h2⟩ := okC_drop (p := q) r h.2
    refine ⟨pl', h1, ?_⟩
    rw [h2, List.take_succ_cons, List.any_cons, Bool.or_assoc]
theorem okB_drop : ∀ {p : Path} {pr : Option (Int × List Int)} (r : Nat), okB pr p → ∃ pr', okB pr' (p.drop r)
  | p, pr, 0, h => ⟨pr, by simpa using h⟩
  | [], pr, r + 1, h => ⟨pr, by simp [okB]⟩
  | s :: q, pr, r + 1, h => okB_drop (p := q) r h.2
theorem run_kind : ∀ {p : Path} {k : Int}, ∀ s ∈ p.take (runL k p), s.1 = k
  | [], k, s, h => by simp at h
  | x :: r, k, s, h => by
    rw [runL_cons] at h
    by_cases hx : x.1 = k
    · rw [if_pos hx, List.take_succ_cons] at h
      rcases List.mem_cons.1 h with rfl | h
      · exact hx
      · exact run_kind s h
    · rw [if_neg hx] at h
      simp at h
theorem run_next : ∀ {p : Path} {k : Int} {t : Int × List Int}, (p.drop (runL k p))[0]? = some t → t.1 ≠ k
  | [], k, t, h => by simp at h
  | x :: r, k, t, h => by
    rw [runL_cons] at h
    by_cases hx : x.1 = k
    · rw [if_pos hx, List.drop_succ_cons] at h
      exact run_next h
    · rw [if_neg hx] at h
      simp only [List.drop_zero, List.getElem?_cons_zero, Option.some.injEq] at h
      rw [← h]
      exact hx
theorem length_app (a b : Path) : lengthR (a ++ b) = lengthR a + lengthR b := by unfold lengthR; rw [List.map_append, List.sum_append]
theorem length_kind2 : ∀ {p : Path}, (∀ s ∈ p, s.1 = 2) → lengthR p = (flat p).length
  | [], _ => rfl
  | s :: r, h => by
    have h1 := h s (by simp)
    have h2 := length_kind2 (p := r) (fun t ht => h t (List.mem_cons_of_mem _ ht))
    unfold lengthR flat at h2 ⊢
    rw [List.map_cons, List.sum_cons, h2, List.flatMap_cons, List.length_append]
    unfold lenS
    rw [if_pos h1]
theorem length_kind3 : ∀ {p : Path}, (∀ s ∈ p, s.1 = 3) → lengthR p = 0
  | [], _ => rfl
  | s :: r, h => by
    have h1 := h s (by simp)
    have h2 := length_kind3 (p := r) (fun t ht => h t (List.mem_cons_of_mem _ ht))
    unfold lengthR at h2 ⊢
    rw [List.map_cons, List.sum_cons, h2]
    unfold lenS
    rw [if_neg (by omega), if_neg (by omega)]
theorem length_split (p : Path) (r : Nat) : lengthR p = lengthR (p.take r) + lengthR (p.drop r) := by
  conv => lhs; rw [← List.take_append_drop r p]
  exact length_app _ _
theorem flat_split (p : Path) (r : Nat) : flat p = flat (p.take r) ++ flat (p.drop r) := by
  conv => lhs; rw [← List.take_append_drop r p]
  exact flat_app _ _
/-- what Prepend makes -/
theorem prepend_law {p x : Path} {kind a : Int} {n : Nat} (h : prependR p kind a n = (x, 0)) :
    flat x = List.replicate n a ++ flat p ∧ pathErr x = 0 ∧ (kind = 2 → lengthR x = lengthR p + n) ∧ (kind = 3 → lengthR x = lengthR p) ∧ n ≤ 255 := by
  unfold prependR at h
  split at h
  · rename_i h1
    exact absurd (congrArg Prod.snd h) h1
  rename_i hp
  have hp0 : pathErr p = 0 := by simpa using hp
  split at h
  · exact absurd (congrArg Prod.snd h) (by simp)
  rename_i hk
  have hk' : kind = 2 ∨ kind = 3 := by
    by_cases h2 : kind = 2
    · exact .inl h2
    · exact .inr (by simpa [h2] using hk)
  split at h
  · exact absurd (congrArg Prod.snd h) (by simp)
  rename_i hr
  split at h
  · exact absurd (congrArg Prod.snd h) (by simp)
  rename_i hb
  split at h
  · exact absurd (congrArg Prod.snd h) (by simp)
  rename_i h64
  have hx := congrArg Prod.fst h
  dsimp only at hx
  rw [Int.toNat_natCast] at hx h64
  obtain ⟨l, hl⟩ : ∃ l, List.replicate n a ++ flat (p.take (runL kind p)) = l := ⟨_, rfl⟩
  rw [hl] at hx h64
  have hchk := chk_iff.1 (pathErr_parts hp0).2
  obtain ⟨c1, c2, c3⟩ := hchk
  have hflat : flat x = List.replicate n a ++ flat p := by
    rw [← hx, flat_app, seqs_flat kind _ l (Nat.le_refl _), ← hl, List.append_assoc, ← flat_split]
  refine ⟨hflat, ?_, fun h2 => ?_, fun h3 => ?_, by omega⟩
  · rw [← hx]
    refine valid_seqs hk' ?_ (fun t ht => run_next ht) (fun s hs => c1 s (List.mem_of_mem_drop hs)) ?_ ?_ (by rw [hx] at h64 ⊢; exact h64)
    · rw [range_mem, ← hl]
      intro z hz
      rcases List.mem_append.1 hz with hz | hz
      · have := (List.mem_replicate.1 hz).2
        omega
      · have h1 := valid_range hp0
        rw [range_mem] at h1
        refine h1 z ?_
        rw [flat_split p (runL kind p)]
        exact List.mem_append_left _ hz
    · obtain ⟨pr', hd⟩ := okB_drop (runL kind p) c3
      exact okB_head hd fun _ _ => rfl
    · obtain ⟨pl', hd, he⟩ := okC_drop (runL kind p) c2
      by_cases hlk : l ≠ [] ∧ kind = 2
      · rw [decide_eq_true hlk]
        obtain ⟨hne, rfl⟩ := hlk
        cases hr0 : runL 2 p with
        | zero =>
          have hn0 : 0 < n := by
            rcases Nat.eq_zero_or_pos n with h0 | h0
            · subst h0
              rw [hr0] at hl
              exact absurd hl.symm (by simpa [flat] using hne)
            · exact h0
          rw [List.drop_zero]
          cases p with
          | nil => trivial
          | cons s q =>
            have hc : confB s.1 = false := by
              cases hcs : confB s.1 with
              | false => rfl
              | true => exact absurd (by simp [headB, hcs]; omega) hb
            have c2' := c2.2
            rw [hc] at c2'
            exact ⟨by rw [hc]; rfl, by simpa using c2'⟩
        | succ r =>
          rw [hr0] at he hd
          have : pl' = true := by
            rw [he]
            have hlen : 0 < p.length := by have := runL_le 2 p; omega
            cases p with
            | nil => simp at hlen
            | cons s q =>
              have hs2 : s.1 = 2 := run_kind s (by rw [hr0]; simp)
              rw [List.take_succ_cons, List.any_cons, hs2]
              rfl
          rw [this] at hd
          exact hd
      · rw [decide_eq_false hlk]
        by_cases h2 : kind = 2
        · have hle : l = [] := by
            cases l with
            | nil => rfl
            | cons a t => exact absurd ⟨by simp, h2⟩ hlk
          have hr0 : runL kind p = 0 := by
            rcases Nat.eq_zero_or_pos (runL kind p) with h0 | h0
            · exact h0
            · rw [hle] at hl
              have hfl := (List.append_eq_nil_iff.1 hl).2
              have hlp := runL_le kind p
              cases p with
              | nil => simp [runL] at h0
              | cons s q =>
                obtain ⟨r, hr1⟩ : ∃ r, runL kind (s :: q) = r + 1 := ⟨runL kind (s :: q) - 1, by omega⟩
                rw [hr1, List.take_succ_cons] at hfl
                unfold flat at hfl
                rw [List.flatMap_cons] at hfl
                exact absurd (List.append_eq_nil_iff.1 hfl).1 (segErr_parts (c1 s (by simp))).2.1
          rw [hr0, List.drop_zero]
          exact c2
        · have h3 : kind = 3 := by omega
          have : pl' = false := by
            rw [he, Bool.false_or, List.any_eq_false]
            intro t ht
            rw [run_kind t ht, h3]
            decide
          rw [this] at hd
          exact hd
  · subst h2
    have h1 : lengthR (seqs 2 l) = l.length := by
      rw [length_kind2 (fun s hs => (seqs_mem _ l (Nat.le_refl _) s hs).1), seqs_flat 2 _ l (Nat.le_refl _)]
    have h2 := length_split p (runL 2 p)
    have h3 := length_kind2 (p := p.take (runL 2 p)) run_kind
    rw [← hx, length_app, h1, ← hl, List.length_append, List.length_replicate]
    omega
  · subst h3
    have h1 : lengthR (seqs 3 l) = 0 := length_kind3 (fun s hs => (seqs_mem _ l (Nat.le_refl _) s hs).1)
    have h2 := length_split p (runL 3 p)
    have h3 := length_kind3 (p := p.take (runL 3 p)) run_kind
    rw [← hx, length_app, h1]
    omega
theorem asc_iff {l : List Int} : ascB l = true ↔ Asc l := by
  induction l with
  | nil => simp [ascB, Asc]
  | cons x r ih =>
    cases r with
    | nil => simp [ascB, Asc]
    | cons y t =>
      rw [ascB, Bool.and_eq_true, decide_eq_true_iff, ih]
      constructor
      · rintro ⟨h1, h2⟩
        refine List.pairwise_cons.2 ⟨fun z hz => ?_, h2⟩
        have h3 := List.pairwise_cons.1 h2
        rcases List.mem_cons.1 hz with rfl | hz
        · exact h1
        · have := h3.1 z hz
          omega
      · intro h
        have h3 := List.pairwise_cons.1 h
        exact ⟨h3.1 y (by simp), h3.2⟩
theorem asc_ext : ∀ {a b : List Int}, Asc a → Asc b → (∀ z, z ∈ a ↔ z ∈ b) → a = b
  | [], [], _, _, _ => rfl
  | [], y :: b, _, _, h => absurd ((h y).2 (by simp)) (by simp)
  | x :: a, [], _, _, h => absurd ((h x).1 (by simp)) (by simp)
  | x :: a, y :: b, ha, hb, h => by
    obtain ⟨a1, a2⟩ := List.pairwise_cons.1 ha
    obtain ⟨b1, b2⟩ := List.pairwise_cons.1 hb
    have hxy : x = y := by
      rcases List.mem_cons.1 ((h x).1 (by simp)) with h1 | h1
      · exact h1
      · rcases List.mem_cons.1 ((h y).2 (by simp)) with h2 | h2
        · exact h2.symm
        · have := b1 x h1
          have := a1 y h2
          omega
    subst hxy
    rw [asc_ext a2 b2 fun z => ?_]
    constructor
    · intro hz
      rcases List.mem_cons.1 ((h z).1 (List.mem_cons_of_mem _ hz)) with rfl | h1
      · have := a1 z hz
        omega
      · exact h1
    · intro hz
      rcases List.mem_cons.1 ((h z).2 (List.mem_cons_of_mem _ hz)) with rfl | h1
      · have := b1 z hz
        omega
      · exact h1
theorem lcp_take : ∀ (x y : List Int), x.take (lcp x y) = y.take (lcp x y)
  | [], [] => rfl
  | [], b :: y => by simp [lcp]
  | a :: x, [] => by simp [lcp]
  | a :: x, b :: y => by
    rw [lcp]
    by_cases h : a = b
    · rw [if_pos h, List.take_succ_cons, List.take_succ_cons, h, lcp_take x y]
    · rw [if_neg h]
      rfl
theorem take_flat {a : Path} {k : Nat} (h : k ≤ (leadR a).length) : (flat a).take k = (leadR a).take k := by
  obtain ⟨r, hr⟩ := lead_flat a
  rw [hr, List.take_append_of_le_length h]
theorem others_mem (a b : Path) (z : Int) : z ∈ othersR a b ↔ z ∈ (flat a).drop (lcp (leadR a) (leadR b)) ∨ z ∈ (flat b).drop (lcp (leadR a) (leadR b)) := by
  unfold othersR
  rw [insAll_mem, insAll_mem]
  simp
  exact Or.comm
theorem others_asc (a b : Path) : Asc (othersR a b) := insAll_asc _ _ (insAll_asc _ _ (by simp [Asc]))
theorem others_symm (a b : Path) : othersR a b = othersR b a := by
  refine asc_ext (others_asc a b) (others_asc b a) fun z => ?_
  rw [others_mem, others_mem, lcp_symm (leadR b) (leadR a)]
  exact Or.comm
theorem merge_symm {p q : Path} (hp : pathErr p = 0) (hq : pathErr q = 0) : mergeR p q = mergeR q p := by
  unfold mergeR
  simp only [hp, hq, ne_eq, not_true_eq_false, if_false]
  rw [others_symm (stripR q) (stripR p), lcp_symm (leadR (stripR q)) (leadR (stripR p)), lcp_take]
theorem strip_mem {p : Path} {s : Int × List Int} (h : s ∈ stripR p) : s ∈ p ∧ confB s.1 = false := by
  unfold stripR at h
  have := List.mem_filter.1 h
  exact ⟨this.1, by simpa using this.2⟩
theorem flat_strip_range {p : Path} (hp : pathErr p = 0) : ∀ x ∈ flat (stripR p), 1 ≤ x ∧ x ≤ 4294967295 := by
  intro x hx
  unfold flat at hx
  obtain ⟨s, hs, hx⟩ := List.mem_flatMap.1 hx
  have h1 := (valid_seg hp (strip_mem hs).1).2.2.2.1
  exact range_mem.1 h1 x hx
/-- what Merge makes -/
theorem merge_law {p q x : Path} (h : mergeR p q = (x, 0)) :
    pathErr p = 0 ∧ pathErr q = 0 ∧ mergeR q p = (x, 0) ∧ pathErr x = 0 ∧ ∀ z, z ∈ flat x ↔ z ∈ flat (stripR p) ∨ z ∈ flat (stripR q) := by
  have h0 := h
  unfold mergeR at h
  split at h
  · rename_i h1
    exact absurd (congrArg Prod.snd h) h1
  rename_i hp
  have hp0 : pathErr p = 0 := by simpa using hp
  split at h
  · rename_i h1
    exact absurd (congrArg Prod.snd h) h1
  rename_i hq
  have hq0 : pathErr q = 0 := by simpa using hq
  split at h
  · exact absurd (congrArg Prod.snd h) (by simp)
  rename_i h64
  have hx := congrArg Prod.fst h
  dsimp only at hx
  obtain ⟨a, ha⟩ : ∃ a, stripR p = a := ⟨_, rfl⟩
  obtain ⟨b, hb⟩ : ∃ b, stripR q = b := ⟨_, rfl⟩
  have hra := flat_strip_range hp0
  have hrb := flat_strip_range hq0
  rw [ha, hb] at hx h64
  rw [ha] at hra
  rw [hb] at hrb
  obtain ⟨k, hk⟩ : ∃ k, lcp (leadR a) (leadR b) = k := ⟨_, rfl⟩
  have hle := lcp_le (leadR a) (leadR b)
  have hlt := lcp_take (leadR a) (leadR b)
  have hom := others_mem a b
  have hoa := others_asc a b
  rw [hk] at hx h64 hle hlt hom
  obtain ⟨o, ho⟩ : ∃ o, othersR a b = o := ⟨_, rfl⟩
  rw [ho] at hx h64 hom hoa
  have hta := take_flat hle.1
  have htb := take_flat hle.2
  have hfx : flat x = (leadR a).take k ++ o := by
    rw [← hx]
    unfold mergeOut
    split
    · rename_i he
      rw [seqs_flat 2 _ _ (Nat.le_refl _), he, List.append_nil]
    · rw [flat_app, seqs_flat 2 _ _ (Nat.le_refl _)]
      simp [flat]
  have hmem : ∀ z, z ∈ flat x ↔ z ∈ flat a ∨ z ∈ flat b := by
    intro z
    rw [hfx, List.mem_append, hom]
    have ea : z ∈ flat a ↔ z ∈ (leadR a).take k ∨ z ∈ (flat a).drop k := by
      conv => lhs; rw [← List.take_append_drop k (flat a)]
      rw [List.mem_append, hta]
    have eb : z ∈ flat b ↔ z ∈ (leadR a).take k ∨ z ∈ (flat b).drop k := by
      conv => lhs; rw [← List.take_append_drop k (flat b)]
      rw [List.mem_append, htb, ← hlt]
    rw [ea, eb]
    constructor
    · rintro (h | h | h)
      · exact .inl (.inl h)
      · exact .inl (.inr h)
      · exact .inr (.inr h)
    · rintro ((h | h) | h | h)
      · exact .inl h
      · exact .inr (.inl h)
      · exact .inl h
      · exact .inr (.inr h)
  have hrng : ∀ z ∈ flat x, 1 ≤ z ∧ z ≤ 4294967295 := fun z hz => by
    rcases (hmem z).1 hz with h | h
    · exact hra z h
    · exact hrb z h
  refine ⟨hp0, hq0, by rw [← merge_symm hp0 hq0]; exact h0, ?_, by rw [ha, hb]; exact hmem⟩
  have hr1 : rangeB ((leadR a).take k) = true := range_mem.2 fun z hz => hrng z (by rw [hfx]; exact List.mem_append_left _ hz)
  have hr2 : rangeB o = true := range_mem.2 fun z hz => hrng z (by rw [hfx]; exact List.mem_append_right _ hz)
  rw [← hx]
  unfold mergeOut at h64 ⊢
  by_cases he : o = []
  · rw [if_pos he] at h64 ⊢
    have := valid_seqs (k := 2) (l := (leadR a).take k) (D := []) (.inl rfl) hr1 (fun t ht => by simp at ht) (fun s hs => by cases hs) trivial trivial (by rw [List.append_nil]; omega)
    rwa [List.append_nil] at this
  · rw [if_neg he] at h64 ⊢
    refine valid_seqs (.inl rfl) hr1 (fun t ht => ?_) (fun s hs => ?_) ⟨rfl, trivial⟩ ⟨by show (confB 1 && _) = false; rfl, trivial⟩ (by omega)
    · simp only [List.getElem?_cons_zero, Option.some.injEq] at ht
      rw [← ht]
      show (1 : Int) ≠ 2
      decide
    · obtain rfl : s = (1, o) := by simpa using hs
      unfold segErr
      rw [if_neg (by simp), if_neg (fun e => he (List.eq_nil_of_length_eq_zero e)), if_neg (by show ¬ 255 < o.length; omega), if_neg (by rw [show rangeB ((1 : Int), o).2 = true from hr2]; simp), if_neg]
      rintro ⟨_, h⟩
      rw [show ascB ((1 : Int), o).2 = true from asc_iff.2 hoa] at h
      cases h
theorem flat_small : ∀ {p : Path}, (∀ s ∈ p, s.2.length ≤ 255) → (flat p).length ≤ 255 * p.length
  | [], _ => by simp [flat]
  | s :: r, h => by
    have h1 := h s (by simp)
    have h2 := flat_small (p := r) (fun t ht => h t (List.mem_cons_of_mem _ ht))
    unfold flat at h2 ⊢
    rw [List.flatMap_cons, List.length_append, List.length_cons]
    omega
theorem valid_sm {p : Path} (h : pathErr p = 0) : p.length ≤ 64 ∧ (flat p).length ≤ 16320 := by
  have h1 := (pathErr_parts h).1
  have h2 := flat_small (p := p) (fun s hs => (valid_seg h hs).2.2.1)
  omega
end Go.Proofs.YteohdanlcaoaiaaDoor
