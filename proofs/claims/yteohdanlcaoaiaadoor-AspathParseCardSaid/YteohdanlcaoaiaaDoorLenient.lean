/- The reference's lenient reading of a path's text, and that it reads a valid path's text back. -/
import Derived.Test.YteohdanlcaoaiaaDoorParseLaw
namespace Go.Proofs.YteohdanlcaoaiaaDoor
open Go.RowKit

def isD (c : UInt8) : Prop := 48 ≤ c.toNat ∧ c.toNat ≤ 57
instance (c : UInt8) : Decidable (isD c) := by unfold isD; exact inferInstance
/-- digits -/
def digF : Int → List UInt8 → Int × List UInt8
  | n, [] => (n, [])
  | n, c :: r => if isD c ∧ n ≤ 4294967295 then digF (10 * n + ((c.toNat : Int) - 48)) r else (n, c :: r)
theorem digF_len : ∀ (l : List UInt8) (n : Int), (digF n l).2.length ≤ l.length
  | [], n => Nat.le_refl _
  | c :: r, n => by
    rw [digF]
    split
    · have := digF_len r (10 * n + ((c.toNat : Int) - 48))
      simp only [List.length_cons]
      omega
    · exact Nat.le_refl _
/-- numbers with a separator -/
def numsF (sep : UInt8) : Nat → List UInt8 → List Int × List UInt8
  | 0, l => ([], l)
  | f + 1, l =>
    if (digF 0 l).2.length = l.length then ([], l)
    else match (digF 0 l).2 with
      | c :: d :: t => if c = sep ∧ isD d then ((digF 0 l).1 :: (numsF sep f (d :: t)).1, (numsF sep f (d :: t)).2) else ([(digF 0 l).1], (digF 0 l).2)
      | r => ([(digF 0 l).1], r)
theorem numsF_len (sep : UInt8) : ∀ (f : Nat) (l : List UInt8), (numsF sep f l).2.length ≤ l.length
  | 0, l => Nat.le_refl _
  | f + 1, l => by
    have h1 := digF_len l 0
    rw [numsF]
    split
    · exact Nat.le_refl _
    · split
      · rename_i c d t he
        rw [he] at h1
        split
        · have h2 := numsF_len sep f (d :: t)
          simp only [List.length_cons] at h1 h2
          dsimp only
          omega
        · rw [he]
          exact h1
      · exact h1
def skipF (c : UInt8) : List UInt8 → List UInt8
  | [] => []
  | d :: r => if d = c then r else d :: r
/-- one segment (or a run of segments) -/
def segF : List UInt8 → Path × List UInt8
  | [] => ([], [])
  | c :: r =>
    if c = 123 then ([(1, (numsF 44 (r.length + 1) r).1)], skipF 125 (numsF 44 (r.length + 1) r).2)
    else if c = 91 then ([(4, (numsF 44 (r.length + 1) r).1)], skipF 93 (numsF 44 (r.length + 1) r).2)
    else if c = 40 then (seqs 3 (numsF 32 (r.length + 1) r).1, skipF 41 (numsF 32 (r.length + 1) r).2)
    else (seqs 2 (numsF 32 ((c :: r).length + 1) (c :: r)).1, (numsF 32 ((c :: r).length + 1) (c :: r)).2)
def lenF : Nat → List UInt8 → Path → Option Path
  | 0, _, _ => none
  | _ + 1, [], p => some p
  | f + 1, c :: r, p => if (skipF 32 (segF (c :: r)).2).length = (c :: r).length then none else lenF f (skipF 32 (segF (c :: r)).2) (p ++ (segF (c :: r)).1)
/-- fuel enough is fuel enough -/
theorem numsF_fuel (sep : UInt8) : ∀ (f g : Nat) (l : List UInt8), l.length < f → l.length < g → numsF sep f l = numsF sep g l
  | 0, _, _, h, _ => absurd h (by omega)
  | _, 0, _, _, h => absurd h (by omega)
  | f + 1, g + 1, l, h, k => by
    have h1 := digF_len l 0
    rw [numsF, numsF]
    split
    · rfl
    · split
      · rename_i c d t he
        rw [he] at h1
        simp only [List.length_cons] at h1
        rw [numsF_fuel sep f g (d :: t) (by simp only [List.length_cons]; omega) (by simp only [List.length_cons]; omega)]
      · rfl
theorem digF_stop {n : Int} {l : List UInt8} (h : ∀ c r, l = c :: r → ¬ isD c) : digF n l = (n, l) := by
  cases l with
  | nil => rfl
  | cons c r => rw [digF, if_neg (fun g => h c r rfl g.1)]
theorem digF_dec : ∀ (u : Nat) (rest : List UInt8), u ≤ 4294967295 → digF 0 (Lib.decDigits u ++ rest) = digF u rest := by
  intro u
  induction u using Nat.strongRecOn with
  | ind u ih =>
    intro rest hu
    by_cases h10 : u < 10
    · rw [Lib.decDigits_one h10]
      rw [List.singleton_append, digF, if_pos]
      · congr 1
        have : (UInt8.ofNat (48 + u)).toNat = 48 + u := by simp; omega
        rw [this]
        omega
      · have : (UInt8.ofNat (48 + u)).toNat = 48 + u := by simp; omega
        refine ⟨⟨by rw [this]; omega, by rw [this]; omega⟩, by omega⟩
    · rw [Lib.decDigits, dif_neg h10, List.append_assoc, ih (u / 10) (by omega) _ (by omega), List.singleton_append, digF, if_pos]
      · congr 1
        have : (UInt8.ofNat (48 + u % 10)).toNat = 48 + u % 10 := by simp; omega
        rw [this]
        omega
      · have : (UInt8.ofNat (48 + u % 10)).toNat = 48 + u % 10 := by simp; omega
        refine ⟨⟨by rw [this]; omega, by rw [this]; omega⟩, by omega⟩
theorem digF_itoa {n : Int} (h0 : 0 ≤ n) (h1 : n ≤ 4294967295) {rest : List UInt8} (h : ∀ c r, rest = c :: r → ¬ isD c) : digF 0 (Lib.itoa n ++ rest) = (n, rest) := by
  obtain ⟨u, rfl, hu⟩ := itoa_nat h0
  rw [hu, digF_dec u rest (by omega), digF_stop h]
theorem itoa_isD {n : Int} (h0 : 0 ≤ n) : ∃ d t, Lib.itoa n = d :: t ∧ isD d := by
  have h := itoa_digit h0
  cases hl : Lib.itoa n with
  | nil => exact absurd hl (itoa_ne n)
  | cons d t =>
    rw [hl] at h
    exact ⟨d, t, rfl, h d (by simp)⟩
theorem sepd_isD {c : UInt8} {l : List Int} (hl : l ≠ []) (h : ∀ x ∈ l, 0 ≤ x) : ∃ d t, sepd c l = d :: t ∧ isD d := by
  match l, hl with
  | [n], _ => exact itoa_isD (h n (by simp))
  | n :: m :: r, _ =>
    obtain ⟨d, t, e, hd⟩ := itoa_isD (h n (by simp))
    exact ⟨d, t ++ c :: sepd c (m :: r), by rw [sepd, e]; rfl, hd⟩
/-- numbers are read back -/
theorem numsF_sepd (sep : UInt8) (hs : ¬ isD sep) : ∀ (l : List Int) (f : Nat) (rest : List UInt8), l ≠ [] → (∀ x ∈ l, 0 ≤ x ∧ x ≤ 4294967295) → (sepd sep l ++ rest).length < f → (∀ c r, rest = c :: r → ¬ isD c) → (∀ c d t, rest = c :: d :: t → ¬ (c = sep ∧ isD d)) →
    numsF sep f (sepd sep l ++ rest) = (l, rest)
  | [], _, _, h, _, _, _, _ => absurd rfl h
  | _, 0, _, _, _, h, _, _ => absurd h (by omega)
  | [n], f + 1, rest, _, hx, hf, hr, hr2 => by
    obtain ⟨h0, h1⟩ := hx n (by simp)
    have hd := digF_itoa h0 h1 hr
    have hne := itoa_pos (n := n)
    rw [sepd, numsF, hd]
    dsimp only
    rw [if_neg (by rw [List.length_append]; omega)]
    cases rest with
    | nil => rfl
    | cons c r =>
      cases r with
      | nil => rfl
      | cons d t =>
        simp only
        rw [if_neg (hr2 c d t rfl)]
  | n :: m :: q, f + 1, rest, _, hx, hf, hr, hr2 => by
    obtain ⟨h0, h1⟩ := hx n (by simp)
    have e : sepd sep (n :: m :: q) ++ rest = Lib.itoa n ++ (sep :: (sepd sep (m :: q) ++ rest)) := by rw [sepd]; simp
    have hd := digF_itoa (rest := sep :: (sepd sep (m :: q) ++ rest)) h0 h1 (fun c r h => by injection h with h _; rw [← h]; exact hs)
    have hne := itoa_pos (n := n)
    obtain ⟨d, t, hdt, hdd⟩ := sepd_isD (c := sep) (l := m :: q) (by simp) (fun x hx' => (hx x (List.mem_cons_of_mem _ hx')).1)
    rw [e] at hf ⊢
    have ih := numsF_sepd sep hs (m :: q) f rest (by simp) (fun x hx' => hx x (List.mem_cons_of_mem _ hx')) (by rw [List.length_append, List.length_cons] at hf; omega) hr hr2
    rw [numsF, hd]
    dsimp only
    rw [if_neg (by rw [List.length_append]; omega)]
    rw [hdt, List.cons_append] at ih ⊢
    simp only
    rw [if_pos (by simpa using hdd), ih]
theorem skipF_hit (c : UInt8) (r : List UInt8) : skipF c (c :: r) = r := by rw [skipF, if_pos rfl]
theorem nd_other {c : UInt8} (h : c.toNat < 48 ∨ 57 < c.toNat) : ¬ isD c := fun g => by unfold isD at g; omega
/-- a word is read back -/
theorem segF_word {k : Int} {l : List Int} {rest : List UInt8} (hk : 1 ≤ k ∧ k ≤ 4) (hl : l ≠ []) (hx : ∀ x ∈ l, 0 ≤ x ∧ x ≤ 4294967295) (hr : rest = [] ∨ ∃ r, rest = 32 :: r ∧ (k = 2 → ∀ d t, r = d :: t → ¬ isD d)) :
    segF (wordR k l ++ rest) = (unG (k, l), rest) ∧ wordR k l ≠ [] := by
  have h32 : ¬ isD 32 := nd_other (by decide)
  have h44 : ¬ isD 44 := nd_other (by decide)
  have close : ∀ (sep e : UInt8), ¬ isD sep → ¬ isD e → e ≠ sep → numsF sep ((sepd sep l ++ (e :: rest)).length + 1) (sepd sep l ++ (e :: rest)) = (l, e :: rest) := fun sep e h1 h2 h3 =>
    numsF_sepd sep h1 l _ (e :: rest) hl hx (by omega) (fun c r h => by injection h with h _; rw [← h]; exact h2) (fun c d t h => by injection h with h _; rw [← h]; exact fun g => h3 g.1)
  by_cases k2 : k = 2
  · subst k2
    have e : wordR 2 l = sepd 32 l := if_pos rfl
    obtain ⟨d, t, hd, hdd⟩ := sepd_isD (c := 32) hl (fun x h => (hx x h).1)
    have hn := numsF_sepd 32 h32 l ((sepd 32 l ++ rest).length + 1) rest hl hx (by omega) (fun c r h => by
      rcases hr with rfl | ⟨q, rfl, _⟩
      · cases h
      · injection h with h _
        rw [← h]
        exact h32) (fun c d t h => by
      rcases hr with rfl | ⟨q, rfl, hq⟩
      · cases h
      · injection h with _ h
        exact fun g => hq rfl d t h g.2)
    rw [e]
    refine ⟨?_, sepd_ne hl⟩
    rw [hd, List.cons_append] at hn ⊢
    have d1 : d ≠ 123 := fun h => by rw [h] at hdd; exact absurd hdd (nd_other (by decide))
    have d2 : d ≠ 91 := fun h => by rw [h] at hdd; exact absurd hdd (nd_other (by decide))
    have d3 : d ≠ 40 := fun h => by rw [h] at hdd; exact absurd hdd (nd_other (by decide))
    rw [segF, if_neg d1, if_neg d2, if_neg d3, hn]
    unfold unG
    rw [if_pos (show seqB 2 = true by decide)]
  · by_cases k1 : k = 1
    · subst k1
      have e : wordR 1 l ++ rest = 123 :: (sepd 44 l ++ (125 :: rest)) := by unfold wordR; simp
      refine ⟨?_, by unfold wordR; simp⟩
      rw [e, segF, if_pos rfl, close 44 125 h44 (nd_other (by decide)) (by decide), skipF_hit]
      unfold unG
      rw [if_neg (show ¬ seqB 1 = true by decide)]
    · by_cases k4 : k = 4
      · subst k4
        have e : wordR 4 l ++ rest = 91 :: (sepd 44 l ++ (93 :: rest)) := by unfold wordR; simp
        refine ⟨?_, by unfold wordR; simp⟩
        rw [e, segF, if_neg (by decide), if_pos rfl, close 44 93 h44 (nd_other (by decide)) (by decide), skipF_hit]
        unfold unG
        rw [if_neg (show ¬ seqB 4 = true by decide)]
      · obtain rfl : k = 3 := by omega
        have e : wordR 3 l ++ rest = 40 :: (sepd 32 l ++ (41 :: rest)) := by unfold wordR; simp
        refine ⟨?_, by unfold wordR; simp⟩
        rw [e, segF, if_neg (by decide), if_neg (by decide), if_pos rfl, close 32 41 h32 (nd_other (by decide)) (by decide), skipF_hit]
        unfold unG
        rw [if_pos (show seqB 3 = true by decide)]
theorem word_head {k : Int} {l : List Int} (h2 : k ≠ 2) : ∃ d t, wordR k l = d :: t ∧ ¬ isD d := by
  unfold wordR
  rw [if_neg h2]
  split
  · exact ⟨_, _, rfl, nd_other (by decide)⟩
  · split
    · exact ⟨_, _, rfl, nd_other (by decide)⟩
    · exact ⟨_, _, rfl, nd_other (by decide)⟩
/-- the groups are read back -/
theorem lenF_groups : ∀ (G : Path) (f : Nat) (P : Path), (∀ g ∈ G, g.2 ≠ [] ∧ (1 ≤ g.1 ∧ g.1 ≤ 4) ∧ (seqB g.1 = false → g.2.length ≤ 255) ∧ ∀ x ∈ g.2, 0 ≤ x ∧ x ≤ 4294967295) → okG G →
    (jl (G.map fun g => wordR g.1 g.2)).length < f → lenF f (jl (G.map fun g => wordR g.1 g.2)) P = some (P ++ G.flatMap unG)
  | _, 0, _, _, _, h => absurd h (by omega)
  | [], f + 1, P, _, _, _ => by simp [jl, lenF]
  | g :: G, f + 1, P, hg, ho, hf => by
    obtain ⟨k, l⟩ := g
    obtain ⟨hl, hk, _, hx⟩ := hg (k, l) (by simp)
    have ho' : okG G := by
      cases G with
      | nil => trivial
      | cons b r => exact ho.2
    rw [jl_map_cons] at hf ⊢
    obtain ⟨rest, hrest⟩ : ∃ r, (if G = [] then [] else 32 :: jl (G.map fun g => wordR g.1 g.2)) = r := ⟨_, rfl⟩
    have hrr : rest = [] ∨ ∃ r, rest = 32 :: r ∧ (k = 2 → ∀ d t, r = d :: t → ¬ isD d) := by
      cases G with
      | nil => exact .inl (by rw [← hrest]; rfl)
      | cons b q =>
        refine .inr ⟨_, by rw [← hrest, if_neg (by simp)], fun h2 d t hdt => ?_⟩
        have hb2 : b.1 ≠ 2 := fun e => by
          have h3 := ho.1 (by show k = b.1; rw [h2, e])
          rw [show ((k, l) : Int × List Int).1 = 2 from h2] at h3
          exact absurd h3 (by decide)
        obtain ⟨d', t', e', hd'⟩ := word_head (l := b.2) hb2
        rw [jl_map_cons, e', List.cons_append] at hdt
        injection hdt with h4 _
        rw [← h4]
        exact hd'
    obtain ⟨hseg, hne⟩ := segF_word (k := k) (l := l) (rest := rest) hk hl hx hrr
    rw [hrest] at hf ⊢
    have hcons : ∃ c r, wordR k l ++ rest = c :: r := by
      cases hw : wordR k l with
      | nil => exact absurd hw hne
      | cons c r => exact ⟨c, r ++ rest, rfl⟩
    obtain ⟨c, r, hc⟩ := hcons
    have hlen : (skipF 32 rest).length ≤ rest.length := by
      cases rest with
      | nil => exact Nat.le_refl _
      | cons a b =>
        rw [skipF]
        split <;> simp
    have hwl : 0 < (wordR k l).length := List.length_pos_iff.2 hne
    have hsk : skipF 32 rest = jl (G.map fun g => wordR g.1 g.2) := by
      rw [← hrest]
      cases G with
      | nil => rfl
      | cons b q => rw [if_neg (by simp), skipF_hit]
    dsimp only at hf ⊢
    have hlc : (c :: r).length = (wordR k l).length + rest.length := by rw [← hc, List.length_append]
    rw [hc] at hf hseg ⊢
    rw [lenF, hseg]
    dsimp only
    rw [if_neg (by omega), hsk, lenF_groups G f _ (fun g h => hg g (List.mem_cons_of_mem _ h)) ho' (by rw [← hsk]; omega), List.flatMap_cons, List.append_assoc]
/-- a valid path's text is read back -/
theorem lenF_back {p : Path} (h : pathErr p = 0) {f : Nat} (hf : (txt p).length < f) : lenF f (txt p) [] = some p := by
  have hv := valid_parts h
  have hg := grp_parts p hv
  have h1 := lenF_groups (grp p) f [] (fun g hgm => hg g hgm) (okG_grp p) hf
  rw [unG_grp p (chk_okA (pathErr_parts h).2) (fun s hs => ⟨(hv s hs).1, (hv s hs).2.2.1⟩)] at h1
  rw [List.nil_append] at h1
  exact h1
open Classical in
/-- the reference's Parse -/
noncomputable def refParseR (s : ByteArray) : Path × Int :=
  match lenF (s.size + 1) s.data.toList [] with
  | none => ([], 2)
  | some p => if textR p = (s.data.toList, 0) then (p, 0) else ([], 2)
theorem textR_ok {p : Path} {t : List UInt8} (h : textR p = (t, 0)) : pathErr p = 0 ∧ t = txt p := by
  unfold textR at h
  split at h
  · rename_i h0
    exact ⟨h0, (congrArg Prod.fst h).symm⟩
  · rename_i h0
    exact absurd (congrArg Prod.snd h) h0
/-- both read the same -/
theorem parse_same (s : ByteArray) : parseR s = refParseR s := by
  have hp : (parseR s).2 = 0 → textR (parseR s).1 = (s.data.toList, 0) := by
    intro h
    unfold parseR at h ⊢
    split at h
    · cases h
    · rename_i h1
      rw [if_neg h1]
      split at h
      · cases h
      · rename_i p run op he
        split at h
        · cases h
        · rename_i h2
          rw [if_neg h2]
          split at h
          · rename_i h3
            rw [if_pos h3]
            exact h3
          · cases h
  have he : (parseR s).2 ≠ 0 → parseR s = ([], 2) := by
    intro h
    unfold parseR at h ⊢
    split
    · rfl
    · rename_i h1
      rw [if_neg h1] at h
      split
      · rfl
      · rename_i p run op he
        rw [he] at h
        dsimp only at h
        split
        · rfl
        · rename_i h2
          rw [if_neg h2] at h
          split
          · rename_i h3
            rw [if_pos h3] at h
            exact absurd rfl h
          · rfl
  by_cases h0 : (parseR s).2 = 0
  · have ht := hp h0
    obtain ⟨p, hpe⟩ : ∃ p, (parseR s).1 = p := ⟨_, rfl⟩
    rw [hpe] at ht
    obtain ⟨h1, h2⟩ := textR_ok ht
    have hl := lenF_back h1 (f := s.size + 1) (by rw [← h2, ← size_list]; omega)
    unfold refParseR
    rw [h2, hl]
    dsimp only
    rw [if_pos (by rw [← h2]; exact ht), ← hpe, ← h0]
  · rw [he h0]
    unfold refParseR
    split
    · rfl
    · rename_i p hl
      split
      · rename_i ht
        obtain ⟨h1, h2⟩ := textR_ok ht
        have hb := parse_back h1
        rw [← strB_of h2] at hb
        rw [hb] at h0
        exact absurd rfl h0
      · rfl
end Go.Proofs.YteohdanlcaoaiaaDoor
