/- Lines and their words: the plain laws. -/
import Derived.Test.YteohdanlcaoaiaaDoorRefWords
import Derived.ProofKit
namespace Go.Proofs.YteohdanlcaoaiaaDoor
open Go.RowKit

/-- words joined by single spaces -/
def jl : List (List UInt8) → List UInt8
  | [] => []
  | [x] => x
  | x :: y :: r => x ++ 32 :: jl (y :: r)
theorem jl_snoc (w : List UInt8) : ∀ (l : List (List UInt8)), l ≠ [] → jl (l ++ [w]) = jl l ++ 32 :: w
  | [], h => absurd rfl h
  | [x], _ => rfl
  | x :: y :: r, _ => by
    have := jl_snoc w (y :: r) (by simp)
    rw [List.cons_append, List.cons_append, jl, ← List.cons_append, this, jl]
    simp
theorem spl_word : ∀ (x r cur : List UInt8), (∀ c ∈ x, c ≠ 32) → spl (x ++ r) cur = spl r (cur ++ x)
  | [], r, cur, _ => by simp
  | c :: x, r, cur, h => by
    rw [List.cons_append, spl, if_neg (h c (by simp)), spl_word x r _ (fun d hd => h d (by simp [hd]))]
    simp
theorem spl_jl : ∀ (l : List (List UInt8)), l ≠ [] → (∀ x ∈ l, ∀ c ∈ x, c ≠ 32) → spl (jl l) [] = l
  | [], h, _ => absurd rfl h
  | [x], _, h => by
    have := spl_word x [] [] (h x (by simp))
    rw [List.append_nil] at this
    rw [jl, this]
    rfl
  | x :: y :: r, _, h => by
    rw [jl, spl_word x _ _ (h x (by simp)), List.nil_append, spl, if_pos rfl, spl_jl (y :: r) (by simp) (fun z hz => h z (by simp [hz]))]
theorem spl_ne : ∀ (l cur : List UInt8), spl l cur ≠ []
  | [], _ => by simp [spl]
  | c :: r, cur => by
    rw [spl]
    split
    · simp
    · exact spl_ne r _
theorem jl_spl : ∀ (l cur : List UInt8), jl (spl l cur) = cur ++ l
  | [], cur => by simp [spl, jl]
  | c :: r, cur => by
    rw [spl]
    by_cases h : c = 32
    · rw [if_pos h]
      have h1 := jl_spl r []
      cases hs : spl r [] with
      | nil => exact absurd hs (spl_ne r [])
      | cons y ys => rw [jl, ← hs, h1, h]; simp
    · rw [if_neg h, jl_spl r]
      simp
theorem jl_take_le : ∀ (l : List (List UInt8)) (k : Nat), (jl (l.take k)).length ≤ (jl l).length
  | [], k => by simp [jl]
  | [x], k => by
    cases k with
    | zero => simp [jl]
    | succ k => simp [jl]
  | x :: y :: r, k => by
    match k with
    | 0 => simp [jl]
    | 1 => simp [jl]
    | k + 2 =>
      have := jl_take_le (y :: r) (k + 1)
      rw [List.take_succ_cons, List.take_succ_cons, jl, ← List.take_succ_cons, jl]
      simp only [List.length_append, List.length_cons]
      omega
def dB (ps : List ByteArray) : List (List UInt8) := ps.map (·.data.toList)
def wsum : List ByteArray → Nat
  | [] => 0
  | p :: r => p.size + wsum r
theorem jl_le : ∀ ps : List ByteArray, (jl (dB ps)).length ≤ wsum ps + ps.length
  | [] => by simp [dB, jl]
  | [p] => by
    have : p.data.toList.length = p.size := by rw [Array.length_toList]; rfl
    simp only [dB, List.map_cons, List.map_nil, jl, wsum, List.length_cons, List.length_nil]
    omega
  | p :: q :: r => by
    have := jl_le (q :: r)
    have h : p.data.toList.length = p.size := by rw [Array.length_toList]; rfl
    have e : dB (p :: q :: r) = p.data.toList :: q.data.toList :: dB r := rfl
    have e2 : dB (q :: r) = q.data.toList :: dB r := rfl
    rw [e, jl, List.length_append, List.length_cons, ← e2]
    simp only [wsum, List.length_cons] at this ⊢
    omega
/-- a word without spaces and line feeds, not empty -/
def plainB (w : ByteArray) : Bool := w.data.toList.all fun c => c != 32 && c != 10
def okW (w : ByteArray) : Bool := !w.toList.isEmpty && plainB w
theorem okW_spec {w : ByteArray} (h : okW w = true) : ¬ w.size = 0 ∧ ∀ c ∈ w.data.toList, c ≠ 32 ∧ c ≠ 10 := by
  unfold okW plainB at h
  rw [isEmpty_size] at h
  simp only [Bool.and_eq_true, Bool.not_eq_true', decide_eq_false_iff_not, List.all_eq_true, bne_iff_ne] at h
  exact h
/-- the first law -/
theorem joined_words {ps : List ByteArray} {b : ByteArray} (hb : b.data.toList = jl (dB ps)) (hf : ps.all okW = true) : wordsR b = (ps, 0) := by
  have hw : ∀ p ∈ ps, ¬ p.size = 0 ∧ ∀ c ∈ p.data.toList, c ≠ 32 ∧ c ≠ 10 := fun p hp => okW_spec (List.all_eq_true.1 hf p hp)
  have hsz : b.size = b.data.toList.length := by rw [Array.length_toList]; rfl
  cases ps with
  | nil => exact wordsR_nil (by rw [hsz, hb]; rfl)
  | cons p r =>
    have hne : dB (p :: r) ≠ [] := by simp [dB]
    have hsp : spl b.data.toList [] = dB (p :: r) := by
      rw [hb]
      refine spl_jl _ hne fun x hx c hc => ?_
      obtain ⟨q, hq, rfl⟩ := List.mem_map.1 hx
      exact ((hw q hq).2 c hc).1
    have hpi : pieces b = p :: r := map_inj (by rw [pieces_spl, hsp]; rfl)
    have hp0 : 0 < p.data.toList.length := by
      have h1 := (hw p (by simp)).1
      have h2 : p.data.toList.length = p.size := by rw [Array.length_toList]; rfl
      omega
    have h0 : ¬ b.size = 0 := by
      rw [hsz, hb]
      cases r with
      | nil => show ¬ (jl [p.data.toList]).length = 0; rw [jl]; omega
      | cons q t => show ¬ (jl (p.data.toList :: q.data.toList :: dB t)).length = 0; rw [jl, List.length_append]; omega
    have key : ∀ (l : List (List UInt8)), (∀ x ∈ l, ∀ c ∈ x, c ≠ 10) → ∀ c ∈ jl l, c ≠ 10 := by
      intro l
      induction l with
      | nil => intro _ c hc; simp [jl] at hc
      | cons x t ih =>
        intro h c hc
        cases t with
        | nil => rw [jl] at hc; exact h x (by simp) c hc
        | cons y u =>
          rw [jl] at hc
          rcases List.mem_append.1 hc with hc | hc
          · exact h x (by simp) c hc
          · rcases List.mem_cons.1 hc with rfl | hc
            · decide
            · exact ih (fun z hz => h z (by simp [hz])) c hc
    rw [← hpi]
    refine wordsR_ok h0 (fun hl => ?_) (fun q hq => ?_)
    · obtain ⟨i, hi⟩ : ∃ i : Nat, Lib.indexByte b.data.toList 10 = (i : Int) := ⟨(Lib.indexByte b.data.toList 10).toNat, by omega⟩
      have h1 := List.mem_of_getElem? (Lib.indexByte_some hi).1
      rw [hb] at h1
      refine key _ (fun x hx c hc => ?_) 10 h1 rfl
      obtain ⟨q, hq, rfl⟩ := List.mem_map.1 hx
      exact ((hw q hq).2 c hc).2
    · rw [hpi] at hq
      exact (hw q hq).1
/-- the second law -/
theorem words_joined {s : ByteArray} {ps : List ByteArray} (h : wordsR s = (ps, 0)) : jl (dB ps) = s.data.toList := by
  by_cases h0 : s.size = 0
  · rw [wordsR_nil h0] at h
    simp only [Prod.mk.injEq, and_true] at h
    rw [← h, nil_of h0]
    rfl
  · by_cases h1 : 0 ≤ Lib.indexByte s.data.toList 10
    · rw [wordsR_lf h0 h1] at h; cases h
    · by_cases h2 : ∀ p ∈ pieces s, ¬ p.size = 0
      · rw [wordsR_ok h0 h1 h2] at h
        simp only [Prod.mk.injEq, and_true] at h
        rw [← h]
        show jl ((pieces s).map (·.data.toList)) = _
        rw [pieces_spl, jl_spl]
        rfl
      · simp only [Classical.not_forall, Classical.not_not] at h2
        obtain ⟨p, hp, hz⟩ := h2
        rw [wordsR_gap h0 h1 hp hz] at h; cases h
end Go.Proofs.YteohdanlcaoaiaaDoor
