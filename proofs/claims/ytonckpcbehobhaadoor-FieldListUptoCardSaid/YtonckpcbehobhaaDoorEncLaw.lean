/- FieldList: the plain laws. -/
import Derived.Test.YtonckpcbehobhaaDoorPutTlv
import Derived.Test.YtonckpcbehobhaaDoorTlvOut
namespace Go.Proofs.YtonckpcbehobhaaDoor
open Go.RowKit

/-- the bytes of a field -/
def encT (t : Int × List Int) : List Int := t.1 :: (((t.2.length : Int) / 256) % 256) :: ((t.2.length : Int) % 256) :: t.2
theorem encT_eq (t : Int × List Int) : [t.1] ++ (pb t.2.length 2 ++ t.2) = encT t := by
  simp [pb, encT]
theorem encT_len (t : Int × List Int) : (encT t).length = 3 + t.2.length := by simp only [encT, List.length_cons]; omega
/-- the bytes of a list of fields -/
def enc (ts : List (Int × List Int)) : List Int := ts.flatMap encT
theorem enc_cons (t : Int × List Int) (r : List (Int × List Int)) : enc (t :: r) = encT t ++ enc r := List.flatMap_cons
theorem enc_snoc (ts : List (Int × List Int)) (t : Int × List Int) : enc (ts ++ [t]) = enc ts ++ encT t := by unfold enc; rw [List.flatMap_append]; simp
/-- a field that can be written -/
def okT (t : Int × List Int) : Prop := 0 ≤ t.1 ∧ t.1 ≤ 255 ∧ t.2.length ≤ 65535
theorem putR_ok {xs : List Int} {t : Int × List Int} (h : okT t) : putR xs t.1 t.2 = (xs ++ encT t, 0) := by
  obtain ⟨h0, h1, h2⟩ := h
  unfold putR
  rw [if_neg (by omega), if_neg (by omega), encT_eq]
theorem putR_bad {xs : List Int} {t : Int × List Int} (h : ¬ okT t) : ∃ e : Int, putR xs t.1 t.2 = ([], e) ∧ e ≠ 0 := by
  unfold putR
  by_cases h1 : t.1 < 0 ∨ 255 < t.1
  · rw [if_pos h1]
    exact ⟨5, rfl, by omega⟩
  · rw [if_neg h1]
    by_cases h2 : 65535 < t.2.length
    · rw [if_pos h2]
      exact ⟨4, rfl, by omega⟩
    · exact absurd ⟨by omega, by omega, by omega⟩ h
theorem encT_num (t : Int × List Int) (h : t.2.length ≤ 65535) (r : List Int) : num (encT t ++ r) 1 2 = (t.2.length : Int) := by
  simp only [num, encT, List.cons_append, List.getD_cons_succ, List.getD_cons_zero]
  show (0 * 256 + (t.2.length : Int) / 256 % 256) * 256 + (t.2.length : Int) % 256 = _
  omega
theorem enc_len : ∀ ts : List (Int × List Int), (∀ t ∈ ts, okT t) → (enc ts).length ≤ ts.length * 65538
  | [], _ => by simp [enc]
  | t :: r, h => by
    have := enc_len r fun x hx => h x (List.mem_cons_of_mem _ hx)
    have := (h t (List.mem_cons_self ..)).2.2
    rw [enc_cons, List.length_append, encT_len, List.length_cons]
    omega
theorem enc_dec : ∀ (ts : List (Int × List Int)) (k : Nat), (∀ t ∈ ts, okT t) → (enc ts).length ≤ k → tl k (enc ts) = some ts
  | [], k, _, _ => tl_nil k rfl
  | t :: r, k, h, hk => by
    have ht := (h t (List.mem_cons_self ..)).2.2
    rw [enc_cons, List.length_append, encT_len] at hk
    obtain ⟨j, rfl⟩ : ∃ j, k = j + 1 := ⟨k - 1, by omega⟩
    rw [enc_cons, tl_step (n := t.2.length) (by rw [List.length_append, encT_len]; omega) (encT_num t ht _) (by rw [List.length_append, encT_len]; omega)]
    have e1 : (encT t ++ enc r).drop (3 + t.2.length) = enc r := by rw [← encT_len, List.drop_left]
    have e2 : ((encT t ++ enc r).drop 3).take t.2.length = t.2 := by
      show ((t.2 ++ enc r).take t.2.length) = t.2
      rw [List.take_left]
    rw [e1, e2, enc_dec r j (fun x hx => h x (List.mem_cons_of_mem _ hx)) (by omega)]
    rfl
theorem enc_tlR {ts : List (Int × List Int)} (h : ∀ t ∈ ts, okT t) : tlR (enc ts) = (ts, 0) := by
  unfold tlR
  rw [enc_dec ts _ h (Nat.le_refl _)]
/-- where the fields begin -/
def starts : Nat → List (Int × List Int) → List Int
  | _, [] => []
  | o, t :: r => (o : Int) :: starts (o + (3 + t.2.length)) r
theorem starts_snoc : ∀ (o : Nat) (ts : List (Int × List Int)) (t : Int × List Int), starts o (ts ++ [t]) = starts o ts ++ [((o + (enc ts).length : Nat) : Int)]
  | o, [], t => by simp [starts, enc]
  | o, x :: r, t => by
    rw [List.cons_append, starts, starts, starts_snoc _ r t, enc_cons, List.length_append, encT_len, List.cons_append]
    have e : o + (3 + x.2.length) + (enc r).length = o + (3 + x.2.length + (enc r).length) := by omega
    rw [e]
theorem starts_len : ∀ (o : Nat) (ts : List (Int × List Int)), (starts o ts).length = ts.length
  | _, [] => rfl
  | o, t :: r => by rw [starts, List.length_cons, starts_len, List.length_cons]
theorem cut_none : ∀ (ts : List (Int × List Int)) (o c k : Nat), (∀ t ∈ ts, okT t) → c < (enc ts).length → c ≤ k → (∀ x ∈ starts o ts, x ≠ ((o + c : Nat) : Int)) → tl k ((enc ts).take c) = none
  | [], _, c, _, _, hc, _, _ => by simp [enc] at hc
  | t :: r, o, c, k, h, hc, hk, hn => by
    have ht := (h t (List.mem_cons_self ..)).2.2
    have h0 : c ≠ 0 := by
      intro h0
      subst h0
      exact hn (o : Int) (List.mem_cons_self ..) (by simp)
    rw [enc_cons, List.length_append, encT_len] at hc
    have hel := encT_len t
    have htl : ((encT t ++ enc r).take c).length = c := by rw [List.length_take, List.length_append, hel]; omega
    rw [enc_cons]
    by_cases hlt : c < 3 + t.2.length
    · refine tl_short (by omega) (by omega) ?_
      by_cases h3 : c < 3
      · left; omega
      · right
        have e : (encT t ++ enc r).take c = (encT t).take c := List.take_append_of_le_length (by omega)
        have e2 : num ((encT t ++ enc r).take c) 1 2 = (t.2.length : Int) := by
          rw [e]
          obtain ⟨d, rfl⟩ : ∃ d, c = d + 3 := ⟨c - 3, by omega⟩
          simp only [num, encT, List.take_succ_cons, List.getD_cons_succ, List.getD_cons_zero]
          show (0 * 256 + (t.2.length : Int) / 256 % 256) * 256 + (t.2.length : Int) % 256 = _
          omega
        rw [e2, htl]
        omega
    · obtain ⟨d, rfl⟩ : ∃ d, c = (encT t).length + d := ⟨c - (3 + t.2.length), by omega⟩
      obtain ⟨j, rfl⟩ : ∃ j, k = j + 1 := ⟨k - 1, by omega⟩
      have e : (encT t ++ enc r).take ((encT t).length + d) = encT t ++ (enc r).take d := by
        rw [List.take_length_add_append]
      rw [e, tl_step (n := t.2.length) (by rw [List.length_append, encT_len]; omega) (encT_num t ht _) (by rw [List.length_append, encT_len]; omega)]
      rw [← hel, List.drop_left, cut_none r (o + (3 + t.2.length)) d j (fun x hx => h x (List.mem_cons_of_mem _ hx)) (by omega) (by omega) (fun x hx => by
        have := hn x (List.mem_cons_of_mem _ hx)
        rw [hel] at this
        intro hx2
        exact this (by rw [hx2]; congr 1; omega))]
      rfl
theorem cut_tlR {ts : List (Int × List Int)} {c : Nat} (h : ∀ t ∈ ts, okT t) (hc : c < (enc ts).length) (hn : ∀ x ∈ starts 0 ts, x ≠ (c : Int)) : tlR ((enc ts).take c) = ([], 3) := by
  unfold tlR
  rw [cut_none ts 0 c _ h hc (by rw [List.length_take]; omega) (by rw [Nat.zero_add]; exact hn)]
theorem bytes_all {xs : List Int} (h : ∀ x ∈ xs, 0 ≤ x ∧ x ≤ 255) : Bytes xs := fun j => by
  rw [List.getD_eq_getElem?_getD]
  cases e : xs[j]? with
  | none => simp
  | some x => exact h x (List.mem_of_getElem? e)
theorem all_bytes {xs : List Int} (h : Bytes xs) : ∀ x ∈ xs, 0 ≤ x ∧ x ≤ 255 := fun x hx => by
  obtain ⟨j, hj⟩ := List.mem_iff_getElem?.1 hx
  have := h j
  rwa [List.getD_eq_getElem?_getD, hj] at this
theorem enc_bytes {ts : List (Int × List Int)} (h : ∀ t ∈ ts, okT t) (hb : ∀ t ∈ ts, Bytes t.2) : Bytes (enc ts) := bytes_all fun x hx => by
  obtain ⟨t, ht, hx⟩ := List.mem_flatMap.1 hx
  have h1 := h t ht
  simp only [encT, List.mem_cons] at hx
  rcases hx with rfl | rfl | rfl | hx
  · exact ⟨h1.1, h1.2.1⟩
  · omega
  · omega
  · exact all_bytes (hb t ht) x hx
end Go.Proofs.YtonckpcbehobhaaDoor
