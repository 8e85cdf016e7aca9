/- The pieces of a line, byte by byte. -/
import Derived.Test.YteohdanlcaoaiaaDoorWords
import Derived.Lib.IndexLaws
import Derived.Lib.IndexBytes
namespace Go.Proofs.YteohdanlcaoaiaaDoor
open Go.RowKit

/-- the pieces of what is left, behind what the piece under way holds -/
def spl : List UInt8 → List UInt8 → List (List UInt8)
  | [], cur => [cur]
  | c :: r, cur => if c = 32 then cur :: spl r [] else spl r (cur ++ [c])
/-- ahead of the first piece -/
def pre (p : List UInt8) : List (List UInt8) → List (List UInt8)
  | [] => []
  | x :: xs => (p ++ x) :: xs
theorem idx_cons (c : UInt8) (r : List UInt8) (h : c ≠ 32) : Lib.index (c :: r) [32] = if Lib.index r [32] == -1 then -1 else Lib.index r [32] + 1 := by
  rw [Lib.index, if_neg]
  simp [List.isPrefixOf]
  exact fun e => h e.symm
theorem splitK_sep (k : Nat) (r : List UInt8) : Lib.splitK [32] 0 (k + 1) (32 :: r) = [] :: Lib.splitK [32] 0 k r := by
  have h : Lib.index (32 :: r) [32] = 0 := by rw [Lib.index, if_pos]; simp [List.isPrefixOf]
  rw [Lib.splitK, h]
  simp
theorem splitK_cons (c : UInt8) (r : List UInt8) (h : c ≠ 32) : ∀ k, Lib.splitK [32] 0 k (c :: r) = pre [c] (Lib.splitK [32] 0 k r)
  | 0 => rfl
  | k + 1 => by
    rw [Lib.splitK, Lib.splitK, idx_cons c r h]
    by_cases h1 : Lib.index r [32] = -1
    · simp [h1, pre]
    · have h2 : (Lib.index r [32] == -1) = false := by simp [h1]
      have h3 : -1 ≤ Lib.index r [32] := by rw [Lib.index_one]; exact Lib.indexByte_ge _ _
      obtain ⟨i, hi⟩ : ∃ i : Nat, Lib.index r [32] = (i : Int) := ⟨(Lib.index r [32]).toNat, by omega⟩
      have h4 : ((i : Int) + 1 == -1) = false := by simp; omega
      have h5 : ((i : Int) == -1) = false := by simp
      have e : ((i : Int) + 1).toNat = i + 1 := by omega
      rw [hi]
      simp [h4, h5, e, pre]
theorem pre_pre (p q : List UInt8) (l : List (List UInt8)) : pre p (pre q l) = pre (p ++ q) l := by cases l <;> simp [pre]
theorem pre_nil (l : List (List UInt8)) : pre [] l = l := by cases l <;> simp [pre]
theorem spl_eq : ∀ (l cur : List UInt8), spl l cur = pre cur (Lib.splitK [32] 0 (Lib.count l [32]) l)
  | [], cur => by
    have : Lib.count ([] : List UInt8) [32] = 0 := by decide
    rw [this]
    simp [spl, Lib.splitK, pre]
  | c :: r, cur => by
    rw [spl]
    by_cases h : c = 32
    · subst h
      rw [if_pos rfl, spl_eq r [], pre_nil, Lib.count_cons_eq, Nat.add_comm, splitK_sep]
      simp [pre]
    · rw [if_neg h, spl_eq r, Lib.count_cons_ne c 32 r h, splitK_cons c r h, pre_pre]
theorem pieces_spl (s : ByteArray) : (pieces s).map (·.data.toList) = spl s.data.toList [] := by
  rw [spl_eq, pre_nil]
  unfold pieces
  rw [Lib.splitB_data]
  rfl
theorem bytes_ext {a b : ByteArray} (h : a.data.toList = b.data.toList) : a = b := by
  refine ByteArray.ext ?_
  exact Array.toList_inj.1 h
/-- the reference's state at byte k -/
structure WInv (s : ByteArray) (k : Nat) (out : List ByteArray) (wd : ByteArray) : Prop where
  eq : spl s.data.toList [] = out.map (·.data.toList) ++ spl (s.data.toList.drop k) wd.data.toList
  full : ∀ p ∈ out, ¬ p.size = 0
  nolf : ∀ j, j < k → s.data.toList[j]? ≠ some 10
theorem drop_at {s : ByteArray} {k : Nat} (h : k < s.size) : s.data.toList.drop k = s[k] :: s.data.toList.drop (k + 1) := by
  have h' : k < s.data.toList.length := by rw [Array.length_toList]; exact h
  rw [List.drop_eq_getElem_cons h']
  rfl
theorem at_toList {s : ByteArray} {k : Nat} (h : k < s.size) : s.data.toList[k]? = some s[k] := by
  have h' : k < s.data.size := h
  rw [Array.getElem?_toList, Array.getElem?_eq_getElem h']
  rfl
section
variable {s wd : ByteArray} {k : Nat} {out : List ByteArray}
theorem WInv.start (s : ByteArray) : WInv s 0 [] ByteArray.empty := ⟨by simp, by simp, fun j hj => absurd hj (by omega)⟩
theorem WInv.char (h : WInv s k out wd) (hk : k < s.size) (h10 : s[k] ≠ 10) (h32 : s[k] ≠ 32) {wd' : ByteArray} (hw : wd'.data.toList = wd.data.toList ++ [s[k]]) : WInv s (k + 1) out wd' := by
  refine ⟨?_, h.full, fun j hj => ?_⟩
  · rw [h.eq, drop_at hk, spl, if_neg h32, hw]
  · rcases Nat.lt_or_ge j k with hl | hl
    · exact h.nolf j hl
    · obtain rfl : j = k := by omega
      rw [at_toList hk]
      exact fun e => h10 (Option.some.inj e)
theorem WInv.space (h : WInv s k out wd) (hk : k < s.size) (h32 : s[k] = 32) (hw : ¬ wd.size = 0) : WInv s (k + 1) (out ++ [wd]) ByteArray.empty := by
  refine ⟨?_, fun p hp => ?_, fun j hj => ?_⟩
  · rw [h.eq, drop_at hk, spl, if_pos h32]
    simp

  · rcases List.mem_append.1 hp with hp | hp
    · exact h.full p hp
    · obtain rfl : p = wd := by simpa using hp
      exact hw
  · rcases Nat.lt_or_ge j k with hl | hl
    · exact h.nolf j hl
    · obtain rfl : j = k := by omega
      rw [at_toList hk, h32]
      decide
theorem lf_bad (h0 : ¬ s.size = 0) (hk : k < s.size) (h : s[k] = 10) : wordsR s = ([], 2) := by
  refine wordsR_lf h0 ?_
  rcases Int.lt_or_le (Lib.indexByte s.data.toList 10) 0 with hl | hl
  · have := Lib.indexByte_ge s.data.toList 10
    have h1 : Lib.indexByte s.data.toList 10 = -1 := by omega
    exact absurd (by rw [at_toList hk, h]) (Lib.indexByte_none h1 k)
  · exact hl
theorem gap_bad (h0 : ¬ s.size = 0) (h : ([] : List UInt8) ∈ spl s.data.toList []) : wordsR s = ([], 2) := by
  by_cases h1 : 0 ≤ Lib.indexByte s.data.toList 10
  · exact wordsR_lf h0 h1
  · rw [← pieces_spl] at h
    obtain ⟨p, hp, he⟩ := List.mem_map.1 h
    refine wordsR_gap h0 h1 hp ?_
    show p.data.size = 0
    have he' : p.data.toList = [] := he
    rw [← Array.length_toList, he']
    rfl
theorem nil_of {b : ByteArray} (h : b.size = 0) : b.data.toList = [] := by
  have : b.data.toList.length = 0 := by rw [Array.length_toList]; exact h
  exact List.eq_nil_of_length_eq_zero this
theorem WInv.gap (h : WInv s k out wd) (h0 : ¬ s.size = 0) (hk : k < s.size) (h32 : s[k] = 32) (hw : wd.size = 0) : wordsR s = ([], 2) := by
  refine gap_bad h0 ?_
  rw [h.eq, drop_at hk, spl, if_pos h32, nil_of hw]
  simp
theorem WInv.endGap (h : WInv s s.size out wd) (h0 : ¬ s.size = 0) (hw : wd.size = 0) : wordsR s = ([], 2) := by
  refine gap_bad h0 ?_
  rw [h.eq, List.drop_eq_nil_of_le (by rw [Array.length_toList]; exact Nat.le_refl _), spl, nil_of hw]
  simp
theorem map_inj {a b : List ByteArray} (h : a.map (·.data.toList) = b.map (·.data.toList)) : a = b := by
  induction a generalizing b with
  | nil => cases b with
    | nil => rfl
    | cons y ys => simp at h
  | cons x xs ih => cases b with
    | nil => simp at h
    | cons y ys =>
      simp only [List.map_cons, List.cons.injEq] at h
      rw [bytes_ext h.1, ih h.2]
theorem WInv.done (h : WInv s s.size out wd) (h0 : ¬ s.size = 0) (hw : ¬ wd.size = 0) : wordsR s = (out ++ [wd], 0) := by
  have he : pieces s = out ++ [wd] := by
    refine map_inj ?_
    rw [pieces_spl, h.eq, List.drop_eq_nil_of_le (by rw [Array.length_toList]; exact Nat.le_refl _), spl]
    simp
  rw [← he]
  refine wordsR_ok h0 ?_ ?_
  · intro hl
    obtain ⟨i, hi⟩ : ∃ i : Nat, Lib.indexByte s.data.toList 10 = (i : Int) := ⟨(Lib.indexByte s.data.toList 10).toNat, by omega⟩
    have h1 := (Lib.indexByte_some hi).1
    have h2 : i < s.size := by
      have := (List.getElem?_eq_some_iff.1 h1).1
      rwa [Array.length_toList] at this
    exact h.nolf i h2 h1
  · rw [he]
    intro p hp
    rcases List.mem_append.1 hp with hp | hp
    · exact h.full p hp
    · obtain rfl : p = wd := by simpa using hp
      exact hw
end
end Go.Proofs.YteohdanlcaoaiaaDoor
