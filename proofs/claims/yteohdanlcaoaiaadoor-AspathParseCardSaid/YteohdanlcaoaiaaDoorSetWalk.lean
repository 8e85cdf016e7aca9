/- set: numbers that are separated by commas. -/
import Derived.Test.YteohdanlcaoaiaaDoorParseLaw
namespace Go.Proofs.YteohdanlcaoaiaaDoor
open Go.RowKit

theorem ext_list (s : ByteArray) (a b : Nat) : (s.extract a b).data.toList = (s.data.toList.drop a).take (b - a) := by
  simp [ByteArray.data_extract, Array.toList_extract, List.extract_eq_take_drop]
theorem ext_size_le (s : ByteArray) (a b : Nat) : (s.extract a b).size ≤ s.size := by
  rw [size_list, size_list, ext_list, List.length_take, List.length_drop]
  omega
/-- the loop's state -/
def SEq (s : List UInt8) (i fr : Nat) (l : List Int) : Prop := fr ≤ i ∧ i ≤ s.length + 1 ∧ if i ≤ s.length then setF s [] = (setF (s.drop i) ((s.drop fr).take (i - fr))).map (l ++ ·) else setF s [] = some l
theorem SEq.start (s : List UInt8) : SEq s 0 0 [] := ⟨Nat.le_refl _, by omega, by
  rw [if_pos (by omega)]
  cases h : setF s [] <;> simp [h]⟩
theorem take_one_more {s : List UInt8} {i fr : Nat} {c : UInt8} (hf : fr ≤ i) (h : s[i]? = some c) : (s.drop fr).take (i + 1 - fr) = (s.drop fr).take (i - fr) ++ [c] := by
  rw [show i + 1 - fr = (i - fr) + 1 by omega, List.take_add_one, List.getElem?_drop, show fr + (i - fr) = i by omega, h]
  rfl
theorem drop_cons {s : List UInt8} {i : Nat} {c : UInt8} (h : s[i]? = some c) : s.drop i = c :: s.drop (i + 1) := by
  obtain ⟨hk, he⟩ := List.getElem?_eq_some_iff.1 h
  rw [← he, List.drop_eq_getElem_cons hk]
section
variable {s : List UInt8} {i fr : Nat} {l : List Int}
theorem SEq.char (h : SEq s i fr l) {c : UInt8} (hc : s[i]? = some c) (h44 : c ≠ 44) : SEq s (i + 1) fr l := by
  obtain ⟨h1, h2, h3⟩ := h
  have hi := (List.getElem?_eq_some_iff.1 hc).1
  rw [if_pos (by omega), drop_cons hc, setF, if_neg h44] at h3
  exact ⟨by omega, by omega, by rw [if_pos (by omega), take_one_more h1 hc]; exact h3⟩
theorem SEq.bad (h : SEq s i fr l) (hi : i ≤ s.length) (hc : ∀ c, s[i]? = some c → c = 44) (hn : numL ((s.drop fr).take (i - fr)) = none) : setF s [] = none := by
  obtain ⟨h1, h2, h3⟩ := h
  rw [if_pos hi] at h3
  rw [h3]
  cases hg : s[i]? with
  | none =>
    have : s.length ≤ i := List.getElem?_eq_none_iff.1 hg
    rw [List.drop_of_length_le this, setF, hn]
    rfl
  | some c =>
    rw [drop_cons hg, setF, if_pos (hc c hg), hn]
    rfl
theorem SEq.next (h : SEq s i fr l) (hi : i ≤ s.length) (hc : ∀ c, s[i]? = some c → c = 44) {n : Int} (hn : numL ((s.drop fr).take (i - fr)) = some n) : SEq s (i + 1) (i + 1) (l ++ [n]) := by
  obtain ⟨h1, h2, h3⟩ := h
  rw [if_pos hi] at h3
  refine ⟨Nat.le_refl _, by omega, ?_⟩
  cases hg : s[i]? with
  | none =>
    have : s.length ≤ i := List.getElem?_eq_none_iff.1 hg
    rw [List.drop_of_length_le this, setF, hn] at h3
    rw [if_neg (by omega), h3]
    rfl
  | some c =>
    have hk := (List.getElem?_eq_some_iff.1 hg).1
    rw [drop_cons hg, setF, if_pos (hc c hg), hn] at h3
    rw [if_pos (by omega), h3]
    simp only [Nat.sub_self, List.take_zero]
    cases setF (s.drop (i + 1)) [] with
    | none => rfl
    | some l' => simp
theorem SEq.done (h : SEq s i fr l) (hi : s.length < i) : setF s [] = some l := by
  obtain ⟨h1, h2, h3⟩ := h
  rwa [if_neg (by omega)] at h3
end
def GivesSet (r : Option (List Int)) (w : World) (e : Ending) (w' : World) : Prop := ∃ A n c, e = .returned (.tuple #[.slice A n c, .bool r.isSome]) ∧ Own w' w.heap.size 3 .i64 (.slice A n c) n (r.getD []) ∧ Below w.heap.size w w'
def SetInv (w : World) (s : List UInt8) (lv fv iv : Value) (W : World) : Prop :=
  ∃ (i fr m : Nat) (l : List Int), fr ≤ i ∧ i ≤ s.length + 1 ∧ m ≤ i ∧ iv = .int .i64 i ∧ fv = .int .i64 fr ∧ Hid (SEq s i fr l) ∧ Hid (Own W w.heap.size 3 .i64 lv m l) ∧ Hid (Below w.heap.size w W)
set_option maxHeartbeats 4000000 in
theorem set_any (s : ByteArray) (w : World) (hs : s.size ≤ 1000000) :
    Calls Tryd.prog 64 #[.string s] w (GivesSet (setF s.data.toList []) w) := by
  have HL : Hid (s.data.toList.length = s.size) := (size_list s).symm
  go_enter Tryd.func64, Tryd.ntmps64
  go_wp2
  go_loopw [4, 5, 6] (fun lv fv iv wr => SetInv w s.data.toList lv fv iv wr) (fun _ _ iv _ => s.size + 1 - (intOf iv).toNat)
  case atStart => exact ⟨0, 0, 0, [], Nat.le_refl _, by omega, Nat.le_refl _, rfl, rfl, SEq.start _, Own.nil _ _ _ _, Below.refl _ _⟩
  case round =>
    obtain ⟨i, fr, m, l, hfi, hi1, hm, rfl, rfl, heq, ho, hbw⟩ := hrel
    rw [HL.out] at hi1
    obtain ⟨Al, cl, rfl⟩ := own_form ho.out
    by_cases hle : i ≤ s.size
    case neg =>
      have d : decide ((i : Int) ≤ (s.size : Int)) = false := by simp; omega
      have HF : Hid (setF s.data.toList [] = some l) := heq.out.done (by rw [HL.out]; omega)
      clear heq
      go_wp2
      go_ret2
      rw [HF.out]
      exact ⟨Al, m, cl, rfl, ho.out, hbw.out⟩
    have d : decide ((i : Int) ≤ (s.size : Int)) = true := by simp; omega
    have hleI : (i : Int) ≤ (s.size : Int) := by omega
    have hfiI : (fr : Int) ≤ (i : Int) := by omega
    have HX : Hid ((s.extract fr i).data.toList = (s.data.toList.drop fr).take (i - fr)) := ext_list s fr i
    have hxs : (s.extract fr i).size ≤ 140737488355328 := Nat.le_trans (ext_size_le s fr i) (by omega)
    have HNW := Lib.hid (number_walk (s.extract fr i) 4294967295 wr hxs (by omega))
    obtain ⟨⟨x, er⟩, hnr⟩ : ∃ g, numR (byts (s.extract fr i)) 4294967295 = g := ⟨_, rfl⟩
    have HNL : Hid (if er = 0 then numL ((s.data.toList.drop fr).take (i - fr)) = some x else numL ((s.data.toList.drop fr).take (i - fr)) = none) := by
      have hb : numR (bl ((s.data.toList.drop fr).take (i - fr))) 4294967295 = (x, er) := by rw [← HX.out]; exact hnr
      show if er = 0 then _ else _
      by_cases h0 : er = 0
      · rw [if_pos h0, numL_of (by rw [hb, h0])]
      · rw [if_neg h0, numL_none hb h0]
    rw [hnr] at HNW
    dsimp only at HNW
    clear hnr HX
    by_cases hlt : i < s.size
    case' pos =>
      have hltI : (i : Int) < (s.size : Int) := by omega
      obtain ⟨u, hu⟩ : ∃ u, s[i] = u := ⟨_, rfl⟩
      have HAT : Hid (s.data.toList[i]? = some u) := by show _ = _; rw [at_toList hlt, hu]
      obtain ⟨y, hy⟩ : ∃ y, (u.toNat : Int) = y := ⟨_, rfl⟩
      have hy44 : u = 44 ↔ y = 44 := by
        rw [← hy]
        constructor
        · intro h; rw [h]; rfl
        · intro h; exact UInt8.toNat_inj.1 (by show u.toNat = 44; omega)
      by_cases h44 : y = 44
      case neg =>
        have d2 : (y != 44) = true := by simp [h44]
        have HN : Hid (SEq s.data.toList (i + 1) fr l) := heq.out.char HAT.out (fun e => h44 (hy44.1 e))
        clear hy44 h44 HNW HNL heq
        go_wp2
        go_roundw
        case rel => exact ⟨i + 1, fr, m, l, by omega, by rw [HL.out]; omega, by omega, by go_num, rfl, HN, ho, hbw⟩
        case measure => simp [intOf] <;> omega
      have d2 : (y != 44) = false := by simp [h44]
      have HC : Hid (∀ c, s.data.toList[i]? = some c → c = 44) := fun c hc => by
        rw [HAT.out] at hc
        obtain rfl := Option.some.inj hc
        exact hy44.2 h44
      clear hy44 h44
    case' neg =>
      have hnl : ¬ (i : Int) < (s.size : Int) := by omega
      have d3 : decide ((i : Int) < (s.size : Int)) = false := by simp; omega
      have HC : Hid (∀ c, s.data.toList[i]? = some c → c = 44) := fun c hc => by
        have := (List.getElem?_eq_some_iff.1 hc).1
        rw [HL.out] at this
        omega
    all_goals
      by_cases h0 : er = 0
      case neg =>
        have HN := HNL.out
        rw [if_neg h0] at HN
        have HF : Hid (setF s.data.toList [] = none) := heq.out.bad (by rw [HL.out]; exact hle) HC.out HN
        have de : (er != 0) = true := by simp [h0]
        clear HN h0 HNL heq HC
        go_wp2_with fail
        refine HNW.out.mono ?_
        rintro e w1 ⟨rfl, rfl⟩
        go_wp2
        go_ret2
        rw [HF.out]
        exact ⟨_, _, _, rfl, Own.nil _ _ _ _, hbw.out⟩
      have HN := HNL.out
      rw [if_pos h0] at HN
      have HS : Hid (SEq s.data.toList (i + 1) (i + 1) (l ++ [x])) := heq.out.next (by rw [HL.out]; exact hle) HC.out HN
      obtain ⟨A5, c5, w5, hr5, ho5, hb5⟩ := push_int ho.out x rfl hbw.out.size (by omega)
      have HR5 := Lib.hid hr5
      have HO5 := Lib.hid ho5
      have HB5 := Lib.hid (hbw.out.trans hb5)
      subst h0
      clear HN HNL heq HC hr5 ho5 hb5 ho
      go_wp2_with fail
      refine HNW.out.mono ?_
      rintro e w1 ⟨rfl, rfl⟩
      go_wp2_with (at_builtin; refine wpList_append_run rfl _ _ _ rfl rfl rfl HR5.out ?_)
      go_roundw
      case rel => exact ⟨i + 1, i + 1, m + 1, l ++ [x], by omega, by rw [HL.out]; omega, by omega, by go_num, by go_num, HS, HO5, HB5⟩
      case measure => simp [intOf] <;> omega
end Go.Proofs.YteohdanlcaoaiaaDoor
