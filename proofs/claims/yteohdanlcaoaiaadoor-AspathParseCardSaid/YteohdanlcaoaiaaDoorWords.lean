/- Words. -/
import Derived.Test.YteohdanlcaoaiaaDoorEnv03
import Derived.Test.YteohdanlcaoaiaaDoorNumber
namespace Go.Proofs.YteohdanlcaoaiaaDoor
open Go.RowKit

def sp : ByteArray := ⟨#[32]⟩
/-- the pieces between the spaces -/
def pieces (s : ByteArray) : List ByteArray := Lib.splitB sp 0 (Lib.countB s sp) s
open Classical in
noncomputable def wordsR (s : ByteArray) : List ByteArray × Int :=
  if s.size = 0 then ([], 0) else if 0 ≤ Lib.indexByte s.data.toList 10 then ([], 2) else if ∃ p ∈ pieces s, p.size = 0 then ([], 2) else (pieces s, 0)
/-- a slice of strings -/
def Strs (w : World) (B : Nat) (A : Option Addr) (n c : Nat) (ps : List ByteArray) : Prop := Cells w B 1 A n c (ps.map Value.string)
section
variable {w w' : World} {B B' n c : Nat} {A : Option Addr} {ps : List ByteArray}
theorem Strs.below (h : Strs w B A n c ps) (hb : Below B w w') : Strs w' B A n c ps := Cells.below h hb
theorem Strs.more (h : Strs w B A n c ps) (hB : B ≤ B') : Strs w B' A n c ps := Cells.more h hB
theorem Strs.len (h : Strs w B A n c ps) : ps.length = n := by simpa using h.2.2.1
theorem Strs.nil : Strs w B none 0 0 [] := Cells.nil w B 1
theorem Strs.cell (h : Strs w B A n c ps) {j : Nat} (hj : j < n) : ∃ b o p, A = some ⟨b, o, none⟩ ∧ b < B ∧ w.cell? ⟨b, o + j, none⟩ = some (.string p) ∧ Hid (ps[j]? = some p) := by
  obtain ⟨b, o, e, hb, hc⟩ := h.2.2.2 (by omega)
  have hl := h.len
  refine ⟨b, o, ps[j]'(by omega), e, hb, ?_, List.getElem?_eq_getElem (by omega)⟩
  rw [hc j (by omega), List.getElem?_map, List.getElem?_eq_getElem (by omega)]
  rfl
end
def GivesStrs (q : List ByteArray × Int) (w : World) (e : Ending) (w' : World) : Prop := ∃ A n c, e = .returned (.tuple #[.slice A n c, .int .i64 q.2]) ∧ Strs w' w'.heap.size A n c q.1 ∧ Below w.heap.size w w'
theorem wordsR_nil {s : ByteArray} (h : s.size = 0) : wordsR s = ([], 0) := by unfold wordsR; rw [if_pos h]
theorem wordsR_lf {s : ByteArray} (h : ¬ s.size = 0) (h1 : 0 ≤ Lib.indexByte s.data.toList 10) : wordsR s = ([], 2) := by unfold wordsR; rw [if_neg h, if_pos h1]
theorem wordsR_gap {s : ByteArray} (h : ¬ s.size = 0) (h1 : ¬ 0 ≤ Lib.indexByte s.data.toList 10) {p : ByteArray} (hp : p ∈ pieces s) (h2 : p.size = 0) : wordsR s = ([], 2) := by unfold wordsR; rw [if_neg h, if_neg h1, if_pos ⟨p, hp, h2⟩]
theorem wordsR_ok {s : ByteArray} (h : ¬ s.size = 0) (h1 : ¬ 0 ≤ Lib.indexByte s.data.toList 10) (h2 : ∀ p ∈ pieces s, ¬ p.size = 0) : wordsR s = (pieces s, 0) := by
  unfold wordsR
  rw [if_neg h, if_neg h1, if_neg (fun ⟨p, hp, h0⟩ => h2 p hp h0)]
theorem strs_new (w : World) (N : Nat) (hN : N = w.heap.size) (ps : List ByteArray) (n : Nat) (hn : ps.length = n) (hm : n ≤ maxLen) (B : Nat) (hB : N < B) : Strs (w.alloc (.cells (ps.map Value.string).toArray 9)) B (some ⟨N, 0, none⟩) n n ps := by
  subst hN
  have h := Cells.of_own (World.ownsRow_lit (base := w.heap.size) (e := 9) (size := 1) w (ps.map Value.string).toArray n (Nat.le_refl _) hm (by simp [hn]))
  have h1 : Cells (w.alloc (.cells (ps.map Value.string).toArray 9)) (w.heap.size + 1) 1 (some ⟨w.heap.size, 0, none⟩) n n (ps.map Value.string) := by
    refine Cells.more ?_ (Nat.le_refl _)
    simpa using h
  exact Cells.more h1 (by omega)
set_option maxHeartbeats 1000000 in
theorem words_any (s : ByteArray) (w : World) (hs : s.size < 4294967281) (henv : Env w) :
    Calls Tryd.prog 53 #[.string s] w (GivesStrs (wordsR s) w) := by
  by_cases h0 : s.size = 0
  · have he : s.toList.isEmpty = true := by rw [isEmpty_size]; simp [h0]
    have HF := Lib.hid (wordsR_nil h0)
    clear h0 henv
    go_enter Tryd.func53, Tryd.ntmps53
    go_wp2
    go_ret2
    rw [HF.out]
    exact ⟨_, _, _, rfl, Strs.nil, Below.refl _ _⟩
  have he : s.toList.isEmpty = false := by rw [isEmpty_size]; simp [h0]
  have HC := Lib.hid (Tryd.strings_Contains_one s 10 w)
  by_cases h1 : 0 ≤ Lib.indexByte s.data.toList 10
  · have HF := Lib.hid (wordsR_lf h0 h1)
    rw [decide_eq_true h1] at HC
    clear h0 h1 henv
    go_enter Tryd.func53, Tryd.ntmps53
    go_wp2_with fail
    refine HC.out.mono ?_
    rintro e w1 ⟨rfl, rfl⟩
    go_wp2
    go_ret2
    rw [HF.out]
    exact ⟨_, _, _, rfl, Strs.nil, Below.refl _ _⟩
  rw [decide_eq_false h1] at HC
  obtain ⟨m, hm⟩ := henv.2.1
  have HSP := Lib.hid (Tryd.strings_Split s sp m w hs hm (by decide))
  have hlen := Lib.splitB_all sp (by decide) 0 _ s rfl
  have hle := Lib.countB_le sp (by decide) s.size s (Nat.le_refl _)
  obtain ⟨cnt, hcnt⟩ : ∃ cnt, Lib.countB s sp + 1 = cnt := ⟨_, rfl⟩
  have hps : Lib.splitB sp 0 (Lib.countB s sp) s = pieces s := rfl
  have hlen2 : (pieces s).length = cnt := by rw [← hcnt, ← hlen]; rfl
  rw [hcnt, hps] at HSP
  have hc1 : cnt ≤ 4294967282 := by omega
  have HF1 : Hid ((∀ p ∈ pieces s, ¬ p.size = 0) → wordsR s = (pieces s, 0)) := wordsR_ok h0 h1
  have HF2 : Hid (∀ p, p ∈ pieces s → p.size = 0 → wordsR s = ([], 2)) := fun p hp h2 => wordsR_gap h0 h1 hp h2
  have HST := Lib.hid (strs_new w w.heap.size rfl (pieces s) cnt hlen2 (by simp only [maxLen]; omega) (w.heap.size + 1) (by omega))
  have HB := Lib.hid ((Below.refl w.heap.size w).alloc (Nat.le_refl _) (.cells ((pieces s).map Value.string).toArray 9))
  have HL2 := Lib.hid hlen2
  obtain ⟨W, hW⟩ : ∃ W, w.alloc (.cells ((pieces s).map Value.string).toArray 9) = W := ⟨_, rfl⟩
  have HWS : Hid (W.heap.size = w.heap.size + 1) := by show _ = _; rw [← hW]; simp
  rw [hW] at HSP HST HB
  clear hW hlen2 hlen hle hcnt hps h0 h1 hm henv
  go_enter Tryd.func53, Tryd.ntmps53
  go_wp2_with fail
  refine HC.out.mono ?_
  rintro e w1 ⟨rfl, rfl⟩
  go_wp2_with fail
  refine HSP.out.mono ?_
  rintro e w1 ⟨rfl, rfl⟩
  go_wp2
  go_loop [15] (fun i => ∃ k : Nat, k ≤ cnt ∧ i = .int .i64 k ∧ Hid (∀ j p, j < k → (pieces s)[j]? = some p → ¬ p.size = 0)) (fun i => cnt - (intOf i).toNat)
  case atStart => exact ⟨0, Nat.zero_le _, rfl, fun j p hj => absurd hj (by omega)⟩
  case round =>
    obtain ⟨k, hk, rfl, hd⟩ := hrel
    by_cases hlt : k < cnt
    · obtain ⟨b, o, p, hA, hbB, hc, hp⟩ := HST.out.cell hlt
      by_cases hz : p.size = 0
      · have hpe : p.toList.isEmpty = true := by rw [isEmpty_size]; simp [hz]
        have HF := Lib.hid (HF2.out p (List.mem_of_getElem? hp.out) hz)
        simp only [Option.some.injEq, Addr.mk.injEq, and_true] at hA
        obtain ⟨rfl, rfl⟩ := hA
        rw [Nat.zero_add] at hc
        clear hz HF1 HF2
        go_wp2
        go_ret2
        rw [HF.out]
        exact ⟨_, _, _, rfl, Strs.nil, HB.out⟩
      · have hpe : p.toList.isEmpty = false := by rw [isEmpty_size]; simp [hz]
        have HN : Hid (∀ j p, j < k + 1 → (pieces s)[j]? = some p → ¬ p.size = 0) := by
          intro j q hj hq
          rcases Nat.lt_or_ge j k with h | h
          · exact hd.out j q h hq
          · obtain rfl : j = k := by omega
            rw [hp.out] at hq
            injection hq with hq
            subst hq
            exact hz
        simp only [Option.some.injEq, Addr.mk.injEq, and_true] at hA
        obtain ⟨rfl, rfl⟩ := hA
        rw [Nat.zero_add] at hc
        clear hz HF1 HF2
        go_wp2
        go_round
        case rel => exact ⟨k + 1, by omega, by go_num, HN⟩
        case measure => simp [intOf]; omega
    · obtain rfl : k = cnt := by omega
      have HF := Lib.hid (HF1.out (fun p hp => by
        obtain ⟨j, hj⟩ := List.getElem?_of_mem hp
        exact hd.out j p (by rw [← HL2.out]; exact (List.getElem?_eq_some_iff.1 hj).1) hj))
      clear HF1 HF2
      go_wp2
      go_ret2
      rw [HF.out]
      exact ⟨_, _, _, rfl, HST.out.more (Nat.le_of_eq HWS.out.symm), HB.out⟩
end Go.Proofs.YteohdanlcaoaiaaDoor
