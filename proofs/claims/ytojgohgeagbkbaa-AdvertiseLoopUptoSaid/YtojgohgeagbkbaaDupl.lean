/- advertise.duplicate: numbers in new memory, after first ones. -/
import Derived.Test.YtojgohgeagbkbaaCopy
import Derived.Laws.CopyOwn
namespace Go.Proofs.Ytojgohgeagbkbaa
open Go.RowKit

theorem made_u32 (n : Nat) : (madeCells (Value.int .u32 0).cells (n * 1)).toList = List.replicate n (.int .u32 0) := by
  apply List.ext_getElem
  · simp [madeCells]
  · intro i h1 h2
    simp [madeCells, Value.cells, Nat.mod_one]
theorem cells_src {w : World} {B n c : Nat} {k : IntKind} {A : Option Addr} {xs : List Int} (h : Ints w B k A n c xs) (hn : 0 < n) : ∃ ad, A = some ad ∧ ∀ j v, (xs.map (Value.int k))[j]? = some v → w.cell? (ad.add j) = some v := by
  obtain ⟨b, o, e, hb, hc⟩ := h.2.2.2 hn
  have hl := h.len
  refine ⟨_, e, fun j v hv => ?_⟩
  have hj : j < n * 1 := by
    have := (List.getElem?_eq_some_iff.1 hv).1
    simp at this
    omega
  rw [← hv, ← hc j hj]
  by_cases h0 : j = 0 <;> simp [Addr.add, h0]
/-- the run of a copy into a block of the call's own -/
theorem copy_run {P : Program} {w : World} {T e ty et : TypeId} (hT : P.underlying T = some (.slice e)) (hE : (P.info? e).map (fun i => i.size) = some 1) {B g off m d dLen dCap : Nat} {k : IntKind} {F dp : Option Addr} {fs : List Int} {cur : List Value}
    (hg : Blk w g et cur) (hf : Ints w B k F m d fs) (hd : 0 < m → dp = some ⟨g, off, none⟩) (hm : m ≤ dLen) (hfit : off + m ≤ cur.length) :
    ∃ w', (Builtin.copy_ #[T, T] ty #[.slice dp dLen dCap, .slice F m d]).run P w = .ok (goInt m) w' ∧ Blk w' g et (splice cur off (fs.map (Value.int k))) ∧ Save g w w' := by
  have hl : (fs.map (Value.int k)).length = m := by rw [List.length_map]; exact hf.len
  by_cases h0 : m = 0
  · have hn : fs.map (Value.int k) = [] := List.eq_nil_of_length_eq_zero (by omega)
    refine ⟨w, ?_, ?_, Save.refl _ _⟩
    · rw [h0]
      exact run_copy_none (P := P) w T T ty e dp F dLen dCap 0 d hT hE (by simp)
    · rw [hn]
      simpa [splice] using hg
  · obtain ⟨ad, rfl, hc⟩ := cells_src hf (by omega)
    rw [hd (by omega)]
    refine ⟨_, by
      have := run_copy_row (P := P) w T T ty e g off dLen dCap ad m d cur.toArray et (fs.map (Value.int k)) hT hE hg (by rw [hl]; exact (Nat.min_eq_left hm).symm) hc (by simpa using (show off + (fs.map (Value.int k)).length ≤ cur.length by omega)) (ints_oneCell k fs)
      rw [hl] at this
      exact this, ?_, ?_⟩
    · have := setRow_heap w g _ ((cur.toArray.toList.take off ++ fs.map (Value.int k) ++ cur.toArray.toList.drop (off + m)).toArray) et _ hg
      unfold Blk
      rw [this]
      simp [splice, hl]
    · exact ⟨rfl, rfl, rfl, by simp [World.setRow], fun q hq hn => setRow_other w g q _ hn⟩
theorem slice_from {P : Program} {T E : TypeId} (hT : P.underlying T = some (.slice E)) (hE : (P.info? E).map (fun i => i.size) = some 1) (g n c lo : Nat) (h1 : lo ≤ n) (h2 : n ≤ c) :
    ∃ A' c', (∀ w' : World, (Instr.slice T (.slice (some ⟨g, 0, none⟩) n c) (some (.int .i64 lo)) none none).run P w' = .ok (.slice A' (n - lo) c') w') ∧ (0 < n - lo → A' = some ⟨g, lo, none⟩) := by
  obtain ⟨i, hi', hs⟩ : ∃ i, P.info? E = some i ∧ i.size = 1 := by
    cases h : P.info? E with
    | none => rw [h] at hE; cases hE
    | some i => rw [h] at hE; exact ⟨i, rfl, by simpa using hE⟩
  refine ⟨if c = lo then some ⟨g, 0, none⟩ else (some (⟨g, 0, none⟩ : Addr)).map (·.add lo), c - lo, fun w' => ?_, fun hn => ?_⟩
  · have e1 : (0 : Int) ≤ (lo : Int) := by omega
    have e2 : (lo : Int) ≤ (n : Int) := by omega
    simp [Instr.slice, run_underlying hT, Instr.sliceBounds, run_sliceBound, e1, e2, sizeOf, typeInfo, hi', hs]
  · rw [if_neg (by omega)]
    by_cases h0 : lo = 0 <;> simp [Addr.add, h0]
set_option maxRecDepth 100000 in
set_option maxHeartbeats 1000000 in
theorem dupl_any (A F : Option Addr) (n c m d B : Nat) (xs fs : List Int) (w : World) (hx : Ints w B .u32 A n c xs) (hf : Ints w B .u32 F m d fs) (hB : B ≤ w.heap.size) (hn : n ≤ 1000000000) (hm : m ≤ 1000000000) :
    Calls Try.prog 44 #[.slice A n c, .slice F m d] w (GivesNew .u32 (m + n) (fs ++ xs) w) := by
  obtain ⟨i0, hi0, hz0, hs0, hb0⟩ := info_parts u32_info
  have hsz : (Try.prog.info? 22).map (·.size) = some 1 := by rw [hi0]; simpa using hs0
  have hmk := run_make (P := Try.prog) w 37 22 i0 (.int .u32 0) Try.underlying37 hi0 hz0 .i64 .i64 ((m : Int) + (n : Int)) ((m : Int) + (n : Int)) (by omega) (by omega) (by rw [hb0]; omega) (by omega)
  have et : ((m : Int) + (n : Int)).toNat = m + n := by omega
  rw [et, hs0] at hmk
  have hba := belowA w (.cells (madeCells (Value.int .u32 0).cells ((m + n) * 1)) 22)
  have hbk : Blk (w.alloc (.cells (madeCells (Value.int .u32 0).cells ((m + n) * 1)) 22)) w.heap.size 22 (List.replicate (m + n) (.int .u32 0)) := by
    have := Blk.new w 22 (madeCells (Value.int .u32 0).cells ((m + n) * 1))
    rw [made_u32] at this
    exact this
  obtain ⟨W1, hW1⟩ : ∃ W, w.alloc (.cells (madeCells (Value.int .u32 0).cells ((m + n) * 1)) 22) = W := ⟨_, rfl⟩
  rw [hW1] at hmk hba hbk
  clear hW1
  obtain ⟨A2, c2, hsl, hA2⟩ := slice_from (P := Try.prog) Try.underlying37 hsz w.heap.size (m + n) (m + n) m (by omega) (Nat.le_refl _)
  have ed : m + n - m = n := by omega
  rw [ed] at hsl hA2
  obtain ⟨W2, hc1, hk2, hs2⟩ := copy_run (P := Try.prog) (ty := 3) (off := 0) (dLen := m + n) (dCap := m + n) Try.underlying37 hsz hbk (hf.below (hba.mono hB)) (fun _ => rfl) (by omega) (by simp)
  have hx2 : Ints W2 B .u32 A n c xs := ints_low (hx.below (hba.mono hB)) hs2 hB hba.size
  obtain ⟨W3, hc2, hk3, hs3⟩ := copy_run (P := Try.prog) (ty := 3) (dLen := n) (dCap := c2) Try.underlying37 hsz hk2 hx2 hA2 (Nat.le_refl _) (by rw [length_splice]; simp; rw [List.length_map, hf.len]; simp)
  have HB : Hid (Below w.heap.size w W3) := hba.trans ((hs2.trans hs3).below (Nat.le_refl _) hba.size)
  have HK : Hid (Blk W3 w.heap.size 22 ((fs ++ xs).map (Value.int .u32))) := by
    show Blk _ _ _ _
    have e : splice (splice (List.replicate (m + n) (Value.int .u32 0)) 0 (fs.map (Value.int .u32))) m (xs.map (Value.int .u32)) = (fs ++ xs).map (Value.int .u32) := by
      have h1 : (fs.map (Value.int .u32)).length = m := by rw [List.length_map]; exact hf.len
      have h2 : (xs.map (Value.int .u32)).length = n := by rw [List.length_map]; exact hx.len
      simp only [splice, List.take_zero, List.nil_append, Nat.zero_add, h1, h2, List.map_append]
      rw [List.take_left' h1, List.drop_eq_nil_of_le (by simp [h1])]
      simp
    rw [← e]
    exact hk3
  have hl : (fs ++ xs).length = m + n := by rw [List.length_append, hf.len, hx.len]
  have HL := Lib.hid hl
  have hlt : w.heap.size < W3.heap.size := hk3.lt
  have p1 : (0 : Int) ≤ (m : Int) := by omega
  have gm : goInt m = .int .i64 (m : Int) := rfl
  have gn : goInt n = .int .i64 (n : Int) := rfl
  rw [gm] at hc1
  rw [gn] at hc2
  clear hba hbk hx hf hi0 hz0 hs0 hb0 et ed hsz hk2 hs2 hx2 hk3 hs3 hA2 gm gn hl
  go_enter Try.func44, Try.ntmps44
  go_wp2
  go_ret
  refine ⟨some ⟨w.heap.size, 0, none⟩, m + n, rfl, ⟨Nat.le_refl _, by simp only [maxLen]; omega, by rw [List.length_map]; rw [HL.out]; omega, fun _ => ⟨w.heap.size, 0, rfl, hlt, fun j _ => ?_⟩⟩, fun _ ad ha => ?_, HB.out⟩
  · rw [Nat.zero_add, HK.out.cell j]
  · injection ha with ha
    rw [← ha]
    exact Nat.le_refl _
end Go.Proofs.Ytojgohgeagbkbaa
