/- Cuts of paths. -/
import Derived.Test.YtojgohgeagbkbaaCuts
namespace Go.Proofs.Ytojgohgeagbkbaa
open Go.RowKit

theorem flat_takeR {α : Type} {f : α → List Value} {size : Nat} (hf : ∀ r, (f r).length = size) : ∀ (rs : List α) (k : Nat), (rs.flatMap f).take (k * size) = (rs.take k).flatMap f
  | [], k => by simp
  | x :: rs, 0 => by simp
  | x :: rs, k + 1 => by
    rw [List.flatMap_cons, List.take_succ_cons, List.flatMap_cons, Nat.add_mul, Nat.one_mul, Nat.add_comm, List.take_append, hf, Nat.add_sub_cancel_left, List.take_of_length_le (by rw [hf]; omega), flat_takeR hf rs k]
theorem flat_dropR {α : Type} {f : α → List Value} {size : Nat} (hf : ∀ r, (f r).length = size) : ∀ (rs : List α) (k : Nat), (rs.flatMap f).drop (k * size) = (rs.drop k).flatMap f
  | [], k => by simp
  | x :: rs, 0 => by simp
  | x :: rs, k + 1 => by
    rw [List.flatMap_cons, List.drop_succ_cons, Nat.add_mul, Nat.one_mul, Nat.add_comm, List.drop_append, hf, Nat.add_sub_cancel_left, List.drop_of_length_le (by rw [hf]; omega), List.nil_append, flat_dropR hf rs k]
section
variable {P : Program} {T E : TypeId} {w : World} {B n c : Nat} {A : Option Addr} {p : Path}
theorem Segs.sliceTo (hT : P.underlying T = some (.slice E)) (hE : (P.info? E).map (fun i => i.size) = some 2) (h : Segs w B A n c p) {hi : Nat} (h2 : hi ≤ n) :
    ∃ A' c', (∀ w' : World, (Instr.slice T (.slice A n c) none (some (.int .i64 hi)) none).run P w' = .ok (.slice A' hi c') w') ∧ Segs w B A' hi c' (p.take hi) := by
  obtain ⟨fs, ⟨h1, hl⟩, h3, h4⟩ := h
  obtain ⟨A', c', hs, hy⟩ := Cells.sliceTo hT hE h1 h2
  rw [flat_takeR SV.vals_len] at hy
  exact ⟨A', c', hs, fs.take hi, ⟨hy, by rw [List.length_take]; omega⟩, by rw [List.map_take, h3], fun t ht => h4 t (List.mem_of_mem_take ht)⟩
theorem Segs.sliceFrom (hT : P.underlying T = some (.slice E)) (hE : (P.info? E).map (fun i => i.size) = some 2) (h : Segs w B A n c p) {lo : Nat} (h2 : lo ≤ n) :
    ∃ A' c', (∀ w' : World, (Instr.slice T (.slice A n c) (some (.int .i64 lo)) none none).run P w' = .ok (.slice A' (n - lo) c') w') ∧ Segs w B A' (n - lo) c' (p.drop lo) := by
  obtain ⟨fs, ⟨h1, hl⟩, h3, h4⟩ := h
  obtain ⟨A', c', hs, hy⟩ := Cells.sliceFrom hT hE h1 h2
  rw [flat_dropR SV.vals_len] at hy
  exact ⟨A', c', hs, fs.drop lo, ⟨hy, by rw [List.length_drop]; omega⟩, by rw [List.map_drop, h3], fun t ht => h4 t (List.mem_of_mem_drop ht)⟩
end
end Go.Proofs.Ytojgohgeagbkbaa
