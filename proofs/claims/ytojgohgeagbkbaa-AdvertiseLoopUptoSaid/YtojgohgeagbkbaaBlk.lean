/- A block that is known whole (a boxed struct); what keeps it; worlds that keep all blocks but one. -/
import Derived.Test.YtojgohgeagbkbaaSegs
import Derived.BigRegion
namespace Go.Proofs.Ytojgohgeagbkbaa
open Go.RowKit

theorem heap_lt {w : World} {k : Nat} {o : Obj} (h : w.heap[k]? = some o) : k < w.heap.size := (Array.getElem?_eq_some_iff.1 h).1
/-- block b holds the cells cs -/
def Blk (w : World) (b : Nat) (T : TypeId) (cs : List Value) : Prop := w.heap[b]? = some (.cells cs.toArray T (0, 0))
section
variable {w w' : World} {b : Nat} {T : TypeId} {cs : List Value}
theorem Blk.new (w : World) (T : TypeId) (cs : Array Value) : Blk (w.alloc (.cells cs T)) w.heap.size T cs.toList := by
  unfold Blk
  rw [Array.toArray_toList]
  show (w.heap.push _)[w.heap.size]? = _
  simp
theorem Blk.lt (h : Blk w b T cs) : b < w.heap.size := heap_lt h
theorem Blk.cell (h : Blk w b T cs) (i : Nat) : w.cell? ⟨b, i, none⟩ = cs[i]? := by
  rw [cell_of_row w b i _ _ _ h]
  simp
theorem Blk.frozen (h : Blk w b T cs) (i : Nat) : w.frozen? ⟨b, i, none⟩ = false := frozen_of_row w b i _ _ h
theorem Blk.keep (h : Blk w b T cs) (hb : Below w.heap.size w w') : Blk w' b T cs := by
  unfold Blk at h ⊢
  rw [hb.block b (heap_lt h)]
  exact h
theorem Blk.below {B : Nat} (h : Blk w b T cs) (hb : Below B w w') (hB : b < B) : Blk w' b T cs := by
  unfold Blk at h ⊢
  rw [hb.block b hB]
  exact h
theorem Blk.set (h : Blk w b T cs) (i : Nat) (v : Value) : Blk (w.setCell ⟨b, i, none⟩ v) b T (cs.set i v) := by
  unfold Blk at h ⊢
  rw [heap_setCell_same w b i _ _ _ h]
  simp
theorem Blk.other {g i : Nat} {v : Value} (h : Blk w b T cs) (hne : b ≠ g) : Blk (w.setCell ⟨g, i, none⟩ v) b T cs := by
  unfold Blk at h ⊢
  rw [heap_setCell_other w _ b v hne]
  exact h
end
/-- all but one block is kept -/
structure Save (g : Nat) (w w' : World) : Prop where
  os : w'.os = w.os
  tape : w'.tape = w.tape
  output : w'.output = w.output
  size : w.heap.size ≤ w'.heap.size
  block : ∀ k, k < w.heap.size → k ≠ g → w'.heap[k]? = w.heap[k]?
theorem Save.refl (g : Nat) (w : World) : Save g w w := ⟨rfl, rfl, rfl, Nat.le_refl _, fun _ _ _ => rfl⟩
theorem Save.trans {g : Nat} {a b c : World} (h : Save g a b) (k : Save g b c) : Save g a c :=
  ⟨k.os.trans h.os, k.tape.trans h.tape, k.output.trans h.output, Nat.le_trans h.size k.size, fun i hi hn => (k.block i (Nat.lt_of_lt_of_le hi h.size) hn).trans (h.block i hi hn)⟩
theorem Save.of {g : Nat} {w w' : World} (h : Below w.heap.size w w') : Save g w w' := ⟨h.os, h.tape, h.output, h.size, fun k hk _ => h.block k hk⟩
theorem Save.below {g B : Nat} {w w' : World} (h : Save g w w') (hg : B ≤ g) (hB : B ≤ w.heap.size) : Below B w w' := ⟨h.os, h.tape, h.output, h.size, fun k hk => h.block k (by omega) (by omega)⟩
theorem Save.set {g i : Nat} {w : World} {v : Value} : Save g w (w.setCell ⟨g, i, none⟩ v) :=
  ⟨by unfold World.setCell; split <;> rfl, by unfold World.setCell; split <;> rfl, by unfold World.setCell; split <;> rfl, by rw [World.size_setCell]; exact Nat.le_refl _, fun k hk hn => heap_setCell_other w _ k v hn⟩
theorem Save.drew {g : Nat} {w : World} : Save g w w.drew := Save.of (Below.refl _ _).drew
theorem Blk.save {w w' : World} {b g : Nat} {T : TypeId} {cs : List Value} (h : Blk w b T cs) (hs : Save g w w') (hne : b ≠ g) : Blk w' b T cs := by
  unfold Blk at h ⊢
  rw [hs.block b (heap_lt h) hne]
  exact h
theorem row_save {w w' : World} {g base size n : Nat} {e : TypeId} {v : Value} {xs : List Value} (h : w.ownsRow base e size v n xs) (hb : Save g w w') (hg : v.ownBlock ≠ some g) : w'.ownsRow base e size v n xs := by
  refine ⟨h.1, ?_⟩
  rcases h.2 with h2 | ⟨q, cap, cur, hv, hq, hh, r⟩
  · exact .inl h2
  · refine .inr ⟨q, cap, cur, hv, hq, ?_, r⟩
    rw [hb.block q (heap_lt hh) (fun e => hg (by rw [hv, e]; rfl))]
    exact hh
theorem cells_save {w w' : World} {g B size n c : Nat} {A : Option Addr} {vs : List Value} (h : Cells w B size A n c vs) (hb : Save g w w') (hB : B ≤ w.heap.size) (hf : 0 < n → ∀ ad, A = some ad → ad.block ≠ g) : Cells w' B size A n c vs := by
  refine ⟨h.1, h.2.1, h.2.2.1, fun hn => ?_⟩
  obtain ⟨b, o, e, hbb, hc⟩ := h.2.2.2 hn
  have hne : b ≠ g := hf (by omega) _ e
  refine ⟨b, o, e, hbb, fun j hj => ?_⟩
  rw [← hc j hj]
  have := hb.block b (Nat.lt_of_lt_of_le hbb hB) hne
  simp only [World.cell?, this]
theorem ints_save {w w' : World} {g B n c : Nat} {k : IntKind} {A : Option Addr} {xs : List Int} (h : Ints w B k A n c xs) (hb : Save g w w') (hB : B ≤ w.heap.size) (hf : 0 < n → ∀ ad, A = some ad → ad.block ≠ g) : Ints w' B k A n c xs := cells_save h hb hB hf
/-- what lies below the block that is written reads as before -/
theorem ints_low {w w' : World} {g B n c : Nat} {k : IntKind} {A : Option Addr} {xs : List Int} (h : Ints w B k A n c xs) (hb : Save g w w') (hB : B ≤ g) (hg : g ≤ w.heap.size) : Ints w' B k A n c xs :=
  h.below ((hb.below (Nat.le_refl g) hg).mono hB)
theorem segs_low {w w' : World} {g B n c : Nat} {A : Option Addr} {p : Path} (h : Segs w B A n c p) (hb : Save g w w') (hB : B ≤ g) (hg : g ≤ w.heap.size) : Segs w' B A n c p :=
  h.below ((hb.below (Nat.le_refl g) hg).mono hB)
end Go.Proofs.Ytojgohgeagbkbaa
