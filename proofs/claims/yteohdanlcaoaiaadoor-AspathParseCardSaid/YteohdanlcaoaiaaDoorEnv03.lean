/- What the package variables that the library reads hold; Decimal and the search in strings. -/
import Derived.Test.YteohdanlcaoaiaaDoorShelf03
import Derived.Test.YteohdanlcaoaiaaDoorBase
import Derived.WalkSmall
namespace Go.Proofs.YteohdanlcaoaiaaDoor
open Go.RowKit

theorem gTab : Tryd.prog.globalNamed "internal/strconv.uint64pow10" = some 1 := by kernel_rfl
/-- the two variables of the library that the statements reach -/
def Env (w : World) : Prop := Lib.TabIs Tryd.prog w "internal/strconv.uint64pow10" .u64 Lib.pow10Tab ∧ (∃ m, w.cell? ⟨0, 0, none⟩ = some (.int .i64 m)) ∧ 2 ≤ w.heap.size
theorem Env.below {w w' : World} (h : Env w) (hb : Below w.heap.size w w') : Env w' := by
  obtain ⟨h1, ⟨m, h2⟩, h3⟩ := h
  exact ⟨var?_below hb gTab (by omega) h1, ⟨m, (hb.cell (p := ⟨0, 0, none⟩) (by show 0 < _; omega)).trans h2⟩, by have := hb.size; omega⟩
theorem below_grow (w : World) (k : Nat) (os : Array Obj) : Below w.heap.size w (Sort.grow (w.drewN k) os) := by
  refine ⟨rfl, rfl, rfl, ?_, fun i hi => ?_⟩
  · show w.heap.size ≤ (w.heap ++ os).size
    rw [Array.size_append]
    omega
  · show (w.heap ++ os)[i]? = w.heap[i]?
    rw [Array.getElem?_append_left hi]
theorem decimal_any (n : Int) (h0 : -9223372036854775808 ≤ n) (h1 : n ≤ 9223372036854775807) (w : World) (henv : Env w) :
    Calls Tryd.prog 60 #[.int .i64 n] w fun e w' => e = .returned (.string ⟨(Lib.itoa n).toArray⟩) ∧ Below w.heap.size w w' := by
  have HC := Lib.hid (Tryd.strconv_Itoa n h0 h1 w henv.1)
  clear henv h0 h1
  go_enter Tryd.func60, Tryd.ntmps60
  go_wp2_with fail
  refine HC.out.mono ?_
  rintro e w1 ⟨rfl, k, os, rfl⟩
  have HB := Lib.hid (below_grow w k os)
  obtain ⟨W, hW⟩ : ∃ W, Sort.grow (w.drewN k) os = W := ⟨_, rfl⟩
  rw [hW] at HB ⊢
  clear hW
  go_wp2
  go_ret
  exact ⟨rfl, HB.out⟩
end Go.Proofs.YteohdanlcaoaiaaDoor
