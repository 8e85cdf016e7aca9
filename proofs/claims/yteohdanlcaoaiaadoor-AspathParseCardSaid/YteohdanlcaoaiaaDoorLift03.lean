/- What the rows of chapter 03 give the walks: the library's table and variable; a world for the witness. -/
import Derived.Test.YteohdanlcaoaiaaDoorRows
import Derived.Test.YteohdanlcaoaiaaDoorEnv03
import Derived.Lib.LaidTab
import Derived.Stop.LaidErr
import Derived.MakeChecks
import Derived.LaidMore
import Derived.LaidHandle
import Derived.Shelf.Vars
import GoSem.PinnedTables
namespace Go.Proofs.YteohdanlcaoaiaaDoor
open Go.RowKit

def L5 : List (String × DataW Unit) := [("math/bits.deBruijn32tab", Rows.laid_math_bits_deBruijn32tab), ("math/bits.deBruijn64tab", Rows.laid_math_bits_deBruijn64tab), ("internal/strconv.uint64pow10", Rows.laid_internal_strconv_uint64pow10), ("unicode/utf8.acceptRanges", Rows.laid_unicode_utf8_acceptRanges), ("unicode/utf8.first", Rows.laid_unicode_utf8_first)]
theorem gTabType : (Tryd.prog.globals[1]?).map (·.type) = some 97 := by kernel_rfl
theorem tabCells : Tryd.prog.cellsOf 97 = 20 := by kernel_rfl
theorem u64Cells : Tryd.prog.cellsOf 76 = 1 := by kernel_rfl
theorem pow_data : (Rows.laid_internal_strconv_uint64pow10 : DataW Unit) = Lib.tabData .u64 Lib.pow10Tab := by kernel_rfl
theorem env_of {W : World} (hL : laidMetH Tryd.prog L5 W) (hsh : W.ShapedOpen Tryd.prog) : Env W := by
  rw [MakeChecks.laidMetH_plain _ _ _ (by kernel_rfl)] at hL
  have h3 := hL.tail.tail
  rw [pow_data] at h3
  have hT := Lib.tabIs_of_head gTab gTabType Tryd.underlying97 Tryd.underlying76 u64Cells tabCells h3
  obtain ⟨m, hm⟩ := cell_of_shapedOpen_int (g := 0) (t := 3) (zero := #[.int .i64 0]) (k := .i64) hsh (of_decide_eq_true (by kernel_rfl)) (by kernel_rfl) rfl (by kernel_rfl) (by kernel_rfl) Tryd.underlying3
  have hc := hT.cell gTab 0 (by decide)
  exact ⟨hT, ⟨m, hm⟩, World.block_lt_of_cell? W ⟨1, 0, none⟩ hc⟩
/-- the door's heap, the pinned table laid in its block -/
noncomputable def laidWorld (os : Os) : World :=
  { World.doorLaid Tryd.prog 34 os with heap := (World.doorLaid Tryd.prog 34 os).heap.modify 2 fun
      | .cells _ t frozen => .cells (Pinned.utf8FirstZ.map fun (n : Nat) => Value.int .u8 n).toArray t frozen
      | o => o }
theorem laid_met (os : Os) (args : Array Value) : laidMetH Tryd.prog L5 ((laidWorld os).forCall (fun _ _ => 0) ⟨#[], args, []⟩).memory := by
  rw [MakeChecks.laidMetH_plain _ _ _ (by kernel_rfl)]
  exact laidMet_of_run' 8 (by kernel_rfl) (by kernel_rfl)
end Go.Proofs.YteohdanlcaoaiaaDoor
