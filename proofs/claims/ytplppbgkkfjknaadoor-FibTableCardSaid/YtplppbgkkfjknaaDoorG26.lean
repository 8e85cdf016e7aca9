/- What the rows of chapter 52 give the walks: the library's table; a world for the witness. -/
import Derived.Test.YtplppbgkkfjknaaDoorRows
import Derived.Test.YtplppbgkkfjknaaDoorG19
import Derived.Lib.LaidTab
import Derived.Stop.LaidErr
import Derived.MakeChecks
import Derived.LaidMore
import Derived.LaidHandle
import Derived.Shelf.Vars
import GoSem.PinnedTables
namespace Go.Proofs.YtplppbgkkfjknaaDoor
open Go.RowKit

def L3 : List (String × DataW Unit) := [("math/bits.deBruijn32tab", Rows.laid_math_bits_deBruijn32tab), ("math/bits.deBruijn64tab", Rows.laid_math_bits_deBruijn64tab), ("internal/strconv.uint64pow10", Rows.laid_internal_strconv_uint64pow10)]
theorem gTabType : (Tryd.prog.globals[0]?).map (·.type) = some 180 := by kernel_rfl
theorem tabCells : Tryd.prog.cellsOf 180 = 20 := by kernel_rfl
theorem u64Cells : Tryd.prog.cellsOf 155 = 1 := by kernel_rfl
theorem pow_data : (Rows.laid_internal_strconv_uint64pow10 : DataW Unit) = Lib.tabData .u64 Lib.pow10Tab := by kernel_rfl
theorem env_of {W : World} (hL : laidMetH Tryd.prog L3 W) (_hsh : W.ShapedOpen Tryd.prog) : Env W := by
  rw [MakeChecks.laidMetH_plain _ _ _ (by kernel_rfl)] at hL
  have h3 := hL.tail.tail
  rw [pow_data] at h3
  have hT := Lib.tabIs_of_head gTab gTabType Tryd.underlying180 Tryd.underlying155 u64Cells tabCells h3
  have hc := hT.cell gTab 0 (by decide)
  exact ⟨hT, World.block_lt_of_cell? W ⟨0, 0, none⟩ hc⟩
noncomputable def laidWorld (os : Os) : World := World.doorLaid Tryd.prog 100 os
theorem laid_met (os : Os) (args : Array Value) : laidMetH Tryd.prog L3 ((laidWorld os).forCall (fun _ _ => 0) ⟨#[], args, []⟩).memory := by
  rw [MakeChecks.laidMetH_plain _ _ _ (by kernel_rfl)]
  exact laidMet_of_run' 8 (by kernel_rfl) (by kernel_rfl)
end Go.Proofs.YtplppbgkkfjknaaDoor
