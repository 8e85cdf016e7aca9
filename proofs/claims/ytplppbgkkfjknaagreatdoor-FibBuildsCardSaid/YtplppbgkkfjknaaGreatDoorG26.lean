/- What the rows of chapter 52 give the walks: the library's table; a world for the witness. -/
import Derived.Test.YtplppbgkkfjknaaGreatDoorRows
import Derived.Test.YtplppbgkkfjknaaGreatDoorG19
import Derived.Lib.LaidTab
import Derived.Stop.LaidErr
import Derived.MakeChecks
import Derived.LaidMore
import Derived.LaidHandle
import Derived.Shelf.Vars
import GoSem.PinnedTables
namespace Go.Proofs.YtplppbgkkfjknaaGreatDoor
open Go.RowKit

def L3 : List (String × DataW Unit) := [("math/bits.deBruijn32tab", Rows.laid_math_bits_deBruijn32tab), ("math/bits.deBruijn64tab", Rows.laid_math_bits_deBruijn64tab), ("internal/strconv.uint64pow10", Rows.laid_internal_strconv_uint64pow10)]
theorem gTabType : (Tryz.prog.globals[0]?).map (·.type) = some 197 := by kernel_rfl
theorem tabCells : Tryz.prog.cellsOf 197 = 20 := by kernel_rfl
theorem u64Cells : Tryz.prog.cellsOf 166 = 1 := by kernel_rfl
theorem pow_data : (Rows.laid_internal_strconv_uint64pow10 : DataW Unit) = Lib.tabData .u64 Lib.pow10Tab := by kernel_rfl
theorem env_of {W : World} (hL : laidMetH Tryz.prog L3 W) (_hsh : W.ShapedOpen Tryz.prog) : Env W := by
  rw [MakeChecks.laidMetH_plain _ _ _ (by kernel_rfl)] at hL
  have h3 := hL.tail.tail
  rw [pow_data] at h3
  have hT := Lib.tabIs_of_head gTab gTabType Tryz.underlying197 Tryz.underlying166 u64Cells tabCells h3
  have hc := hT.cell gTab 0 (by decide)
  exact ⟨hT, World.block_lt_of_cell? W ⟨0, 0, none⟩ hc⟩
noncomputable def laidWorld (os : Os) : World := World.doorLaid Tryz.prog 100 os
theorem laid_met (os : Os) (args : Array Value) : laidMetH Tryz.prog L3 ((laidWorld os).forCall (fun _ _ => 0) ⟨#[], args, []⟩).memory := by
  rw [MakeChecks.laidMetH_plain _ _ _ (by kernel_rfl)]
  exact laidMet_of_run' 8 (by kernel_rfl) (by kernel_rfl)
end Go.Proofs.YtplppbgkkfjknaaGreatDoor
