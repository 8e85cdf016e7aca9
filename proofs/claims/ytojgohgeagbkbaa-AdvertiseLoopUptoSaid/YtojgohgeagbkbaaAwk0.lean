/- The example of the chapter, plain. -/
import Derived.Test.YtojgohgeagbkbaaCnf
import Derived.Test.YtojgohgeagbkbaaAcc
namespace Go.Proofs.Ytojgohgeagbkbaa
open Go.RowKit

set_option linter.unusedVariables false
set_option linter.unusedSimpArgs false
def attA : Att := ⟨0, [(2, [65002])], 1, true, 5, false, 0, false, false, 0, 0, [], false, 0, [], []⟩
def attX : Att := ⟨0, [(2, [65001, 65002])], 7, false, 0, false, 0, false, false, 0, 0, [], false, 0, [], []⟩
def attY : Att := ⟨0, [(2, [65002])], 1, true, 5, true, 100, false, false, 0, 0, [], true, 4, [9], []⟩
def attZ : Att := ⟨0, [(2, [7, 65002])], 1, true, 5, true, 300, false, false, 0, 0, [], false, 0, [], []⟩
def rtV (b : Nat) : List Value := [.int .u32 0, .int .i64 0, .int .i64 0, .slice (some ⟨b, 0, none⟩) 1 1, .int .u32 1, .bool true, .int .i64 5, .bool false, .int .i64 0, .bool false, .bool false, .int .i64 0, .int .u32 0, .slice none 0 0, .bool false, .int .u32 0, .slice none 0 0, .slice none 0 0, .int .i64 1, .int .i64 3, .int .u32 4, .bool false]
def atV (b : Nat) : List Value := [.int .i64 0, .slice (some ⟨b, 0, none⟩) 1 1, .int .u32 1, .bool true, .int .i64 5, .bool false, .int .i64 0, .bool false, .bool false, .int .i64 0, .int .u32 0, .slice none 0 0, .bool false, .int .u32 0, .slice none 0 0, .slice none 0 0]
theorem ex_attrs0 : attrsR 0 psX 65001 0 9 0 1 3 4 attA = (attX, 0) := by kernel_rfl
theorem ex_attrs2 : attrsR 2 psX 65001 0 9 0 1 3 4 attA = (attY, 0) := by kernel_rfl
theorem ex_attrs3 : attrsR 3 psX 65001 0 9 0 1 3 4 attA = (zeroAtt, 18) := by kernel_rfl
theorem ex_changed : changedR attA [65002] 100 5 [7, 65002] [] 1 300 5 = (attZ, 0) := by kernel_rfl
theorem ex_acc0 : acceptR 0 psX 65001 0 9 0 attA = 0 := by kernel_rfl
theorem ex_acc1 : acceptR 0 psX 65001 0 9 0 attX = 14 := by kernel_rfl
theorem ex_acc2 : acceptR 1 psX 65001 0 9 0 attX = 10 := by kernel_rfl
theorem ex_may1 : mayR 1 psX 1 3 [] = false := by kernel_rfl
theorem ex_may0 : mayR 0 psX 1 3 [] = true := by kernel_rfl
end Go.Proofs.Ytojgohgeagbkbaa
