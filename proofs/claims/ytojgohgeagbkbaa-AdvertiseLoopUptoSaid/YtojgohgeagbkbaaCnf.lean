/- The example's speaker. -/
import Derived.Test.YtojgohgeagbkbaaChg
namespace Go.Proofs.Ytojgohgeagbkbaa
open Go.RowKit

set_option linter.unusedVariables false
set_option linter.unusedSimpArgs false
def bs0 : ByteArray := ⟨#[]⟩
def pe1 : PeerV := ⟨1, 65002, 2, 7, false, 0, 0, bs0, bs0, false, false⟩
def pe2 (cl : Bool) : PeerV := ⟨3, 65001, 3, 8, cl, 0, 0, bs0, bs0, false, false⟩
def psX : List PeerV := [pe1, pe2 false, pe2 true, pe2 false]
def cfV (b : Nat) : List Value := [.int .i64 65001, .int .i64 0, .int .u32 9, .int .u32 0, .slice (some ⟨b, 0, none⟩) 4 4, .slice none 0 0, .slice none 0 0, .slice none 0 0, .slice none 0 0, .slice none 0 0, .int .i64 0, .int .i64 0, .int .i64 0, .int .i64 0, .int .i64 0]
set_option maxRecDepth 100000 in
set_option maxHeartbeats 4000000 in
theorem conf41x_any (w : World) : Calls Try.prog 30 #[] w fun e w' => ∃ b, e = .returned (.agg (cfV b).toArray) ∧ Peers w' w'.heap.size (some ⟨b, 0, none⟩) 4 4 psX ∧ Below w.heap.size w w' := by
  have hfin : ∀ W : World, W = (((w.alloc (.cells (cfV (w.heap.size + 1 + 1 + 1)).toArray 34)).alloc (.cells (pe2 false).vals.toArray 66)).alloc (.cells (pe2 true).vals.toArray 66)).alloc (.cells (psX.flatMap PeerV.vals).toArray 66) →
      Blk W w.heap.size 34 (cfV (w.heap.size + 1 + 1 + 1)) ∧ Peers W W.heap.size (some ⟨w.heap.size + 1 + 1 + 1, 0, none⟩) 4 4 psX ∧ Below w.heap.size w W := by
    rintro W rfl
    refine ⟨(((Blk.new w _ _).keep (belowA _ _)).keep (belowA _ _)).keep (belowA _ _), ⟨?_, rfl⟩, below3 (below3 (below3 (belowA _ _) (belowA _ _)) (belowA _ _)) (belowA _ _)⟩
    have h := Cells.of_own (World.ownsRow_lit (base := ((((w.alloc (.cells (cfV (w.heap.size + 1 + 1 + 1)).toArray 34)).alloc (.cells (pe2 false).vals.toArray 66)).alloc (.cells (pe2 true).vals.toArray 66)).heap.size)) (size := 11) (((w.alloc (.cells (cfV (w.heap.size + 1 + 1 + 1)).toArray 34)).alloc (.cells (pe2 false).vals.toArray 66)).alloc (.cells (pe2 true).vals.toArray 66)) (psX.flatMap PeerV.vals).toArray 4 (e := 66) (Nat.le_refl _) (by simp [maxLen]) rfl)
    simp only [World.size_alloc] at h ⊢
    exact h
  have HFIN := Lib.hid hfin
  clear hfin
  go_enter Try.func30, Try.ntmps30
  go_wp2
  refine bodyPost_ret (results_cell_row rfl _ _ w.heap.size _ _ (0, 0) _ rfl (HFIN.out _ rfl).1 Try.underlying34 rfl (by kernel_rfl)) rfl ⟨_, rfl, (HFIN.out _ rfl).2⟩
end Go.Proofs.Ytojgohgeagbkbaa
