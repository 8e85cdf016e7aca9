/- What the second form's bound gives. -/
import Derived.Test.YteohdanlcaoaiaaDoorRows
namespace Go.Proofs.YteohdanlcaoaiaaDoor

theorem bulk_le {H : Type} {l : List (DataW H)} (hk : Rows.uptoSmall H l = true) : Rows.uptoBulkAll l ≤ 1048576 := of_decide_eq_true hk
theorem str_bound {H : Type} {s : ByteArray} {r : List (DataW H)} (hk : Rows.uptoSmall H (DataW.lit (.string s.data.toList) :: r) = true) : s.size < 4294967281 := by
  have h := bulk_le hk
  simp only [Rows.uptoBulkAll, Rows.uptoBulk] at h
  have : s.data.toList.length = s.size := by rw [Array.length_toList]; rfl
  omega
end Go.Proofs.YteohdanlcaoaiaaDoor
