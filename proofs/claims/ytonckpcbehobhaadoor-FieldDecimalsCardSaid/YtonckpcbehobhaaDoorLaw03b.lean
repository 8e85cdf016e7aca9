/- FieldDecimals: the walk. -/
import Derived.Test.YtonckpcbehobhaaDoorAwake03
import Derived.Test.YtonckpcbehobhaaDoorRefNumber
import Derived.Test.YtonckpcbehobhaaDoorDigits
import Derived.Test.YtonckpcbehobhaaDoorOpen
namespace Go.Proofs.YtonckpcbehobhaaDoor
open Go.RowKit

set_option maxRecDepth 100000 in
set_option maxHeartbeats 2000000 in
theorem fieldDecimals_walk (s : ByteArray) (n most : Int) (w : World) (hs : s.size ≤ 140737488351232) (hn : (Lit.int .i64 n).wf = true) (hm : (Lit.int .i64 most).wf = true) (henv : Env w) :
    Calls Tryd.prog 4 #[.string s, .int .i64 n, .int .i64 most] w fun e w' => e = .returned (.bool true) ∧ Below w.heap.size w w' := by
  have HENV := Lib.hid henv
  have HN := Lib.hid (bounds_i64 hn)
  have HM := bounds_i64 hm
  have H1 := Lib.hid (number_walk s most w (by omega) HM)
  have H2 := Lib.hid (refNumber_walk s most w (by omega) HM)
  obtain ⟨⟨v, e0⟩, hv⟩ : ∃ g, numR (byts s) most = g := ⟨_, rfl⟩
  rw [hv] at H1 H2
  clear henv hn hm hv HM
  go_enter Tryd.func4, Tryd.ntmps4
  go_wp2_with fail
  refine H1.out.mono ?_
  rintro e w1 ⟨rfl, rfl⟩
  go_wp2_with fail
  refine H2.out.mono ?_
  rintro e w1 ⟨rfl, rfl⟩
  go_wp2_with fail
  refine (awake_any _ HENV.out).mono ?_
  rintro e w1 ⟨rfl, hb1⟩
  have HB1 := Lib.hid hb1
  clear hb1 H1 H2
  go_wp2_with fail
  refine (decimal_any n HN.out.1 HN.out.2 w1 (HENV.out.below HB1.out)).mono ?_
  rintro e w2 ⟨rfl, hb2⟩
  have HB2 := Lib.hid (below3 HB1.out hb2)
  clear hb2
  obtain ⟨t, ht⟩ : ∃ t : ByteArray, (⟨(Lib.itoa n).toArray⟩ : ByteArray) = t := ⟨_, rfl⟩
  have HT := Lib.hid ht
  rw [ht]
  clear ht
  go_wp2_with fail
  refine (refDecimal_any n w2 HN.out.1 HN.out.2).mono ?_
  rintro e w3 ⟨rfl, hb3⟩
  have HB3 := Lib.hid (below3 HB2.out hb3)
  rw [HT.out]
  clear hb3
  go_wp2
  go_ret
  exact ⟨by simp, HB3.out⟩
end Go.Proofs.YtonckpcbehobhaaDoor
