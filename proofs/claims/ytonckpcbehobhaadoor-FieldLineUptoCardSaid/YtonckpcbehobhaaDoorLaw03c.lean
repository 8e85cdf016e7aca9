/- FieldWords: the walk. -/
import Derived.Test.YtonckpcbehobhaaDoorAwake03
import Derived.Test.YtonckpcbehobhaaDoorRefWords
import Derived.Test.YtonckpcbehobhaaDoorOpen
import Derived.Test.YtonckpcbehobhaaDoorBound03
namespace Go.Proofs.YtonckpcbehobhaaDoor
open Go.RowKit

theorem wordsR_len (s : ByteArray) : (wordsR s).1.length ≤ s.size + 1 := by
  unfold wordsR
  split
  · simp
  · split
    · simp
    · split
      · simp
      · show (pieces s).length ≤ _
        have hlen := Lib.splitB_all sp (by decide) 0 _ s rfl
        have hle := Lib.countB_le sp (by decide) s.size s (Nat.le_refl _)
        unfold pieces
        rw [hlen]
        omega
set_option maxRecDepth 100000 in
set_option maxHeartbeats 2000000 in
theorem fieldWords_walk (s : ByteArray) (w : World) (_hs : s.size ≤ 140737488351232) (hb : s.size < 4294967281) (henv : Env w) :
    Calls Tryd.prog 5 #[.string s] w fun e w' => e = .returned (.bool true) ∧ Below w.heap.size w w' := by
  have HENV := Lib.hid henv
  have H1 := Lib.hid (words_any s w hb henv)
  have H2 : Hid (∀ w, Calls Tryd.prog 21 #[.string s] w (GivesStrs (wordsR s) w)) := fun w => refWords_any s w hb
  have HLN := Lib.hid (wordsR_len s)
  obtain ⟨⟨ps, e0⟩, hv⟩ : ∃ g, wordsR s = g := ⟨_, rfl⟩
  rw [hv] at H1 H2 HLN
  clear henv hv
  go_enter Tryd.func5, Tryd.ntmps5
  go_wp2_with fail
  refine H1.out.mono ?_
  rintro e w1 ⟨A1, n1, c1, rfl, hs1, hb1⟩
  have HS1 := Lib.hid hs1
  have HB1 := Lib.hid hb1
  clear hs1 hb1
  go_wp2_with fail
  refine (H2.out w1).mono ?_
  rintro e w2 ⟨A2, n2, c2, rfl, hs2, hb2⟩
  have HS2 := Lib.hid hs2
  have HS1' := Lib.hid ((HS1.out.below hb2).more hb2.size)
  have HB2 := Lib.hid (below3 HB1.out hb2)
  clear hs2 hb2
  go_wp2_with fail
  refine (awake_any _ (HENV.out.below HB2.out)).mono ?_
  rintro e w3 ⟨rfl, hb3⟩
  have HS1'' := Lib.hid (HS1'.out.below hb3)
  have HS2'' := Lib.hid (HS2.out.below hb3)
  have HB3 := Lib.hid (below3 HB2.out hb3)
  clear hb3
  go_wp2_with fail
  refine (sameStrs_true A1 A2 n1 c1 n2 c2 _ _ ps w3 HS1''.out HS2''.out (by have h1 : ps.length = n1 := HS1''.out.len; have h2 : ps.length ≤ s.size + 1 := HLN.out; omega)).mono ?_
  rintro e w4 ⟨rfl, rfl⟩
  go_wp2
  go_ret
  exact ⟨by simp, HB3.out⟩
end Go.Proofs.YtonckpcbehobhaaDoor
