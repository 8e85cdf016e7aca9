/- The example of the chapter: awake. Printed by gen_awk2.py. -/
import Derived.Test.YtojgohgeagbkbaaAwk0
import Derived.Deep.DeepCutAuto
namespace Go.Proofs.Ytojgohgeagbkbaa
open Go.RowKit

set_option linter.unusedVariables false
set_option linter.unusedSimpArgs false
theorem box_new {w : World} {T : TypeId} (zs : List Value) (cs : List Value) : Blk ((w.alloc (.cells zs.toArray T)).setRow w.heap.size cs.toArray) w.heap.size T cs ∧ Below w.heap.size w ((w.alloc (.cells zs.toArray T)).setRow w.heap.size cs.toArray) :=
  ⟨(Blk.new w T zs.toArray).row cs, (belowA _ _).trans ((Save.row w.heap.size _ _).below (Nat.le_refl _) (belowA _ _).size)⟩
set_option maxRecDepth 100000 in
set_option maxHeartbeats 8000000 in
theorem awake41_any (w : World) : Calls Try.prog 11 #[] w fun e w' => e = .returned (.bool true) ∧ Below w.heap.size w w' := by
  go_enter Try.func11, Try.ntmps11
  go_wp2_with fail
  refine (conf41x_any w).mono ?_
  rintro e w1 ⟨b, rfl, hps, hb1⟩
  have HPS := Lib.hid hps
  have HBW := Lib.hid hb1
  clear hps hb1
  obtain ⟨n1, hn1⟩ : ∃ n, w1.heap.size = n := ⟨_, rfl⟩
  obtain ⟨wq, hwq⟩ : ∃ wq, (w1.alloc (.cells #[.int .i64 0, .int .i64 0, .int .u32 0, .int .u32 0, .slice none 0 0, .slice none 0 0, .slice none 0 0, .slice none 0 0, .slice none 0 0, .slice none 0 0, .int .i64 0, .int .i64 0, .int .i64 0, .int .i64 0, .int .i64 0] 34)).setRow n1 #[.int .i64 65001, .int .i64 0, .int .u32 9, .int .u32 0, .slice (some ⟨b, 0, none⟩) 4 4, .slice none 0 0, .slice none 0 0, .slice none 0 0, .slice none 0 0, .slice none 0 0, .int .i64 0, .int .i64 0, .int .i64 0, .int .i64 0, .int .i64 0] = wq := ⟨_, rfl⟩
  have hbx := box_new (w := w1) (T := 34) [.int .i64 0, .int .i64 0, .int .u32 0, .int .u32 0, .slice none 0 0, .slice none 0 0, .slice none 0 0, .slice none 0 0, .slice none 0 0, .slice none 0 0, .int .i64 0, .int .i64 0, .int .i64 0, .int .i64 0, .int .i64 0] ([.int .i64 65001, .int .i64 0, .int .u32 9, .int .u32 0, .slice (some ⟨b, 0, none⟩) 4 4, .slice none 0 0, .slice none 0 0, .slice none 0 0, .slice none 0 0, .slice none 0 0, .int .i64 0, .int .i64 0, .int .i64 0, .int .i64 0, .int .i64 0])
  rw [hn1] at hbx
  have hZ : Blk (w1.alloc (.cells #[.int .i64 0, .int .i64 0, .int .u32 0, .int .u32 0, .slice none 0 0, .slice none 0 0, .slice none 0 0, .slice none 0 0, .slice none 0 0, .slice none 0 0, .int .i64 0, .int .i64 0, .int .i64 0, .int .i64 0, .int .i64 0] 34)) n1 34 [.int .i64 0, .int .i64 0, .int .u32 0, .int .u32 0, .slice none 0 0, .slice none 0 0, .slice none 0 0, .slice none 0 0, .slice none 0 0, .slice none 0 0, .int .i64 0, .int .i64 0, .int .i64 0, .int .i64 0, .int .i64 0] := by rw [← hn1]; exact Blk.new w1 _ _
  have HZ := Lib.hid hZ
  have HCn : Hid (Blk wq n1 34 ([.int .i64 65001, .int .i64 0, .int .u32 9, .int .u32 0, .slice (some ⟨b, 0, none⟩) 4 4, .slice none 0 0, .slice none 0 0, .slice none 0 0, .slice none 0 0, .slice none 0 0, .int .i64 0, .int .i64 0, .int .i64 0, .int .i64 0, .int .i64 0])) := by show Blk _ _ _ _; rw [← hwq]; exact hbx.1
  have hbq : Below w1.heap.size w1 wq := by have h := hbx.2; rw [hwq, ← hn1] at h; exact h
  clear hbx hZ
  have HPS2 := Lib.hid (Recs.more (Recs.below HPS.out hbq) hbq.size)
  clear HPS
  have HPS := HPS2
  clear HPS2
  have HBW2 := Lib.hid (HBW.out.trans (hbq.mono HBW.out.size))
  clear HBW
  have HBW := HBW2
  clear HBW2
  have HC := HCn
  clear HCn
  go_upto_region 2 with (first | (rw [hn1]; refine wpList_store_blk (cs := [.int .i64 65001, .int .i64 0, .int .u32 9, .int .u32 0, .slice (some ⟨b, 0, none⟩) 4 4, .slice none 0 0, .slice none 0 0, .slice none 0 0, .slice none 0 0, .slice none 0 0, .int .i64 0, .int .i64 0, .int .i64 0, .int .i64 0, .int .i64 0]) rfl 34 _ _ rfl n1 rfl rfl HZ.out (by kernel_rfl) rfl (by kernel_rfl) ?_) | (refine wpList_store_blk (cs := [.int .i64 65001, .int .i64 0, .int .u32 9, .int .u32 0, .slice (some ⟨b, 0, none⟩) 4 4, .slice none 0 0, .slice none 0 0, .slice none 0 0, .slice none 0 0, .slice none 0 0, .int .i64 0, .int .i64 0, .int .i64 0, .int .i64 0, .int .i64 0]) rfl 34 _ _ rfl n1 rfl rfl HZ.out (by kernel_rfl) rfl (by kernel_rfl) ?_))
  try rw [hwq]
  clear HZ
  obtain ⟨s0, hs0⟩ : ∃ s0, wq.heap.size = s0 := ⟨_, rfl⟩
  obtain ⟨w2, hw2⟩ : ∃ w2, (wq.alloc (.cells #[.int .i64 65002] 3)).alloc (.cells #[.int .i64 2, .slice (some ⟨s0, 0, none⟩) 1 1] 75) = w2 := ⟨_, rfl⟩
  obtain ⟨s1, hs1⟩ : ∃ s1, s0 + 1 = s1 := ⟨_, rfl⟩
  have hb2 : Below wq.heap.size wq w2 := by rw [← hw2]; exact below3 (belowA _ _) (belowA _ _)
  have HL0 : Hid (Lists w2 w2.heap.size (some ⟨s1, 0, none⟩) none none none 1 1 0 0 0 0 0 0 [(2, [65002])] [] [] []) := by
    refine ⟨⟨[⟨2, some ⟨s0, 0, none⟩, 1, 1, [65002]⟩], ⟨?_, rfl⟩, rfl, ?_⟩, Ints.nil _ _ _, Ints.nil _ _ _, Tlvs.nil _ _, by omega, by omega, by omega, by omega⟩
    · have h := Cells.of_own (World.ownsRow_lit (base := 0) (size := 2) (e := 75) (wq.alloc (.cells #[.int .i64 65002] 3)) #[.int .i64 2, .slice (some ⟨s0, 0, none⟩) 1 1] 1 (Nat.zero_le _) (by simp [maxLen]) rfl)
      have e : (wq.alloc (.cells #[.int .i64 65002] 3)).heap.size = s1 := by rw [World.size_alloc]; omega
      rw [hw2, e] at h
      exact h
    · intro t ht
      obtain rfl : t = ⟨2, some ⟨s0, 0, none⟩, 1, 1, [65002]⟩ := by simpa using ht
      have h := ints_lit wq 3 .i64 1 [65002] rfl (by simp [maxLen]) (wq.heap.size + 1) (by omega)
      rw [hs0] at h
      have h2 : Below (s0 + 1) (wq.alloc (.cells #[.int .i64 65002] 3)) w2 := by
        rw [← hw2]
        have h3 := belowA (wq.alloc (.cells #[.int .i64 65002] 3)) (.cells #[.int .i64 2, .slice (some ⟨s0, 0, none⟩) 1 1] 75)
        rw [World.size_alloc, hs0] at h3
        exact h3
      exact (h.below h2).more (by rw [← hw2]; simp; omega)
  have HPS2 := Lib.hid (Recs.more (Recs.below HPS.out hb2) hb2.size)
  clear HPS
  have HPS := HPS2
  clear HPS2
  have HBW2 := Lib.hid (HBW.out.trans (hb2.mono HBW.out.size))
  clear HBW
  have HBW := HBW2
  clear HBW2
  have HC2 := Lib.hid (HC.out.keep hb2)
  clear HC
  have HC := HC2
  clear HC2
  clear hb2 hbq
  obtain ⟨n2, hn2⟩ : ∃ n, w2.heap.size = n := ⟨_, rfl⟩
  obtain ⟨w3, hw3⟩ : ∃ wq, (w2.alloc (.cells #[.int .i64 0, .slice none 0 0, .int .u32 0, .bool false, .int .i64 0, .bool false, .int .i64 0, .bool false, .bool false, .int .i64 0, .int .u32 0, .slice none 0 0, .bool false, .int .u32 0, .slice none 0 0, .slice none 0 0] 40)).setRow n2 #[.int .i64 0, .slice (some ⟨s1, 0, none⟩) 1 1, .int .u32 1, .bool true, .int .i64 5, .bool false, .int .i64 0, .bool false, .bool false, .int .i64 0, .int .u32 0, .slice none 0 0, .bool false, .int .u32 0, .slice none 0 0, .slice none 0 0] = wq := ⟨_, rfl⟩
  have hbx := box_new (w := w2) (T := 40) [.int .i64 0, .slice none 0 0, .int .u32 0, .bool false, .int .i64 0, .bool false, .int .i64 0, .bool false, .bool false, .int .i64 0, .int .u32 0, .slice none 0 0, .bool false, .int .u32 0, .slice none 0 0, .slice none 0 0] ([.int .i64 0, .slice (some ⟨s1, 0, none⟩) 1 1, .int .u32 1, .bool true, .int .i64 5, .bool false, .int .i64 0, .bool false, .bool false, .int .i64 0, .int .u32 0, .slice none 0 0, .bool false, .int .u32 0, .slice none 0 0, .slice none 0 0])
  rw [hn2] at hbx
  have HZ : Hid (Blk (w2.alloc (.cells #[.int .i64 0, .slice none 0 0, .int .u32 0, .bool false, .int .i64 0, .bool false, .int .i64 0, .bool false, .bool false, .int .i64 0, .int .u32 0, .slice none 0 0, .bool false, .int .u32 0, .slice none 0 0, .slice none 0 0] 40)) n2 40 [.int .i64 0, .slice none 0 0, .int .u32 0, .bool false, .int .i64 0, .bool false, .int .i64 0, .bool false, .bool false, .int .i64 0, .int .u32 0, .slice none 0 0, .bool false, .int .u32 0, .slice none 0 0, .slice none 0 0]) := by show Blk _ _ _ _; rw [← hn2]; exact Blk.new w2 _ _
  have HAn : Hid (Blk w3 n2 40 ([.int .i64 0, .slice (some ⟨s1, 0, none⟩) 1 1, .int .u32 1, .bool true, .int .i64 5, .bool false, .int .i64 0, .bool false, .bool false, .int .i64 0, .int .u32 0, .slice none 0 0, .bool false, .int .u32 0, .slice none 0 0, .slice none 0 0])) := by show Blk _ _ _ _; rw [← hw3]; exact hbx.1
  have hbq : Below w2.heap.size w2 w3 := by have h := hbx.2; rw [hw3, ← hn2] at h; exact h
  clear hbx
  go_upto_region 3 with (first | (refine wpList_store_blk (cs := [.int .i64 0, .slice (some ⟨s1, 0, none⟩) 1 1, .int .u32 1, .bool true, .int .i64 5, .bool false, .int .i64 0, .bool false, .bool false, .int .i64 0, .int .u32 0, .slice none 0 0, .bool false, .int .u32 0, .slice none 0 0, .slice none 0 0]) rfl 40 _ _ rfl n2 rfl rfl HZ.out (by kernel_rfl) rfl (by kernel_rfl) ?_) | (rw [hn2]; refine wpList_store_blk (cs := [.int .i64 0, .slice (some ⟨s1, 0, none⟩) 1 1, .int .u32 1, .bool true, .int .i64 5, .bool false, .int .i64 0, .bool false, .bool false, .int .i64 0, .int .u32 0, .slice none 0 0, .bool false, .int .u32 0, .slice none 0 0, .slice none 0 0]) rfl 40 _ _ rfl n2 rfl rfl HZ.out (by kernel_rfl) rfl (by kernel_rfl) ?_))
  try rw [hw3]
  clear HZ
  have HPS2 := Lib.hid (Recs.more (Recs.below HPS.out hbq) hbq.size)
  clear HPS
  have HPS := HPS2
  clear HPS2
  have HBW2 := Lib.hid (HBW.out.trans (hbq.mono HBW.out.size))
  clear HBW
  have HBW := HBW2
  clear HBW2
  have HC2 := Lib.hid (HC.out.keep hbq)
  clear HC
  have HC := HC2
  clear HC2
  have HL02 := Lib.hid (HL0.out.grow hbq (Nat.le_refl _))
  clear HL0
  have HL0 := HL02
  clear HL02
  have HA := HAn
  clear HAn hbq
  obtain ⟨n3, hn3⟩ : ∃ n, w3.heap.size = n := ⟨_, rfl⟩
  obtain ⟨w4, hw4⟩ : ∃ wq, (w3.alloc (.cells #[.int .u32 0, .int .i64 0, .int .i64 0, .slice none 0 0, .int .u32 0, .bool false, .int .i64 0, .bool false, .int .i64 0, .bool false, .bool false, .int .i64 0, .int .u32 0, .slice none 0 0, .bool false, .int .u32 0, .slice none 0 0, .slice none 0 0, .int .i64 0, .int .i64 0, .int .u32 0, .bool false] 49)).setRow n3 #[.int .u32 0, .int .i64 0, .int .i64 0, .slice (some ⟨s1, 0, none⟩) 1 1, .int .u32 1, .bool true, .int .i64 5, .bool false, .int .i64 0, .bool false, .bool false, .int .i64 0, .int .u32 0, .slice none 0 0, .bool false, .int .u32 0, .slice none 0 0, .slice none 0 0, .int .i64 1, .int .i64 3, .int .u32 4, .bool false] = wq := ⟨_, rfl⟩
  have hbx := box_new (w := w3) (T := 49) [.int .u32 0, .int .i64 0, .int .i64 0, .slice none 0 0, .int .u32 0, .bool false, .int .i64 0, .bool false, .int .i64 0, .bool false, .bool false, .int .i64 0, .int .u32 0, .slice none 0 0, .bool false, .int .u32 0, .slice none 0 0, .slice none 0 0, .int .i64 0, .int .i64 0, .int .u32 0, .bool false] ([.int .u32 0, .int .i64 0, .int .i64 0, .slice (some ⟨s1, 0, none⟩) 1 1, .int .u32 1, .bool true, .int .i64 5, .bool false, .int .i64 0, .bool false, .bool false, .int .i64 0, .int .u32 0, .slice none 0 0, .bool false, .int .u32 0, .slice none 0 0, .slice none 0 0, .int .i64 1, .int .i64 3, .int .u32 4, .bool false])
  rw [hn3] at hbx
  have HZ : Hid (Blk (w3.alloc (.cells #[.int .u32 0, .int .i64 0, .int .i64 0, .slice none 0 0, .int .u32 0, .bool false, .int .i64 0, .bool false, .int .i64 0, .bool false, .bool false, .int .i64 0, .int .u32 0, .slice none 0 0, .bool false, .int .u32 0, .slice none 0 0, .slice none 0 0, .int .i64 0, .int .i64 0, .int .u32 0, .bool false] 49)) n3 49 [.int .u32 0, .int .i64 0, .int .i64 0, .slice none 0 0, .int .u32 0, .bool false, .int .i64 0, .bool false, .int .i64 0, .bool false, .bool false, .int .i64 0, .int .u32 0, .slice none 0 0, .bool false, .int .u32 0, .slice none 0 0, .slice none 0 0, .int .i64 0, .int .i64 0, .int .u32 0, .bool false]) := by show Blk _ _ _ _; rw [← hn3]; exact Blk.new w3 _ _
  have HRn : Hid (Blk w4 n3 49 ([.int .u32 0, .int .i64 0, .int .i64 0, .slice (some ⟨s1, 0, none⟩) 1 1, .int .u32 1, .bool true, .int .i64 5, .bool false, .int .i64 0, .bool false, .bool false, .int .i64 0, .int .u32 0, .slice none 0 0, .bool false, .int .u32 0, .slice none 0 0, .slice none 0 0, .int .i64 1, .int .i64 3, .int .u32 4, .bool false])) := by show Blk _ _ _ _; rw [← hw4]; exact hbx.1
  have hbq : Below w3.heap.size w3 w4 := by have h := hbx.2; rw [hw4, ← hn3] at h; exact h
  clear hbx
  go_upto_region 4 with (first | (refine wpList_load_blk rfl 40 _ rfl n2 rfl HA.out _ Try.underlying40 rfl (by kernel_rfl) ?_) | (refine wpList_store_blk (cs := [.int .u32 0, .int .i64 0, .int .i64 0, .slice (some ⟨s1, 0, none⟩) 1 1, .int .u32 1, .bool true, .int .i64 5, .bool false, .int .i64 0, .bool false, .bool false, .int .i64 0, .int .u32 0, .slice none 0 0, .bool false, .int .u32 0, .slice none 0 0, .slice none 0 0, .int .i64 1, .int .i64 3, .int .u32 4, .bool false]) rfl 49 _ _ rfl n3 rfl rfl HZ.out (by kernel_rfl) rfl (by kernel_rfl) ?_) | (rw [hn3]; refine wpList_store_blk (cs := [.int .u32 0, .int .i64 0, .int .i64 0, .slice (some ⟨s1, 0, none⟩) 1 1, .int .u32 1, .bool true, .int .i64 5, .bool false, .int .i64 0, .bool false, .bool false, .int .i64 0, .int .u32 0, .slice none 0 0, .bool false, .int .u32 0, .slice none 0 0, .slice none 0 0, .int .i64 1, .int .i64 3, .int .u32 4, .bool false]) rfl 49 _ _ rfl n3 rfl rfl HZ.out (by kernel_rfl) rfl (by kernel_rfl) ?_))
  try rw [hw4]
  clear HZ
  have HPS2 := Lib.hid (Recs.more (Recs.below HPS.out hbq) hbq.size)
  clear HPS
  have HPS := HPS2
  clear HPS2
  have HBW2 := Lib.hid (HBW.out.trans (hbq.mono HBW.out.size))
  clear HBW
  have HBW := HBW2
  clear HBW2
  have HC2 := Lib.hid (HC.out.keep hbq)
  clear HC
  have HC := HC2
  clear HC2
  have HL02 := Lib.hid (HL0.out.grow hbq (Nat.le_refl _))
  clear HL0
  have HL0 := HL02
  clear HL02
  have HA2 := Lib.hid (HA.out.keep hbq)
  clear HA
  have HA := HA2
  clear HA2
  have HR := HRn
  clear HRn hbq
  have HCX : Hid (Calls Try.prog 24 #[.agg #[.int .i64 65001, .int .i64 0, .int .u32 9, .int .u32 0, .slice (some ⟨b, 0, none⟩) 4 4, .slice none 0 0, .slice none 0 0, .slice none 0 0, .slice none 0 0, .slice none 0 0, .int .i64 0, .int .i64 0, .int .i64 0, .int .i64 0, .int .i64 0], .agg #[.int .u32 0, .int .i64 0, .int .i64 0, .slice (some ⟨s1, 0, none⟩) 1 1, .int .u32 1, .bool true, .int .i64 5, .bool false, .int .i64 0, .bool false, .bool false, .int .i64 0, .int .u32 0, .slice none 0 0, .bool false, .int .u32 0, .slice none 0 0, .slice none 0 0, .int .i64 1, .int .i64 3, .int .u32 4, .bool false], .int .i64 0] w4 (GivesAtt (attX, 0) w4)) := by
    have h := attrs_any 65001 0 9 0 (some ⟨b, 0, none⟩) none none none none none 4 4 0 0 0 0 0 0 0 0 0 0 0 0 0 0 0 0 0 0 1 5 0 0 0 0 true false false false false (some ⟨s1, 0, none⟩) none none none 1 1 0 0 0 0 0 0 [(2, [65002])] [] [] [] 1 3 4 false 0 psX w4 HPS.out HL0.out (by unfold Sm flat; decide) (by decide) (by omega)
    have e : attrsR 0 psX 65001 0 9 0 1 3 4 ⟨0, [(2, [65002])], 1, true, 5, false, 0, false, false, 0, 0, [], false, 0, [], []⟩ = (attX, 0) := ex_attrs0
    rw [e] at h
    exact h
  go_wp2_with (first | (refine wpList_load_blk rfl 34 _ rfl n1 rfl HC.out _ Try.underlying34 rfl (by kernel_rfl) ?_) | (refine wpList_load_blk rfl 49 _ rfl n3 rfl HR.out _ Try.underlying49 rfl (by kernel_rfl) ?_))
  refine HCX.out.mono ?_
  rintro e w5 ⟨pA4, cA4, kA4, uA4, pn4, pc4, cn4, cc4, kn4, kc4, un4, uc4, he, hl, hb⟩
  clear HCX
  obtain rfl : pn4 = 1 := hl.path.len.symm
  obtain rfl : cn4 = 0 := hl.comm.len.symm
  obtain rfl : kn4 = 0 := hl.clus.len.symm
  obtain rfl : un4 = 0 := hl.unk.len.symm
  have he2 : e = .returned (.tuple #[.agg #[.int .i64 0, .slice pA4 1 pc4, .int .u32 7, .bool false, .int .i64 0, .bool false, .int .i64 0, .bool false, .bool false, .int .i64 0, .int .u32 0, .slice cA4 0 cc4, .bool false, .int .u32 0, .slice kA4 0 kc4, .slice uA4 0 uc4], .int .i64 0]) := he
  subst he2
  clear he
  have HPS2 := Lib.hid (Recs.more (Recs.below HPS.out hb) hb.size)
  clear HPS
  have HPS := HPS2
  clear HPS2
  have HBW2 := Lib.hid (HBW.out.trans (hb.mono HBW.out.size))
  clear HBW
  have HBW := HBW2
  clear HBW2
  have HC2 := Lib.hid (HC.out.keep hb)
  clear HC
  have HC := HC2
  clear HC2
  have HL02 := Lib.hid (HL0.out.grow hb (Nat.le_refl _))
  clear HL0
  have HL0 := HL02
  clear HL02
  have HA2 := Lib.hid (HA.out.keep hb)
  clear HA
  have HA := HA2
  clear HA2
  have HR2 := Lib.hid (HR.out.keep hb)
  clear HR
  have HR := HR2
  clear HR2
  have HL4 : Hid (Lists w5 w5.heap.size pA4 cA4 kA4 uA4 1 pc4 0 cc4 0 kc4 0 uc4 attX.path [] attX.clus []) := hl
  clear hl hb
  obtain ⟨n4, hn4⟩ : ∃ n, w5.heap.size = n := ⟨_, rfl⟩
  obtain ⟨w6, hw6⟩ : ∃ wq, (w5.alloc (.cells #[.int .i64 0, .slice none 0 0, .int .u32 0, .bool false, .int .i64 0, .bool false, .int .i64 0, .bool false, .bool false, .int .i64 0, .int .u32 0, .slice none 0 0, .bool false, .int .u32 0, .slice none 0 0, .slice none 0 0] 40)).setRow n4 #[.int .i64 0, .slice pA4 1 pc4, .int .u32 7, .bool false, .int .i64 0, .bool false, .int .i64 0, .bool false, .bool false, .int .i64 0, .int .u32 0, .slice cA4 0 cc4, .bool false, .int .u32 0, .slice kA4 0 kc4, .slice uA4 0 uc4] = wq := ⟨_, rfl⟩
  have hbx := box_new (w := w5) (T := 40) [.int .i64 0, .slice none 0 0, .int .u32 0, .bool false, .int .i64 0, .bool false, .int .i64 0, .bool false, .bool false, .int .i64 0, .int .u32 0, .slice none 0 0, .bool false, .int .u32 0, .slice none 0 0, .slice none 0 0] ([.int .i64 0, .slice pA4 1 pc4, .int .u32 7, .bool false, .int .i64 0, .bool false, .int .i64 0, .bool false, .bool false, .int .i64 0, .int .u32 0, .slice cA4 0 cc4, .bool false, .int .u32 0, .slice kA4 0 kc4, .slice uA4 0 uc4])
  rw [hn4] at hbx
  have HZ : Hid (Blk (w5.alloc (.cells #[.int .i64 0, .slice none 0 0, .int .u32 0, .bool false, .int .i64 0, .bool false, .int .i64 0, .bool false, .bool false, .int .i64 0, .int .u32 0, .slice none 0 0, .bool false, .int .u32 0, .slice none 0 0, .slice none 0 0] 40)) n4 40 [.int .i64 0, .slice none 0 0, .int .u32 0, .bool false, .int .i64 0, .bool false, .int .i64 0, .bool false, .bool false, .int .i64 0, .int .u32 0, .slice none 0 0, .bool false, .int .u32 0, .slice none 0 0, .slice none 0 0]) := by show Blk _ _ _ _; rw [← hn4]; exact Blk.new w5 _ _
  have HXn : Hid (Blk w6 n4 40 ([.int .i64 0, .slice pA4 1 pc4, .int .u32 7, .bool false, .int .i64 0, .bool false, .int .i64 0, .bool false, .bool false, .int .i64 0, .int .u32 0, .slice cA4 0 cc4, .bool false, .int .u32 0, .slice kA4 0 kc4, .slice uA4 0 uc4])) := by show Blk _ _ _ _; rw [← hw6]; exact hbx.1
  have hbq : Below w5.heap.size w5 w6 := by have h := hbx.2; rw [hw6, ← hn4] at h; exact h
  clear hbx
  go_upto_region 5 with (first | (refine wpList_store_blk (cs := [.int .i64 0, .slice pA4 1 pc4, .int .u32 7, .bool false, .int .i64 0, .bool false, .int .i64 0, .bool false, .bool false, .int .i64 0, .int .u32 0, .slice cA4 0 cc4, .bool false, .int .u32 0, .slice kA4 0 kc4, .slice uA4 0 uc4]) rfl 40 _ _ rfl n4 rfl rfl HZ.out (by kernel_rfl) rfl (by kernel_rfl) ?_) | (rw [hn4]; refine wpList_store_blk (cs := [.int .i64 0, .slice pA4 1 pc4, .int .u32 7, .bool false, .int .i64 0, .bool false, .int .i64 0, .bool false, .bool false, .int .i64 0, .int .u32 0, .slice cA4 0 cc4, .bool false, .int .u32 0, .slice kA4 0 kc4, .slice uA4 0 uc4]) rfl 40 _ _ rfl n4 rfl rfl HZ.out (by kernel_rfl) rfl (by kernel_rfl) ?_))
  try rw [hw6]
  clear HZ
  have HPS2 := Lib.hid (Recs.more (Recs.below HPS.out hbq) hbq.size)
  clear HPS
  have HPS := HPS2
  clear HPS2
  have HBW2 := Lib.hid (HBW.out.trans (hbq.mono HBW.out.size))
  clear HBW
  have HBW := HBW2
  clear HBW2
  have HC2 := Lib.hid (HC.out.keep hbq)
  clear HC
  have HC := HC2
  clear HC2
  have HL02 := Lib.hid (HL0.out.grow hbq (Nat.le_refl _))
  clear HL0
  have HL0 := HL02
  clear HL02
  have HA2 := Lib.hid (HA.out.keep hbq)
  clear HA
  have HA := HA2
  clear HA2
  have HR2 := Lib.hid (HR.out.keep hbq)
  clear HR
  have HR := HR2
  clear HR2
  have HL42 := Lib.hid (HL4.out.grow hbq (Nat.le_refl _))
  clear HL4
  have HL4 := HL42
  clear HL42
  have HX := HXn
  clear HXn hbq
  have HCX : Hid (Calls Try.prog 24 #[.agg #[.int .i64 65001, .int .i64 0, .int .u32 9, .int .u32 0, .slice (some ⟨b, 0, none⟩) 4 4, .slice none 0 0, .slice none 0 0, .slice none 0 0, .slice none 0 0, .slice none 0 0, .int .i64 0, .int .i64 0, .int .i64 0, .int .i64 0, .int .i64 0], .agg #[.int .u32 0, .int .i64 0, .int .i64 0, .slice (some ⟨s1, 0, none⟩) 1 1, .int .u32 1, .bool true, .int .i64 5, .bool false, .int .i64 0, .bool false, .bool false, .int .i64 0, .int .u32 0, .slice none 0 0, .bool false, .int .u32 0, .slice none 0 0, .slice none 0 0, .int .i64 1, .int .i64 3, .int .u32 4, .bool false], .int .i64 2] w6 (GivesAtt (attY, 0) w6)) := by
    have h := attrs_any 65001 0 9 0 (some ⟨b, 0, none⟩) none none none none none 4 4 0 0 0 0 0 0 0 0 0 0 0 0 0 0 0 0 0 0 1 5 0 0 0 0 true false false false false (some ⟨s1, 0, none⟩) none none none 1 1 0 0 0 0 0 0 [(2, [65002])] [] [] [] 1 3 4 false 2 psX w6 HPS.out HL0.out (by unfold Sm flat; decide) (by decide) (by omega)
    have e : attrsR 2 psX 65001 0 9 0 1 3 4 ⟨0, [(2, [65002])], 1, true, 5, false, 0, false, false, 0, 0, [], false, 0, [], []⟩ = (attY, 0) := ex_attrs2
    rw [e] at h
    exact h
  go_wp2_with (first | (refine wpList_load_blk rfl 34 _ rfl n1 rfl HC.out _ Try.underlying34 rfl (by kernel_rfl) ?_) | (refine wpList_load_blk rfl 49 _ rfl n3 rfl HR.out _ Try.underlying49 rfl (by kernel_rfl) ?_))
  refine HCX.out.mono ?_
  rintro e w7 ⟨pA5, cA5, kA5, uA5, pn5, pc5, cn5, cc5, kn5, kc5, un5, uc5, he, hl, hb⟩
  clear HCX
  obtain rfl : pn5 = 1 := hl.path.len.symm
  obtain rfl : cn5 = 0 := hl.comm.len.symm
  obtain rfl : kn5 = 1 := hl.clus.len.symm
  obtain rfl : un5 = 0 := hl.unk.len.symm
  have he2 : e = .returned (.tuple #[.agg #[.int .i64 0, .slice pA5 1 pc5, .int .u32 1, .bool true, .int .i64 5, .bool true, .int .i64 100, .bool false, .bool false, .int .i64 0, .int .u32 0, .slice cA5 0 cc5, .bool true, .int .u32 4, .slice kA5 1 kc5, .slice uA5 0 uc5], .int .i64 0]) := he
  subst he2
  clear he
  have HPS2 := Lib.hid (Recs.more (Recs.below HPS.out hb) hb.size)
  clear HPS
  have HPS := HPS2
  clear HPS2
  have HBW2 := Lib.hid (HBW.out.trans (hb.mono HBW.out.size))
  clear HBW
  have HBW := HBW2
  clear HBW2
  have HC2 := Lib.hid (HC.out.keep hb)
  clear HC
  have HC := HC2
  clear HC2
  have HL02 := Lib.hid (HL0.out.grow hb (Nat.le_refl _))
  clear HL0
  have HL0 := HL02
  clear HL02
  have HA2 := Lib.hid (HA.out.keep hb)
  clear HA
  have HA := HA2
  clear HA2
  have HR2 := Lib.hid (HR.out.keep hb)
  clear HR
  have HR := HR2
  clear HR2
  have HL42 := Lib.hid (HL4.out.grow hb (Nat.le_refl _))
  clear HL4
  have HL4 := HL42
  clear HL42
  have HX2 := Lib.hid (HX.out.keep hb)
  clear HX
  have HX := HX2
  clear HX2
  have HL5 : Hid (Lists w7 w7.heap.size pA5 cA5 kA5 uA5 1 pc5 0 cc5 1 kc5 0 uc5 attY.path [] attY.clus []) := hl
  clear hl hb
  obtain ⟨n5, hn5⟩ : ∃ n, w7.heap.size = n := ⟨_, rfl⟩
  obtain ⟨w8, hw8⟩ : ∃ wq, (w7.alloc (.cells #[.int .i64 0, .slice none 0 0, .int .u32 0, .bool false, .int .i64 0, .bool false, .int .i64 0, .bool false, .bool false, .int .i64 0, .int .u32 0, .slice none 0 0, .bool false, .int .u32 0, .slice none 0 0, .slice none 0 0] 40)).setRow n5 #[.int .i64 0, .slice pA5 1 pc5, .int .u32 1, .bool true, .int .i64 5, .bool true, .int .i64 100, .bool false, .bool false, .int .i64 0, .int .u32 0, .slice cA5 0 cc5, .bool true, .int .u32 4, .slice kA5 1 kc5, .slice uA5 0 uc5] = wq := ⟨_, rfl⟩
  have hbx := box_new (w := w7) (T := 40) [.int .i64 0, .slice none 0 0, .int .u32 0, .bool false, .int .i64 0, .bool false, .int .i64 0, .bool false, .bool false, .int .i64 0, .int .u32 0, .slice none 0 0, .bool false, .int .u32 0, .slice none 0 0, .slice none 0 0] ([.int .i64 0, .slice pA5 1 pc5, .int .u32 1, .bool true, .int .i64 5, .bool true, .int .i64 100, .bool false, .bool false, .int .i64 0, .int .u32 0, .slice cA5 0 cc5, .bool true, .int .u32 4, .slice kA5 1 kc5, .slice uA5 0 uc5])
  rw [hn5] at hbx
  have HZ : Hid (Blk (w7.alloc (.cells #[.int .i64 0, .slice none 0 0, .int .u32 0, .bool false, .int .i64 0, .bool false, .int .i64 0, .bool false, .bool false, .int .i64 0, .int .u32 0, .slice none 0 0, .bool false, .int .u32 0, .slice none 0 0, .slice none 0 0] 40)) n5 40 [.int .i64 0, .slice none 0 0, .int .u32 0, .bool false, .int .i64 0, .bool false, .int .i64 0, .bool false, .bool false, .int .i64 0, .int .u32 0, .slice none 0 0, .bool false, .int .u32 0, .slice none 0 0, .slice none 0 0]) := by show Blk _ _ _ _; rw [← hn5]; exact Blk.new w7 _ _
  have HYn : Hid (Blk w8 n5 40 ([.int .i64 0, .slice pA5 1 pc5, .int .u32 1, .bool true, .int .i64 5, .bool true, .int .i64 100, .bool false, .bool false, .int .i64 0, .int .u32 0, .slice cA5 0 cc5, .bool true, .int .u32 4, .slice kA5 1 kc5, .slice uA5 0 uc5])) := by show Blk _ _ _ _; rw [← hw8]; exact hbx.1
  have hbq : Below w7.heap.size w7 w8 := by have h := hbx.2; rw [hw8, ← hn5] at h; exact h
  clear hbx
  go_upto_region 6 with (first | (refine wpList_store_blk (cs := [.int .i64 0, .slice pA5 1 pc5, .int .u32 1, .bool true, .int .i64 5, .bool true, .int .i64 100, .bool false, .bool false, .int .i64 0, .int .u32 0, .slice cA5 0 cc5, .bool true, .int .u32 4, .slice kA5 1 kc5, .slice uA5 0 uc5]) rfl 40 _ _ rfl n5 rfl rfl HZ.out (by kernel_rfl) rfl (by kernel_rfl) ?_) | (rw [hn5]; refine wpList_store_blk (cs := [.int .i64 0, .slice pA5 1 pc5, .int .u32 1, .bool true, .int .i64 5, .bool true, .int .i64 100, .bool false, .bool false, .int .i64 0, .int .u32 0, .slice cA5 0 cc5, .bool true, .int .u32 4, .slice kA5 1 kc5, .slice uA5 0 uc5]) rfl 40 _ _ rfl n5 rfl rfl HZ.out (by kernel_rfl) rfl (by kernel_rfl) ?_))
  try rw [hw8]
  clear HZ
  have HPS2 := Lib.hid (Recs.more (Recs.below HPS.out hbq) hbq.size)
  clear HPS
  have HPS := HPS2
  clear HPS2
  have HBW2 := Lib.hid (HBW.out.trans (hbq.mono HBW.out.size))
  clear HBW
  have HBW := HBW2
  clear HBW2
  have HC2 := Lib.hid (HC.out.keep hbq)
  clear HC
  have HC := HC2
  clear HC2
  have HL02 := Lib.hid (HL0.out.grow hbq (Nat.le_refl _))
  clear HL0
  have HL0 := HL02
  clear HL02
  have HA2 := Lib.hid (HA.out.keep hbq)
  clear HA
  have HA := HA2
  clear HA2
  have HR2 := Lib.hid (HR.out.keep hbq)
  clear HR
  have HR := HR2
  clear HR2
  have HL42 := Lib.hid (HL4.out.grow hbq (Nat.le_refl _))
  clear HL4
  have HL4 := HL42
  clear HL42
  have HX2 := Lib.hid (HX.out.keep hbq)
  clear HX
  have HX := HX2
  clear HX2
  have HL52 := Lib.hid (HL5.out.grow hbq (Nat.le_refl _))
  clear HL5
  have HL5 := HL52
  clear HL52
  have HY := HYn
  clear HYn hbq
  have HCX : Hid (Calls Try.prog 24 #[.agg #[.int .i64 65001, .int .i64 0, .int .u32 9, .int .u32 0, .slice (some ⟨b, 0, none⟩) 4 4, .slice none 0 0, .slice none 0 0, .slice none 0 0, .slice none 0 0, .slice none 0 0, .int .i64 0, .int .i64 0, .int .i64 0, .int .i64 0, .int .i64 0], .agg #[.int .u32 0, .int .i64 0, .int .i64 0, .slice (some ⟨s1, 0, none⟩) 1 1, .int .u32 1, .bool true, .int .i64 5, .bool false, .int .i64 0, .bool false, .bool false, .int .i64 0, .int .u32 0, .slice none 0 0, .bool false, .int .u32 0, .slice none 0 0, .slice none 0 0, .int .i64 1, .int .i64 3, .int .u32 4, .bool false], .int .i64 3] w8 (GivesAtt (zeroAtt, 18) w8)) := by
    have h := attrs_any 65001 0 9 0 (some ⟨b, 0, none⟩) none none none none none 4 4 0 0 0 0 0 0 0 0 0 0 0 0 0 0 0 0 0 0 1 5 0 0 0 0 true false false false false (some ⟨s1, 0, none⟩) none none none 1 1 0 0 0 0 0 0 [(2, [65002])] [] [] [] 1 3 4 false 3 psX w8 HPS.out HL0.out (by unfold Sm flat; decide) (by decide) (by omega)
    have e : attrsR 3 psX 65001 0 9 0 1 3 4 ⟨0, [(2, [65002])], 1, true, 5, false, 0, false, false, 0, 0, [], false, 0, [], []⟩ = (zeroAtt, 18) := ex_attrs3
    rw [e] at h
    exact h
  go_wp2_with (first | (refine wpList_load_blk rfl 34 _ rfl n1 rfl HC.out _ Try.underlying34 rfl (by kernel_rfl) ?_) | (refine wpList_load_blk rfl 49 _ rfl n3 rfl HR.out _ Try.underlying49 rfl (by kernel_rfl) ?_))
  refine HCX.out.mono ?_
  rintro e w9 ⟨pA6, cA6, kA6, uA6, pn6, pc6, cn6, cc6, kn6, kc6, un6, uc6, he, hl, hb⟩
  clear HCX
  obtain rfl : pn6 = 0 := hl.path.len.symm
  obtain rfl : cn6 = 0 := hl.comm.len.symm
  obtain rfl : kn6 = 0 := hl.clus.len.symm
  obtain rfl : un6 = 0 := hl.unk.len.symm
  have he2 : e = .returned (.tuple #[.agg #[.int .i64 0, .slice pA6 0 pc6, .int .u32 0, .bool false, .int .i64 0, .bool false, .int .i64 0, .bool false, .bool false, .int .i64 0, .int .u32 0, .slice cA6 0 cc6, .bool false, .int .u32 0, .slice kA6 0 kc6, .slice uA6 0 uc6], .int .i64 18]) := he
  subst he2
  clear he
  have HPS2 := Lib.hid (Recs.more (Recs.below HPS.out hb) hb.size)
  clear HPS
  have HPS := HPS2
  clear HPS2
  have HBW2 := Lib.hid (HBW.out.trans (hb.mono HBW.out.size))
  clear HBW
  have HBW := HBW2
  clear HBW2
  have HC2 := Lib.hid (HC.out.keep hb)
  clear HC
  have HC := HC2
  clear HC2
  have HL02 := Lib.hid (HL0.out.grow hb (Nat.le_refl _))
  clear HL0
  have HL0 := HL02
  clear HL02
  have HA2 := Lib.hid (HA.out.keep hb)
  clear HA
  have HA := HA2
  clear HA2
  have HR2 := Lib.hid (HR.out.keep hb)
  clear HR
  have HR := HR2
  clear HR2
  have HL42 := Lib.hid (HL4.out.grow hb (Nat.le_refl _))
  clear HL4
  have HL4 := HL42
  clear HL42
  have HX2 := Lib.hid (HX.out.keep hb)
  clear HX
  have HX := HX2
  clear HX2
  have HL52 := Lib.hid (HL5.out.grow hb (Nat.le_refl _))
  clear HL5
  have HL5 := HL52
  clear HL52
  have HY2 := Lib.hid (HY.out.keep hb)
  clear HY
  have HY := HY2
  clear HY2
  have HL6 : Hid (Lists w9 w9.heap.size pA6 cA6 kA6 uA6 0 pc6 0 cc6 0 kc6 0 uc6 zeroAtt.path [] zeroAtt.clus []) := hl
  clear hl hb
  obtain ⟨n6, hn6⟩ : ∃ n, w9.heap.size = n := ⟨_, rfl⟩
  obtain ⟨w10, hw10⟩ : ∃ wq, (w9.alloc (.cells #[.int .i64 0, .slice none 0 0, .int .u32 0, .bool false, .int .i64 0, .bool false, .int .i64 0, .bool false, .bool false, .int .i64 0, .int .u32 0, .slice none 0 0, .bool false, .int .u32 0, .slice none 0 0, .slice none 0 0] 40)).setRow n6 #[.int .i64 0, .slice pA6 0 pc6, .int .u32 0, .bool false, .int .i64 0, .bool false, .int .i64 0, .bool false, .bool false, .int .i64 0, .int .u32 0, .slice cA6 0 cc6, .bool false, .int .u32 0, .slice kA6 0 kc6, .slice uA6 0 uc6] = wq := ⟨_, rfl⟩
  have hbx := box_new (w := w9) (T := 40) [.int .i64 0, .slice none 0 0, .int .u32 0, .bool false, .int .i64 0, .bool false, .int .i64 0, .bool false, .bool false, .int .i64 0, .int .u32 0, .slice none 0 0, .bool false, .int .u32 0, .slice none 0 0, .slice none 0 0] ([.int .i64 0, .slice pA6 0 pc6, .int .u32 0, .bool false, .int .i64 0, .bool false, .int .i64 0, .bool false, .bool false, .int .i64 0, .int .u32 0, .slice cA6 0 cc6, .bool false, .int .u32 0, .slice kA6 0 kc6, .slice uA6 0 uc6])
  rw [hn6] at hbx
  have HZ : Hid (Blk (w9.alloc (.cells #[.int .i64 0, .slice none 0 0, .int .u32 0, .bool false, .int .i64 0, .bool false, .int .i64 0, .bool false, .bool false, .int .i64 0, .int .u32 0, .slice none 0 0, .bool false, .int .u32 0, .slice none 0 0, .slice none 0 0] 40)) n6 40 [.int .i64 0, .slice none 0 0, .int .u32 0, .bool false, .int .i64 0, .bool false, .int .i64 0, .bool false, .bool false, .int .i64 0, .int .u32 0, .slice none 0 0, .bool false, .int .u32 0, .slice none 0 0, .slice none 0 0]) := by show Blk _ _ _ _; rw [← hn6]; exact Blk.new w9 _ _
  have HNn : Hid (Blk w10 n6 40 ([.int .i64 0, .slice pA6 0 pc6, .int .u32 0, .bool false, .int .i64 0, .bool false, .int .i64 0, .bool false, .bool false, .int .i64 0, .int .u32 0, .slice cA6 0 cc6, .bool false, .int .u32 0, .slice kA6 0 kc6, .slice uA6 0 uc6])) := by show Blk _ _ _ _; rw [← hw10]; exact hbx.1
  have hbq : Below w9.heap.size w9 w10 := by have h := hbx.2; rw [hw10, ← hn6] at h; exact h
  clear hbx
  go_upto_region 7 with (first | (refine wpList_store_blk (cs := [.int .i64 0, .slice pA6 0 pc6, .int .u32 0, .bool false, .int .i64 0, .bool false, .int .i64 0, .bool false, .bool false, .int .i64 0, .int .u32 0, .slice cA6 0 cc6, .bool false, .int .u32 0, .slice kA6 0 kc6, .slice uA6 0 uc6]) rfl 40 _ _ rfl n6 rfl rfl HZ.out (by kernel_rfl) rfl (by kernel_rfl) ?_) | (rw [hn6]; refine wpList_store_blk (cs := [.int .i64 0, .slice pA6 0 pc6, .int .u32 0, .bool false, .int .i64 0, .bool false, .int .i64 0, .bool false, .bool false, .int .i64 0, .int .u32 0, .slice cA6 0 cc6, .bool false, .int .u32 0, .slice kA6 0 kc6, .slice uA6 0 uc6]) rfl 40 _ _ rfl n6 rfl rfl HZ.out (by kernel_rfl) rfl (by kernel_rfl) ?_))
  try rw [hw10]
  clear HZ
  have HPS2 := Lib.hid (Recs.more (Recs.below HPS.out hbq) hbq.size)
  clear HPS
  have HPS := HPS2
  clear HPS2
  have HBW2 := Lib.hid (HBW.out.trans (hbq.mono HBW.out.size))
  clear HBW
  have HBW := HBW2
  clear HBW2
  have HC2 := Lib.hid (HC.out.keep hbq)
  clear HC
  have HC := HC2
  clear HC2
  have HL02 := Lib.hid (HL0.out.grow hbq (Nat.le_refl _))
  clear HL0
  have HL0 := HL02
  clear HL02
  have HA2 := Lib.hid (HA.out.keep hbq)
  clear HA
  have HA := HA2
  clear HA2
  have HR2 := Lib.hid (HR.out.keep hbq)
  clear HR
  have HR := HR2
  clear HR2
  have HL42 := Lib.hid (HL4.out.grow hbq (Nat.le_refl _))
  clear HL4
  have HL4 := HL42
  clear HL42
  have HX2 := Lib.hid (HX.out.keep hbq)
  clear HX
  have HX := HX2
  clear HX2
  have HL52 := Lib.hid (HL5.out.grow hbq (Nat.le_refl _))
  clear HL5
  have HL5 := HL52
  clear HL52
  have HY2 := Lib.hid (HY.out.keep hbq)
  clear HY
  have HY := HY2
  clear HY2
  have HL62 := Lib.hid (HL6.out.grow hbq (Nat.le_refl _))
  clear HL6
  have HL6 := HL62
  clear HL62
  have HN := HNn
  clear HNn hbq
  obtain ⟨xb, xo, xf, rfl, hxb, hxf, xg0, xg1, hxi⟩ := HL4.out.path.get (j := 0) (by omega)
  obtain ⟨xk, xA, xn, xc, xs⟩ := xf
  dsimp only at xg0 xg1 hxi
  have hxe : ((2 : Int), ([65001, 65002] : List Int)) = (xk, xs) := Option.some.inj hxf.out
  obtain ⟨rfl, rfl⟩ := Prod.mk.inj hxe
  obtain rfl : xn = 2 := hxi.out.len.symm
  obtain ⟨xzb, xzo, xz, rfl, hxzb, xgz, hxz⟩ := hxi.out.cell (j := 0) (by omega)
  obtain rfl : xz = 65001 := hxz.out.symm
  simp only [Nat.zero_mul, Nat.zero_add, Nat.add_zero] at xg0 xg1 xgz
  clear hxf hxe hxi hxz
  obtain ⟨qb, qo, q, rfl, hqb, gq, hq⟩ := HL5.out.clus.cell (j := 0) (by omega)
  obtain rfl : q = 9 := hq.out.symm
  simp only [Nat.add_zero] at gq
  clear hq
  have x1 := HX.out.cell 1
  have x2 := HX.out.cell 2
  have x3 := HX.out.cell 3
  have y2 := HY.out.cell 2
  have y13 := HY.out.cell 13
  have y14 := HY.out.cell 14
  simp only [List.getElem?_cons_zero, List.getElem?_cons_succ] at x1 x2 x3 y2 y13 y14
  go_upto_region 9 with fail
  clear x1 x2 x3 y2 y13 y14 xg0 xg1 xgz gq
  have HCX : Hid (Calls Try.prog 17 #[.agg #[.int .u32 0, .int .i64 0, .int .i64 0, .slice (some ⟨s1, 0, none⟩) 1 1, .int .u32 1, .bool true, .int .i64 5, .bool false, .int .i64 0, .bool false, .bool false, .int .i64 0, .int .u32 0, .slice none 0 0, .bool false, .int .u32 0, .slice none 0 0, .slice none 0 0, .int .i64 1, .int .i64 3, .int .u32 4, .bool false], .int .i64 12] w10 (GivesSub 0 0 7 1 100 5 12 0 [65002] [] w10)) := by
    have h := subject_any 0 0 0 1 5 0 0 0 0 true false false false false (some ⟨s1, 0, none⟩) none none none 1 1 0 0 0 0 0 0 [(2, [65002])] [] [] [] 1 3 4 false 12 w10 HL0.out (by unfold Sm flat; decide)
    have e : protoR 3 = 7 := by kernel_rfl
    rw [e, if_neg (by simp)] at h
    exact h
  go_wp2_with (first | (refine wpList_load_blk rfl 49 _ rfl n3 rfl HR.out _ Try.underlying49 rfl (by kernel_rfl) ?_))
  refine HCX.out.mono ?_
  rintro e w11 ⟨fA, eA, fn, fc, en, ec, rfl, hfl, hcm, hb⟩
  clear HCX
  obtain rfl : fn = 1 := hfl.len.symm
  obtain rfl : en = 0 := hcm.len.symm
  have HFL := Lib.hid hfl
  have HCM := Lib.hid hcm
  clear hfl hcm
  have HPS2 := Lib.hid (Recs.more (Recs.below HPS.out hb) hb.size)
  clear HPS
  have HPS := HPS2
  clear HPS2
  have HBW2 := Lib.hid (HBW.out.trans (hb.mono HBW.out.size))
  clear HBW
  have HBW := HBW2
  clear HBW2
  have HC2 := Lib.hid (HC.out.keep hb)
  clear HC
  have HC := HC2
  clear HC2
  have HL02 := Lib.hid (HL0.out.grow hb (Nat.le_refl _))
  clear HL0
  have HL0 := HL02
  clear HL02
  have HA2 := Lib.hid (HA.out.keep hb)
  clear HA
  have HA := HA2
  clear HA2
  have HR2 := Lib.hid (HR.out.keep hb)
  clear HR
  have HR := HR2
  clear HR2
  have HL42 := Lib.hid (HL4.out.grow hb (Nat.le_refl _))
  clear HL4
  have HL4 := HL42
  clear HL42
  have HX2 := Lib.hid (HX.out.keep hb)
  clear HX
  have HX := HX2
  clear HX2
  have HL52 := Lib.hid (HL5.out.grow hb (Nat.le_refl _))
  clear HL5
  have HL5 := HL52
  clear HL52
  have HY2 := Lib.hid (HY.out.keep hb)
  clear HY
  have HY := HY2
  clear HY2
  have HL62 := Lib.hid (HL6.out.grow hb (Nat.le_refl _))
  clear HL6
  have HL6 := HL62
  clear HL62
  have HN2 := Lib.hid (HN.out.keep hb)
  clear HN
  have HN := HN2
  clear HN2
  clear hb
  obtain ⟨n10, hn10⟩ : ∃ n, w11.heap.size = n := ⟨_, rfl⟩
  obtain ⟨w12, hw12⟩ : ∃ wq, (w11.alloc (.cells #[.int .u32 0, .int .i64 0, .int .i64 0, .int .u32 0, .slice none 0 0, .slice none 0 0, .int .i64 0, .int .i64 0, .int .i64 0, .int .i64 0] 54)).setRow n10 #[.int .u32 0, .int .i64 0, .int .i64 7, .int .u32 1, .slice fA 1 fc, .slice eA 0 ec, .int .i64 100, .int .i64 5, .int .i64 12, .int .i64 0] = wq := ⟨_, rfl⟩
  have hbx := box_new (w := w11) (T := 54) [.int .u32 0, .int .i64 0, .int .i64 0, .int .u32 0, .slice none 0 0, .slice none 0 0, .int .i64 0, .int .i64 0, .int .i64 0, .int .i64 0] ([.int .u32 0, .int .i64 0, .int .i64 7, .int .u32 1, .slice fA 1 fc, .slice eA 0 ec, .int .i64 100, .int .i64 5, .int .i64 12, .int .i64 0])
  rw [hn10] at hbx
  have HZ : Hid (Blk (w11.alloc (.cells #[.int .u32 0, .int .i64 0, .int .i64 0, .int .u32 0, .slice none 0 0, .slice none 0 0, .int .i64 0, .int .i64 0, .int .i64 0, .int .i64 0] 54)) n10 54 [.int .u32 0, .int .i64 0, .int .i64 0, .int .u32 0, .slice none 0 0, .slice none 0 0, .int .i64 0, .int .i64 0, .int .i64 0, .int .i64 0]) := by show Blk _ _ _ _; rw [← hn10]; exact Blk.new w11 _ _
  have HSn : Hid (Blk w12 n10 54 ([.int .u32 0, .int .i64 0, .int .i64 7, .int .u32 1, .slice fA 1 fc, .slice eA 0 ec, .int .i64 100, .int .i64 5, .int .i64 12, .int .i64 0])) := by show Blk _ _ _ _; rw [← hw12]; exact hbx.1
  have hbq : Below w11.heap.size w11 w12 := by have h := hbx.2; rw [hw12, ← hn10] at h; exact h
  clear hbx
  go_upto_region 10 with (first | (refine wpList_store_blk (cs := [.int .u32 0, .int .i64 0, .int .i64 7, .int .u32 1, .slice fA 1 fc, .slice eA 0 ec, .int .i64 100, .int .i64 5, .int .i64 12, .int .i64 0]) rfl 54 _ _ rfl n10 rfl rfl HZ.out (by kernel_rfl) rfl (by kernel_rfl) ?_) | (rw [hn10]; refine wpList_store_blk (cs := [.int .u32 0, .int .i64 0, .int .i64 7, .int .u32 1, .slice fA 1 fc, .slice eA 0 ec, .int .i64 100, .int .i64 5, .int .i64 12, .int .i64 0]) rfl 54 _ _ rfl n10 rfl rfl HZ.out (by kernel_rfl) rfl (by kernel_rfl) ?_))
  try rw [hw12]
  clear HZ
  have HPS2 := Lib.hid (Recs.more (Recs.below HPS.out hbq) hbq.size)
  clear HPS
  have HPS := HPS2
  clear HPS2
  have HBW2 := Lib.hid (HBW.out.trans (hbq.mono HBW.out.size))
  clear HBW
  have HBW := HBW2
  clear HBW2
  have HC2 := Lib.hid (HC.out.keep hbq)
  clear HC
  have HC := HC2
  clear HC2
  have HL02 := Lib.hid (HL0.out.grow hbq (Nat.le_refl _))
  clear HL0
  have HL0 := HL02
  clear HL02
  have HA2 := Lib.hid (HA.out.keep hbq)
  clear HA
  have HA := HA2
  clear HA2
  have HR2 := Lib.hid (HR.out.keep hbq)
  clear HR
  have HR := HR2
  clear HR2
  have HL42 := Lib.hid (HL4.out.grow hbq (Nat.le_refl _))
  clear HL4
  have HL4 := HL42
  clear HL42
  have HX2 := Lib.hid (HX.out.keep hbq)
  clear HX
  have HX := HX2
  clear HX2
  have HL52 := Lib.hid (HL5.out.grow hbq (Nat.le_refl _))
  clear HL5
  have HL5 := HL52
  clear HL52
  have HY2 := Lib.hid (HY.out.keep hbq)
  clear HY
  have HY := HY2
  clear HY2
  have HL62 := Lib.hid (HL6.out.grow hbq (Nat.le_refl _))
  clear HL6
  have HL6 := HL62
  clear HL62
  have HN2 := Lib.hid (HN.out.keep hbq)
  clear HN
  have HN := HN2
  clear HN2
  have HFL2 := Lib.hid ((HFL.out.below hbq).more hbq.size)
  clear HFL
  have HFL := HFL2
  clear HFL2
  have HCM2 := Lib.hid ((HCM.out.below hbq).more hbq.size)
  clear HCM
  have HCM := HCM2
  clear HCM2
  have HS := HSn
  clear HSn hbq
  obtain ⟨n11, hn11⟩ : ∃ n, w12.heap.size = n := ⟨_, rfl⟩
  obtain ⟨w13, hw13⟩ : ∃ wq, (w12.alloc (.cells #[.int .u32 0, .int .i64 0, .int .i64 0, .int .u32 0, .slice none 0 0, .slice none 0 0, .int .i64 0, .int .i64 0, .int .i64 0, .int .i64 0] 54)).setRow n11 #[.int .u32 0, .int .i64 0, .int .i64 7, .int .u32 1, .slice fA 1 fc, .slice eA 0 ec, .int .i64 100, .int .i64 5, .int .i64 12, .int .i64 0] = wq := ⟨_, rfl⟩
  have hbx := box_new (w := w12) (T := 54) [.int .u32 0, .int .i64 0, .int .i64 0, .int .u32 0, .slice none 0 0, .slice none 0 0, .int .i64 0, .int .i64 0, .int .i64 0, .int .i64 0] ([.int .u32 0, .int .i64 0, .int .i64 7, .int .u32 1, .slice fA 1 fc, .slice eA 0 ec, .int .i64 100, .int .i64 5, .int .i64 12, .int .i64 0])
  rw [hn11] at hbx
  have HZ : Hid (Blk (w12.alloc (.cells #[.int .u32 0, .int .i64 0, .int .i64 0, .int .u32 0, .slice none 0 0, .slice none 0 0, .int .i64 0, .int .i64 0, .int .i64 0, .int .i64 0] 54)) n11 54 [.int .u32 0, .int .i64 0, .int .i64 0, .int .u32 0, .slice none 0 0, .slice none 0 0, .int .i64 0, .int .i64 0, .int .i64 0, .int .i64 0]) := by show Blk _ _ _ _; rw [← hn11]; exact Blk.new w12 _ _
  have hk13 : Blk w13 n11 54 [.int .u32 0, .int .i64 0, .int .i64 7, .int .u32 1, .slice fA 1 fc, .slice eA 0 ec, .int .i64 100, .int .i64 5, .int .i64 12, .int .i64 0] := by rw [← hw13]; exact hbx.1
  have hb13 : Below w12.heap.size w12 w13 := by have h := hbx.2; rw [hw13, ← hn11] at h; exact h
  clear hbx
  obtain ⟨w14, hw14⟩ : ∃ wq, w13.setCell ⟨n11, 6, none⟩ (.int .i64 300) = wq := ⟨_, rfl⟩
  have hk14 : Blk w14 n11 54 [.int .u32 0, .int .i64 0, .int .i64 7, .int .u32 1, .slice fA 1 fc, .slice eA 0 ec, .int .i64 300, .int .i64 5, .int .i64 12, .int .i64 0] := by rw [← hw14]; exact hk13.set 6 _
  have hb14 : Below w12.heap.size w12 w14 := by rw [← hw14]; exact hb13.trans (Save.set.below (Nat.le_of_eq hn11) hb13.size)
  obtain ⟨s15, hs15⟩ : ∃ n, w14.heap.size = n := ⟨_, rfl⟩
  obtain ⟨w15, hw15⟩ : ∃ wq, w14.alloc (.cells #[.int .i64 7, .int .i64 65002] 3) = wq := ⟨_, rfl⟩
  have hb45 : Below w14.heap.size w14 w15 := by rw [← hw15]; exact belowA _ _
  have hk15 := hk14.keep hb45
  have hi15 : Ints w15 w15.heap.size .i64 (some ⟨s15, 0, none⟩) 2 2 [7, 65002] := by
    have h := ints_lit w14 3 .i64 2 [7, 65002] rfl (by simp [maxLen]) (w14.alloc (.cells ([7, 65002].map (Value.int .i64)).toArray 3)).heap.size (by simp)
    rw [hs15] at h
    rw [← hw15]
    exact h
  obtain ⟨w16, hw16⟩ : ∃ wq, w15.setCell ⟨n11, 4, none⟩ (.slice (some ⟨s15, 0, none⟩) 2 2) = wq := ⟨_, rfl⟩
  have hs16 : Save n11 w15 w16 := by rw [← hw16]; exact Save.set
  have hk16 : Blk w16 n11 54 [.int .u32 0, .int .i64 0, .int .i64 7, .int .u32 1, .slice (some ⟨s15, 0, none⟩) 2 2, .slice eA 0 ec, .int .i64 300, .int .i64 5, .int .i64 12, .int .i64 0] := by rw [← hw16]; exact hk15.set 4 _
  have hb16 : Below w12.heap.size w12 w16 := (hb14.trans (hb45.mono hb14.size)).trans (hs16.below (Nat.le_of_eq hn11) (Nat.le_trans hb14.size hb45.size))
  have HAPn : Hid (Ints w16 w16.heap.size .i64 (some ⟨s15, 0, none⟩) 2 2 [7, 65002]) := (ints_save hi15 hs16 (Nat.le_refl _) fun _ ad e => by injection e with e; subst e; have := hk14.lt; show s15 ≠ n11; omega).more hs16.size
  have HTn : Hid (Blk w16 n11 54 [.int .u32 0, .int .i64 0, .int .i64 7, .int .u32 1, .slice (some ⟨s15, 0, none⟩) 2 2, .slice eA 0 ec, .int .i64 300, .int .i64 5, .int .i64 12, .int .i64 0]) := hk16
  have t6 := hk13.cell 6
  have t4 := hk15.cell 4
  have ft6 := hk13.frozen 6
  have ft4 := hk15.frozen 4
  simp only [List.getElem?_cons_zero, List.getElem?_cons_succ] at t4 t6
  have lt6 : n11 < w13.heap.size := hk13.lt
  have lt4 : n11 < w15.heap.size := hk15.lt
  clear hk13 hb13 hk14 hb14 hb45 hk15 hi15 hs16 hk16
  go_upto_region 13 with (first | (refine wpList_load_blk rfl 54 _ rfl n10 rfl HS.out _ Try.underlying54 rfl (by kernel_rfl) ?_) | (refine wpList_store_blk (cs := [.int .u32 0, .int .i64 0, .int .i64 7, .int .u32 1, .slice fA 1 fc, .slice eA 0 ec, .int .i64 100, .int .i64 5, .int .i64 12, .int .i64 0]) rfl 54 _ _ rfl n11 rfl rfl HZ.out (by kernel_rfl) rfl (by kernel_rfl) ?_))
  try rw [hw16]
  clear HZ t6 t4 ft6 ft4 lt6 lt4
  have HPS2 := Lib.hid (Recs.more (Recs.below HPS.out hb16) hb16.size)
  clear HPS
  have HPS := HPS2
  clear HPS2
  have HBW2 := Lib.hid (HBW.out.trans (hb16.mono HBW.out.size))
  clear HBW
  have HBW := HBW2
  clear HBW2
  have HC2 := Lib.hid (HC.out.keep hb16)
  clear HC
  have HC := HC2
  clear HC2
  have HL02 := Lib.hid (HL0.out.grow hb16 (Nat.le_refl _))
  clear HL0
  have HL0 := HL02
  clear HL02
  have HA2 := Lib.hid (HA.out.keep hb16)
  clear HA
  have HA := HA2
  clear HA2
  have HR2 := Lib.hid (HR.out.keep hb16)
  clear HR
  have HR := HR2
  clear HR2
  have HL42 := Lib.hid (HL4.out.grow hb16 (Nat.le_refl _))
  clear HL4
  have HL4 := HL42
  clear HL42
  have HX2 := Lib.hid (HX.out.keep hb16)
  clear HX
  have HX := HX2
  clear HX2
  have HL52 := Lib.hid (HL5.out.grow hb16 (Nat.le_refl _))
  clear HL5
  have HL5 := HL52
  clear HL52
  have HY2 := Lib.hid (HY.out.keep hb16)
  clear HY
  have HY := HY2
  clear HY2
  have HL62 := Lib.hid (HL6.out.grow hb16 (Nat.le_refl _))
  clear HL6
  have HL6 := HL62
  clear HL62
  have HN2 := Lib.hid (HN.out.keep hb16)
  clear HN
  have HN := HN2
  clear HN2
  have HFL2 := Lib.hid ((HFL.out.below hb16).more hb16.size)
  clear HFL
  have HFL := HFL2
  clear HFL2
  have HCM2 := Lib.hid ((HCM.out.below hb16).more hb16.size)
  clear HCM
  have HCM := HCM2
  clear HCM2
  have HS2 := Lib.hid (HS.out.keep hb16)
  clear HS
  have HS := HS2
  clear HS2
  have HT := HTn
  have HAP := HAPn
  clear HTn HAPn hb16
  have HCX : Hid (Calls Try.prog 20 #[.agg #[.int .i64 0, .slice (some ⟨s1, 0, none⟩) 1 1, .int .u32 1, .bool true, .int .i64 5, .bool false, .int .i64 0, .bool false, .bool false, .int .i64 0, .int .u32 0, .slice none 0 0, .bool false, .int .u32 0, .slice none 0 0, .slice none 0 0], .agg #[.int .u32 0, .int .i64 0, .int .i64 7, .int .u32 1, .slice fA 1 fc, .slice eA 0 ec, .int .i64 100, .int .i64 5, .int .i64 12, .int .i64 0], .agg #[.int .u32 0, .int .i64 0, .int .i64 7, .int .u32 1, .slice (some ⟨s15, 0, none⟩) 2 2, .slice eA 0 ec, .int .i64 300, .int .i64 5, .int .i64 12, .int .i64 0]] w16 (GivesAtt (attZ, 0) w16)) := by
    have h := changed_any 0 1 5 0 0 0 0 true false false false false (some ⟨s1, 0, none⟩) none none none 1 1 0 0 0 0 0 0 [(2, [65002])] [] [] [] 0 0 7 1 100 5 12 0 fA eA 1 fc 0 ec [65002] [] 0 0 7 1 300 5 12 0 (some ⟨s15, 0, none⟩) eA 2 2 0 ec [7, 65002] [] w16 HL0.out HFL.out HAP.out HCM.out (by unfold flat; decide) (by unfold flat; decide) (by omega) (by omega)
    have e : changedR ⟨0, [(2, [65002])], 1, true, 5, false, 0, false, false, 0, 0, [], false, 0, [], []⟩ [65002] 100 5 [7, 65002] [] 1 300 5 = (attZ, 0) := ex_changed
    rw [e] at h
    exact h
  go_wp2_with (first | (refine wpList_load_blk rfl 40 _ rfl n2 rfl HA.out _ Try.underlying40 rfl (by kernel_rfl) ?_) | (refine wpList_load_blk rfl 54 _ rfl n10 rfl HS.out _ Try.underlying54 rfl (by kernel_rfl) ?_) | (refine wpList_load_blk rfl 54 _ rfl n11 rfl HT.out _ Try.underlying54 rfl (by kernel_rfl) ?_))
  refine HCX.out.mono ?_
  rintro e w17 ⟨pA7, cA7, kA7, uA7, pn7, pc7, cn7, cc7, kn7, kc7, un7, uc7, he, hl, hb⟩
  clear HCX
  obtain rfl : pn7 = 1 := hl.path.len.symm
  obtain rfl : cn7 = 0 := hl.comm.len.symm
  obtain rfl : kn7 = 0 := hl.clus.len.symm
  obtain rfl : un7 = 0 := hl.unk.len.symm
  have he2 : e = .returned (.tuple #[.agg #[.int .i64 0, .slice pA7 1 pc7, .int .u32 1, .bool true, .int .i64 5, .bool true, .int .i64 300, .bool false, .bool false, .int .i64 0, .int .u32 0, .slice cA7 0 cc7, .bool false, .int .u32 0, .slice kA7 0 kc7, .slice uA7 0 uc7], .int .i64 0]) := he
  subst he2
  clear he
  have HPS2 := Lib.hid (Recs.more (Recs.below HPS.out hb) hb.size)
  clear HPS
  have HPS := HPS2
  clear HPS2
  have HBW2 := Lib.hid (HBW.out.trans (hb.mono HBW.out.size))
  clear HBW
  have HBW := HBW2
  clear HBW2
  have HC2 := Lib.hid (HC.out.keep hb)
  clear HC
  have HC := HC2
  clear HC2
  have HL02 := Lib.hid (HL0.out.grow hb (Nat.le_refl _))
  clear HL0
  have HL0 := HL02
  clear HL02
  have HA2 := Lib.hid (HA.out.keep hb)
  clear HA
  have HA := HA2
  clear HA2
  have HR2 := Lib.hid (HR.out.keep hb)
  clear HR
  have HR := HR2
  clear HR2
  have HL42 := Lib.hid (HL4.out.grow hb (Nat.le_refl _))
  clear HL4
  have HL4 := HL42
  clear HL42
  have HX2 := Lib.hid (HX.out.keep hb)
  clear HX
  have HX := HX2
  clear HX2
  have HL52 := Lib.hid (HL5.out.grow hb (Nat.le_refl _))
  clear HL5
  have HL5 := HL52
  clear HL52
  have HY2 := Lib.hid (HY.out.keep hb)
  clear HY
  have HY := HY2
  clear HY2
  have HL62 := Lib.hid (HL6.out.grow hb (Nat.le_refl _))
  clear HL6
  have HL6 := HL62
  clear HL62
  have HN2 := Lib.hid (HN.out.keep hb)
  clear HN
  have HN := HN2
  clear HN2
  have HFL2 := Lib.hid ((HFL.out.below hb).more hb.size)
  clear HFL
  have HFL := HFL2
  clear HFL2
  have HCM2 := Lib.hid ((HCM.out.below hb).more hb.size)
  clear HCM
  have HCM := HCM2
  clear HCM2
  have HS2 := Lib.hid (HS.out.keep hb)
  clear HS
  have HS := HS2
  clear HS2
  have HT2 := Lib.hid (HT.out.keep hb)
  clear HT
  have HT := HT2
  clear HT2
  have HAP2 := Lib.hid ((HAP.out.below hb).more hb.size)
  clear HAP
  have HAP := HAP2
  clear HAP2
  have HL7 : Hid (Lists w17 w17.heap.size pA7 cA7 kA7 uA7 1 pc7 0 cc7 0 kc7 0 uc7 attZ.path [] attZ.clus []) := hl
  clear hl hb
  obtain ⟨n12, hn12⟩ : ∃ n, w17.heap.size = n := ⟨_, rfl⟩
  obtain ⟨w18, hw18⟩ : ∃ wq, (w17.alloc (.cells #[.int .i64 0, .slice none 0 0, .int .u32 0, .bool false, .int .i64 0, .bool false, .int .i64 0, .bool false, .bool false, .int .i64 0, .int .u32 0, .slice none 0 0, .bool false, .int .u32 0, .slice none 0 0, .slice none 0 0] 40)).setRow n12 #[.int .i64 0, .slice pA7 1 pc7, .int .u32 1, .bool true, .int .i64 5, .bool true, .int .i64 300, .bool false, .bool false, .int .i64 0, .int .u32 0, .slice cA7 0 cc7, .bool false, .int .u32 0, .slice kA7 0 kc7, .slice uA7 0 uc7] = wq := ⟨_, rfl⟩
  have hbx := box_new (w := w17) (T := 40) [.int .i64 0, .slice none 0 0, .int .u32 0, .bool false, .int .i64 0, .bool false, .int .i64 0, .bool false, .bool false, .int .i64 0, .int .u32 0, .slice none 0 0, .bool false, .int .u32 0, .slice none 0 0, .slice none 0 0] ([.int .i64 0, .slice pA7 1 pc7, .int .u32 1, .bool true, .int .i64 5, .bool true, .int .i64 300, .bool false, .bool false, .int .i64 0, .int .u32 0, .slice cA7 0 cc7, .bool false, .int .u32 0, .slice kA7 0 kc7, .slice uA7 0 uc7])
  rw [hn12] at hbx
  have HZ : Hid (Blk (w17.alloc (.cells #[.int .i64 0, .slice none 0 0, .int .u32 0, .bool false, .int .i64 0, .bool false, .int .i64 0, .bool false, .bool false, .int .i64 0, .int .u32 0, .slice none 0 0, .bool false, .int .u32 0, .slice none 0 0, .slice none 0 0] 40)) n12 40 [.int .i64 0, .slice none 0 0, .int .u32 0, .bool false, .int .i64 0, .bool false, .int .i64 0, .bool false, .bool false, .int .i64 0, .int .u32 0, .slice none 0 0, .bool false, .int .u32 0, .slice none 0 0, .slice none 0 0]) := by show Blk _ _ _ _; rw [← hn12]; exact Blk.new w17 _ _
  have HQn : Hid (Blk w18 n12 40 ([.int .i64 0, .slice pA7 1 pc7, .int .u32 1, .bool true, .int .i64 5, .bool true, .int .i64 300, .bool false, .bool false, .int .i64 0, .int .u32 0, .slice cA7 0 cc7, .bool false, .int .u32 0, .slice kA7 0 kc7, .slice uA7 0 uc7])) := by show Blk _ _ _ _; rw [← hw18]; exact hbx.1
  have hbq : Below w17.heap.size w17 w18 := by have h := hbx.2; rw [hw18, ← hn12] at h; exact h
  clear hbx
  go_upto_region 14 with (first | (refine wpList_store_blk (cs := [.int .i64 0, .slice pA7 1 pc7, .int .u32 1, .bool true, .int .i64 5, .bool true, .int .i64 300, .bool false, .bool false, .int .i64 0, .int .u32 0, .slice cA7 0 cc7, .bool false, .int .u32 0, .slice kA7 0 kc7, .slice uA7 0 uc7]) rfl 40 _ _ rfl n12 rfl rfl HZ.out (by kernel_rfl) rfl (by kernel_rfl) ?_) | (rw [hn12]; refine wpList_store_blk (cs := [.int .i64 0, .slice pA7 1 pc7, .int .u32 1, .bool true, .int .i64 5, .bool true, .int .i64 300, .bool false, .bool false, .int .i64 0, .int .u32 0, .slice cA7 0 cc7, .bool false, .int .u32 0, .slice kA7 0 kc7, .slice uA7 0 uc7]) rfl 40 _ _ rfl n12 rfl rfl HZ.out (by kernel_rfl) rfl (by kernel_rfl) ?_))
  try rw [hw18]
  clear HZ
  have HPS2 := Lib.hid (Recs.more (Recs.below HPS.out hbq) hbq.size)
  clear HPS
  have HPS := HPS2
  clear HPS2
  have HBW2 := Lib.hid (HBW.out.trans (hbq.mono HBW.out.size))
  clear HBW
  have HBW := HBW2
  clear HBW2
  have HC2 := Lib.hid (HC.out.keep hbq)
  clear HC
  have HC := HC2
  clear HC2
  have HL02 := Lib.hid (HL0.out.grow hbq (Nat.le_refl _))
  clear HL0
  have HL0 := HL02
  clear HL02
  have HA2 := Lib.hid (HA.out.keep hbq)
  clear HA
  have HA := HA2
  clear HA2
  have HR2 := Lib.hid (HR.out.keep hbq)
  clear HR
  have HR := HR2
  clear HR2
  have HL42 := Lib.hid (HL4.out.grow hbq (Nat.le_refl _))
  clear HL4
  have HL4 := HL42
  clear HL42
  have HX2 := Lib.hid (HX.out.keep hbq)
  clear HX
  have HX := HX2
  clear HX2
  have HL52 := Lib.hid (HL5.out.grow hbq (Nat.le_refl _))
  clear HL5
  have HL5 := HL52
  clear HL52
  have HY2 := Lib.hid (HY.out.keep hbq)
  clear HY
  have HY := HY2
  clear HY2
  have HL62 := Lib.hid (HL6.out.grow hbq (Nat.le_refl _))
  clear HL6
  have HL6 := HL62
  clear HL62
  have HN2 := Lib.hid (HN.out.keep hbq)
  clear HN
  have HN := HN2
  clear HN2
  have HFL2 := Lib.hid ((HFL.out.below hbq).more hbq.size)
  clear HFL
  have HFL := HFL2
  clear HFL2
  have HCM2 := Lib.hid ((HCM.out.below hbq).more hbq.size)
  clear HCM
  have HCM := HCM2
  clear HCM2
  have HS2 := Lib.hid (HS.out.keep hbq)
  clear HS
  have HS := HS2
  clear HS2
  have HT2 := Lib.hid (HT.out.keep hbq)
  clear HT
  have HT := HT2
  clear HT2
  have HAP2 := Lib.hid ((HAP.out.below hbq).more hbq.size)
  clear HAP
  have HAP := HAP2
  clear HAP2
  have HL72 := Lib.hid (HL7.out.grow hbq (Nat.le_refl _))
  clear HL7
  have HL7 := HL72
  clear HL72
  have HQ := HQn
  clear HQn hbq
  obtain ⟨zb, zo, zf, rfl, hzb, hzf, zg0, zg1, hzi⟩ := HL7.out.path.get (j := 0) (by omega)
  obtain ⟨zk, zA, zn, zc, zs⟩ := zf
  dsimp only at zg0 zg1 hzi
  have hze : ((2 : Int), ([7, 65002] : List Int)) = (zk, zs) := Option.some.inj hzf.out
  obtain ⟨rfl, rfl⟩ := Prod.mk.inj hze
  obtain rfl : zn = 2 := hzi.out.len.symm
  obtain ⟨zzb, zzo, zz, rfl, hzzb, zgz, hzz⟩ := hzi.out.cell (j := 0) (by omega)
  obtain rfl : zz = 7 := hzz.out.symm
  simp only [Nat.zero_mul, Nat.zero_add, Nat.add_zero] at zg0 zg1 zgz
  clear hzf hze hzi hzz
  have z1 := HQ.out.cell 1
  have z6 := HQ.out.cell 6
  have s2 := HS.out.cell 2
  have s8 := HS.out.cell 8
  simp only [List.getElem?_cons_zero, List.getElem?_cons_succ] at z1 z6 s2 s8
  have HCX : Hid (Calls Try.prog 12 #[.agg #[.int .i64 65001, .int .i64 0, .int .u32 9, .int .u32 0, .slice (some ⟨b, 0, none⟩) 4 4, .slice none 0 0, .slice none 0 0, .slice none 0 0, .slice none 0 0, .slice none 0 0, .int .i64 0, .int .i64 0, .int .i64 0, .int .i64 0, .int .i64 0], .int .i64 0, .agg #[.int .i64 0, .slice (some ⟨s1, 0, none⟩) 1 1, .int .u32 1, .bool true, .int .i64 5, .bool false, .int .i64 0, .bool false, .bool false, .int .i64 0, .int .u32 0, .slice none 0 0, .bool false, .int .u32 0, .slice none 0 0, .slice none 0 0]] w18 fun e w' => e = .returned (.int .i64 0) ∧ Below w18.heap.size w18 w') := by
    have h := accept_any 65001 0 9 0 (some ⟨b, 0, none⟩) none none none none none 4 4 0 0 0 0 0 0 0 0 0 0 0 0 0 0 0 0 0 1 5 0 0 0 0 true false false false false (some ⟨s1, 0, none⟩) none none none 1 1 0 0 0 0 0 0 [(2, [65002])] [] [] [] psX w18 HPS.out HL0.out (by unfold Sm flat; decide)
    have e : acceptR 0 psX 65001 0 9 0 ⟨0, [(2, [65002])], 1, true, 5, false, 0, false, false, 0, 0, [], false, 0, [], []⟩ = 0 := ex_acc0
    rw [e] at h
    exact h
  go_wp2_with (first | (refine wpList_load_blkG (by rfl) 34 _ rfl n1 rfl HC.out _ Try.underlying34 rfl (by kernel_rfl) ?_) | (refine wpList_load_blkG (by rfl) 40 _ rfl n2 rfl HA.out _ Try.underlying40 rfl (by kernel_rfl) ?_))
  refine HCX.out.mono ?_
  rintro e w19 ⟨rfl, hb⟩
  clear HCX
  have HPS2 := Lib.hid (Recs.more (Recs.below HPS.out hb) hb.size)
  clear HPS
  have HPS := HPS2
  clear HPS2
  have HBW2 := Lib.hid (HBW.out.trans (hb.mono HBW.out.size))
  clear HBW
  have HBW := HBW2
  clear HBW2
  have HC2 := Lib.hid (HC.out.keep hb)
  clear HC
  have HC := HC2
  clear HC2
  have HL02 := Lib.hid (HL0.out.grow hb (Nat.le_refl _))
  clear HL0
  have HL0 := HL02
  clear HL02
  have HA2 := Lib.hid (HA.out.keep hb)
  clear HA
  have HA := HA2
  clear HA2
  have HR2 := Lib.hid (HR.out.keep hb)
  clear HR
  have HR := HR2
  clear HR2
  have HL42 := Lib.hid (HL4.out.grow hb (Nat.le_refl _))
  clear HL4
  have HL4 := HL42
  clear HL42
  have HX2 := Lib.hid (HX.out.keep hb)
  clear HX
  have HX := HX2
  clear HX2
  have HL52 := Lib.hid (HL5.out.grow hb (Nat.le_refl _))
  clear HL5
  have HL5 := HL52
  clear HL52
  have HY2 := Lib.hid (HY.out.keep hb)
  clear HY
  have HY := HY2
  clear HY2
  have HL62 := Lib.hid (HL6.out.grow hb (Nat.le_refl _))
  clear HL6
  have HL6 := HL62
  clear HL62
  have HN2 := Lib.hid (HN.out.keep hb)
  clear HN
  have HN := HN2
  clear HN2
  have HFL2 := Lib.hid ((HFL.out.below hb).more hb.size)
  clear HFL
  have HFL := HFL2
  clear HFL2
  have HCM2 := Lib.hid ((HCM.out.below hb).more hb.size)
  clear HCM
  have HCM := HCM2
  clear HCM2
  have HS2 := Lib.hid (HS.out.keep hb)
  clear HS
  have HS := HS2
  clear HS2
  have HT2 := Lib.hid (HT.out.keep hb)
  clear HT
  have HT := HT2
  clear HT2
  have HAP2 := Lib.hid ((HAP.out.below hb).more hb.size)
  clear HAP
  have HAP := HAP2
  clear HAP2
  have HL72 := Lib.hid (HL7.out.grow hb (Nat.le_refl _))
  clear HL7
  have HL7 := HL72
  clear HL72
  have HQ2 := Lib.hid (HQ.out.keep hb)
  clear HQ
  have HQ := HQ2
  clear HQ2
  clear hb
  have HCX : Hid (Calls Try.prog 12 #[.agg #[.int .i64 65001, .int .i64 0, .int .u32 9, .int .u32 0, .slice (some ⟨b, 0, none⟩) 4 4, .slice none 0 0, .slice none 0 0, .slice none 0 0, .slice none 0 0, .slice none 0 0, .int .i64 0, .int .i64 0, .int .i64 0, .int .i64 0, .int .i64 0], .int .i64 0, .agg #[.int .i64 0, .slice (some ⟨xb, xo, none⟩) 1 pc4, .int .u32 7, .bool false, .int .i64 0, .bool false, .int .i64 0, .bool false, .bool false, .int .i64 0, .int .u32 0, .slice cA4 0 cc4, .bool false, .int .u32 0, .slice kA4 0 kc4, .slice uA4 0 uc4]] w19 fun e w' => e = .returned (.int .i64 14) ∧ Below w19.heap.size w19 w') := by
    have h := accept_any 65001 0 9 0 (some ⟨b, 0, none⟩) none none none none none 4 4 0 0 0 0 0 0 0 0 0 0 0 0 0 0 0 0 0 7 0 0 0 0 0 false false false false false (some ⟨xb, xo, none⟩) cA4 kA4 uA4 1 pc4 0 cc4 0 kc4 0 uc4 [(2, [65001, 65002])] [] [] [] psX w19 HPS.out HL4.out (by unfold Sm flat; decide)
    have e : acceptR 0 psX 65001 0 9 0 ⟨0, [(2, [65001, 65002])], 7, false, 0, false, 0, false, false, 0, 0, [], false, 0, [], []⟩ = 14 := ex_acc1
    rw [e] at h
    exact h
  go_wp2_with (first | (refine wpList_load_blkG (by rfl) 34 _ rfl n1 rfl HC.out _ Try.underlying34 rfl (by kernel_rfl) ?_) | (refine wpList_load_blkG (by rfl) 40 _ rfl n4 rfl HX.out _ Try.underlying40 rfl (by kernel_rfl) ?_))
  refine HCX.out.mono ?_
  rintro e w20 ⟨rfl, hb⟩
  clear HCX
  have HPS2 := Lib.hid (Recs.more (Recs.below HPS.out hb) hb.size)
  clear HPS
  have HPS := HPS2
  clear HPS2
  have HBW2 := Lib.hid (HBW.out.trans (hb.mono HBW.out.size))
  clear HBW
  have HBW := HBW2
  clear HBW2
  have HC2 := Lib.hid (HC.out.keep hb)
  clear HC
  have HC := HC2
  clear HC2
  have HL02 := Lib.hid (HL0.out.grow hb (Nat.le_refl _))
  clear HL0
  have HL0 := HL02
  clear HL02
  have HA2 := Lib.hid (HA.out.keep hb)
  clear HA
  have HA := HA2
  clear HA2
  have HR2 := Lib.hid (HR.out.keep hb)
  clear HR
  have HR := HR2
  clear HR2
  have HL42 := Lib.hid (HL4.out.grow hb (Nat.le_refl _))
  clear HL4
  have HL4 := HL42
  clear HL42
  have HX2 := Lib.hid (HX.out.keep hb)
  clear HX
  have HX := HX2
  clear HX2
  have HL52 := Lib.hid (HL5.out.grow hb (Nat.le_refl _))
  clear HL5
  have HL5 := HL52
  clear HL52
  have HY2 := Lib.hid (HY.out.keep hb)
  clear HY
  have HY := HY2
  clear HY2
  have HL62 := Lib.hid (HL6.out.grow hb (Nat.le_refl _))
  clear HL6
  have HL6 := HL62
  clear HL62
  have HN2 := Lib.hid (HN.out.keep hb)
  clear HN
  have HN := HN2
  clear HN2
  have HFL2 := Lib.hid ((HFL.out.below hb).more hb.size)
  clear HFL
  have HFL := HFL2
  clear HFL2
  have HCM2 := Lib.hid ((HCM.out.below hb).more hb.size)
  clear HCM
  have HCM := HCM2
  clear HCM2
  have HS2 := Lib.hid (HS.out.keep hb)
  clear HS
  have HS := HS2
  clear HS2
  have HT2 := Lib.hid (HT.out.keep hb)
  clear HT
  have HT := HT2
  clear HT2
  have HAP2 := Lib.hid ((HAP.out.below hb).more hb.size)
  clear HAP
  have HAP := HAP2
  clear HAP2
  have HL72 := Lib.hid (HL7.out.grow hb (Nat.le_refl _))
  clear HL7
  have HL7 := HL72
  clear HL72
  have HQ2 := Lib.hid (HQ.out.keep hb)
  clear HQ
  have HQ := HQ2
  clear HQ2
  clear hb
  have HCX : Hid (Calls Try.prog 12 #[.agg #[.int .i64 65001, .int .i64 0, .int .u32 9, .int .u32 0, .slice (some ⟨b, 0, none⟩) 4 4, .slice none 0 0, .slice none 0 0, .slice none 0 0, .slice none 0 0, .slice none 0 0, .int .i64 0, .int .i64 0, .int .i64 0, .int .i64 0, .int .i64 0], .int .i64 1, .agg #[.int .i64 0, .slice (some ⟨xb, xo, none⟩) 1 pc4, .int .u32 7, .bool false, .int .i64 0, .bool false, .int .i64 0, .bool false, .bool false, .int .i64 0, .int .u32 0, .slice cA4 0 cc4, .bool false, .int .u32 0, .slice kA4 0 kc4, .slice uA4 0 uc4]] w20 fun e w' => e = .returned (.int .i64 10) ∧ Below w20.heap.size w20 w') := by
    have h := accept_any 65001 0 9 0 (some ⟨b, 0, none⟩) none none none none none 4 4 0 0 0 0 0 0 0 0 0 0 0 0 0 0 0 1 0 7 0 0 0 0 0 false false false false false (some ⟨xb, xo, none⟩) cA4 kA4 uA4 1 pc4 0 cc4 0 kc4 0 uc4 [(2, [65001, 65002])] [] [] [] psX w20 HPS.out HL4.out (by unfold Sm flat; decide)
    have e : acceptR 1 psX 65001 0 9 0 ⟨0, [(2, [65001, 65002])], 7, false, 0, false, 0, false, false, 0, 0, [], false, 0, [], []⟩ = 10 := ex_acc2
    rw [e] at h
    exact h
  go_wp2_with (first | (refine wpList_load_blkG (by rfl) 34 _ rfl n1 rfl HC.out _ Try.underlying34 rfl (by kernel_rfl) ?_) | (refine wpList_load_blkG (by rfl) 40 _ rfl n4 rfl HX.out _ Try.underlying40 rfl (by kernel_rfl) ?_))
  refine HCX.out.mono ?_
  rintro e w21 ⟨rfl, hb⟩
  clear HCX
  have HPS2 := Lib.hid (Recs.more (Recs.below HPS.out hb) hb.size)
  clear HPS
  have HPS := HPS2
  clear HPS2
  have HBW2 := Lib.hid (HBW.out.trans (hb.mono HBW.out.size))
  clear HBW
  have HBW := HBW2
  clear HBW2
  have HC2 := Lib.hid (HC.out.keep hb)
  clear HC
  have HC := HC2
  clear HC2
  have HL02 := Lib.hid (HL0.out.grow hb (Nat.le_refl _))
  clear HL0
  have HL0 := HL02
  clear HL02
  have HA2 := Lib.hid (HA.out.keep hb)
  clear HA
  have HA := HA2
  clear HA2
  have HR2 := Lib.hid (HR.out.keep hb)
  clear HR
  have HR := HR2
  clear HR2
  have HL42 := Lib.hid (HL4.out.grow hb (Nat.le_refl _))
  clear HL4
  have HL4 := HL42
  clear HL42
  have HX2 := Lib.hid (HX.out.keep hb)
  clear HX
  have HX := HX2
  clear HX2
  have HL52 := Lib.hid (HL5.out.grow hb (Nat.le_refl _))
  clear HL5
  have HL5 := HL52
  clear HL52
  have HY2 := Lib.hid (HY.out.keep hb)
  clear HY
  have HY := HY2
  clear HY2
  have HL62 := Lib.hid (HL6.out.grow hb (Nat.le_refl _))
  clear HL6
  have HL6 := HL62
  clear HL62
  have HN2 := Lib.hid (HN.out.keep hb)
  clear HN
  have HN := HN2
  clear HN2
  have HFL2 := Lib.hid ((HFL.out.below hb).more hb.size)
  clear HFL
  have HFL := HFL2
  clear HFL2
  have HCM2 := Lib.hid ((HCM.out.below hb).more hb.size)
  clear HCM
  have HCM := HCM2
  clear HCM2
  have HS2 := Lib.hid (HS.out.keep hb)
  clear HS
  have HS := HS2
  clear HS2
  have HT2 := Lib.hid (HT.out.keep hb)
  clear HT
  have HT := HT2
  clear HT2
  have HAP2 := Lib.hid ((HAP.out.below hb).more hb.size)
  clear HAP
  have HAP := HAP2
  clear HAP2
  have HL72 := Lib.hid (HL7.out.grow hb (Nat.le_refl _))
  clear HL7
  have HL7 := HL72
  clear HL72
  have HQ2 := Lib.hid (HQ.out.keep hb)
  clear HQ
  have HQ := HQ2
  clear HQ2
  clear hb
  have HCX : Hid (Calls Try.prog 14 #[.agg #[.int .i64 65001, .int .i64 0, .int .u32 9, .int .u32 0, .slice (some ⟨b, 0, none⟩) 4 4, .slice none 0 0, .slice none 0 0, .slice none 0 0, .slice none 0 0, .slice none 0 0, .int .i64 0, .int .i64 0, .int .i64 0, .int .i64 0, .int .i64 0], .agg #[.int .u32 0, .int .i64 0, .int .i64 0, .slice (some ⟨s1, 0, none⟩) 1 1, .int .u32 1, .bool true, .int .i64 5, .bool false, .int .i64 0, .bool false, .bool false, .int .i64 0, .int .u32 0, .slice none 0 0, .bool false, .int .u32 0, .slice none 0 0, .slice none 0 0, .int .i64 1, .int .i64 3, .int .u32 4, .bool false], .int .i64 1] w21 fun e w' => e = .returned (.bool false) ∧ Below w21.heap.size w21 w') := by
    have h := may_any 65001 0 9 0 (some ⟨b, 0, none⟩) none none none none none 4 4 0 0 0 0 0 0 0 0 0 0 0 0 0 0 0 0 0 0 1 5 0 0 0 0 true false false false false (some ⟨s1, 0, none⟩) none none none 1 1 0 0 0 0 0 0 [(2, [65002])] [] [] [] 1 3 4 false 1 psX w21 HPS.out HL0.out
    rw [ex_may1] at h
    exact h
  go_wp2_with (first | (refine wpList_load_blkG (by rfl) 34 _ rfl n1 rfl HC.out _ Try.underlying34 rfl (by kernel_rfl) ?_) | (refine wpList_load_blkG (by rfl) 49 _ rfl n3 rfl HR.out _ Try.underlying49 rfl (by kernel_rfl) ?_))
  refine HCX.out.mono ?_
  rintro e w22 ⟨rfl, hb⟩
  clear HCX
  have HPS2 := Lib.hid (Recs.more (Recs.below HPS.out hb) hb.size)
  clear HPS
  have HPS := HPS2
  clear HPS2
  have HBW2 := Lib.hid (HBW.out.trans (hb.mono HBW.out.size))
  clear HBW
  have HBW := HBW2
  clear HBW2
  have HC2 := Lib.hid (HC.out.keep hb)
  clear HC
  have HC := HC2
  clear HC2
  have HL02 := Lib.hid (HL0.out.grow hb (Nat.le_refl _))
  clear HL0
  have HL0 := HL02
  clear HL02
  have HA2 := Lib.hid (HA.out.keep hb)
  clear HA
  have HA := HA2
  clear HA2
  have HR2 := Lib.hid (HR.out.keep hb)
  clear HR
  have HR := HR2
  clear HR2
  have HL42 := Lib.hid (HL4.out.grow hb (Nat.le_refl _))
  clear HL4
  have HL4 := HL42
  clear HL42
  have HX2 := Lib.hid (HX.out.keep hb)
  clear HX
  have HX := HX2
  clear HX2
  have HL52 := Lib.hid (HL5.out.grow hb (Nat.le_refl _))
  clear HL5
  have HL5 := HL52
  clear HL52
  have HY2 := Lib.hid (HY.out.keep hb)
  clear HY
  have HY := HY2
  clear HY2
  have HL62 := Lib.hid (HL6.out.grow hb (Nat.le_refl _))
  clear HL6
  have HL6 := HL62
  clear HL62
  have HN2 := Lib.hid (HN.out.keep hb)
  clear HN
  have HN := HN2
  clear HN2
  have HFL2 := Lib.hid ((HFL.out.below hb).more hb.size)
  clear HFL
  have HFL := HFL2
  clear HFL2
  have HCM2 := Lib.hid ((HCM.out.below hb).more hb.size)
  clear HCM
  have HCM := HCM2
  clear HCM2
  have HS2 := Lib.hid (HS.out.keep hb)
  clear HS
  have HS := HS2
  clear HS2
  have HT2 := Lib.hid (HT.out.keep hb)
  clear HT
  have HT := HT2
  clear HT2
  have HAP2 := Lib.hid ((HAP.out.below hb).more hb.size)
  clear HAP
  have HAP := HAP2
  clear HAP2
  have HL72 := Lib.hid (HL7.out.grow hb (Nat.le_refl _))
  clear HL7
  have HL7 := HL72
  clear HL72
  have HQ2 := Lib.hid (HQ.out.keep hb)
  clear HQ
  have HQ := HQ2
  clear HQ2
  clear hb
  have HCX : Hid (Calls Try.prog 14 #[.agg #[.int .i64 65001, .int .i64 0, .int .u32 9, .int .u32 0, .slice (some ⟨b, 0, none⟩) 4 4, .slice none 0 0, .slice none 0 0, .slice none 0 0, .slice none 0 0, .slice none 0 0, .int .i64 0, .int .i64 0, .int .i64 0, .int .i64 0, .int .i64 0], .agg #[.int .u32 0, .int .i64 0, .int .i64 0, .slice (some ⟨s1, 0, none⟩) 1 1, .int .u32 1, .bool true, .int .i64 5, .bool false, .int .i64 0, .bool false, .bool false, .int .i64 0, .int .u32 0, .slice none 0 0, .bool false, .int .u32 0, .slice none 0 0, .slice none 0 0, .int .i64 1, .int .i64 3, .int .u32 4, .bool false], .int .i64 0] w22 fun e w' => e = .returned (.bool true) ∧ Below w22.heap.size w22 w') := by
    have h := may_any 65001 0 9 0 (some ⟨b, 0, none⟩) none none none none none 4 4 0 0 0 0 0 0 0 0 0 0 0 0 0 0 0 0 0 0 1 5 0 0 0 0 true false false false false (some ⟨s1, 0, none⟩) none none none 1 1 0 0 0 0 0 0 [(2, [65002])] [] [] [] 1 3 4 false 0 psX w22 HPS.out HL0.out
    rw [ex_may0] at h
    exact h
  go_wp2_with (first | (refine wpList_load_blkG (by rfl) 34 _ rfl n1 rfl HC.out _ Try.underlying34 rfl (by kernel_rfl) ?_) | (refine wpList_load_blkG (by rfl) 49 _ rfl n3 rfl HR.out _ Try.underlying49 rfl (by kernel_rfl) ?_))
  refine HCX.out.mono ?_
  rintro e w23 ⟨rfl, hb⟩
  clear HCX
  have HPS2 := Lib.hid (Recs.more (Recs.below HPS.out hb) hb.size)
  clear HPS
  have HPS := HPS2
  clear HPS2
  have HBW2 := Lib.hid (HBW.out.trans (hb.mono HBW.out.size))
  clear HBW
  have HBW := HBW2
  clear HBW2
  have HC2 := Lib.hid (HC.out.keep hb)
  clear HC
  have HC := HC2
  clear HC2
  have HL02 := Lib.hid (HL0.out.grow hb (Nat.le_refl _))
  clear HL0
  have HL0 := HL02
  clear HL02
  have HA2 := Lib.hid (HA.out.keep hb)
  clear HA
  have HA := HA2
  clear HA2
  have HR2 := Lib.hid (HR.out.keep hb)
  clear HR
  have HR := HR2
  clear HR2
  have HL42 := Lib.hid (HL4.out.grow hb (Nat.le_refl _))
  clear HL4
  have HL4 := HL42
  clear HL42
  have HX2 := Lib.hid (HX.out.keep hb)
  clear HX
  have HX := HX2
  clear HX2
  have HL52 := Lib.hid (HL5.out.grow hb (Nat.le_refl _))
  clear HL5
  have HL5 := HL52
  clear HL52
  have HY2 := Lib.hid (HY.out.keep hb)
  clear HY
  have HY := HY2
  clear HY2
  have HL62 := Lib.hid (HL6.out.grow hb (Nat.le_refl _))
  clear HL6
  have HL6 := HL62
  clear HL62
  have HN2 := Lib.hid (HN.out.keep hb)
  clear HN
  have HN := HN2
  clear HN2
  have HFL2 := Lib.hid ((HFL.out.below hb).more hb.size)
  clear HFL
  have HFL := HFL2
  clear HFL2
  have HCM2 := Lib.hid ((HCM.out.below hb).more hb.size)
  clear HCM
  have HCM := HCM2
  clear HCM2
  have HS2 := Lib.hid (HS.out.keep hb)
  clear HS
  have HS := HS2
  clear HS2
  have HT2 := Lib.hid (HT.out.keep hb)
  clear HT
  have HT := HT2
  clear HT2
  have HAP2 := Lib.hid ((HAP.out.below hb).more hb.size)
  clear HAP
  have HAP := HAP2
  clear HAP2
  have HL72 := Lib.hid (HL7.out.grow hb (Nat.le_refl _))
  clear HL7
  have HL7 := HL72
  clear HL72
  have HQ2 := Lib.hid (HQ.out.keep hb)
  clear HQ
  have HQ := HQ2
  clear HQ2
  clear hb
  go_wp2
  go_ret
  exact ⟨rfl, HBW.out⟩
end Go.Proofs.Ytojgohgeagbkbaa
