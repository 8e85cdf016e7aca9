/- Flow and Score of the reference: the same numbers as the program's. -/
import Derived.Test.YtlcgjgmhllmekaaScore
namespace Go.Proofs.Ytlcgjgmhllmekaa
open Go.RowKit

theorem pb_zero_len (x : Int) : (pb x 4).length = 4 := pb_len x 4
/-- what the reference's Put appends to nothing, and to more bytes -/
theorem rput_nil (x : Int) (w : World) (hx : 0 ≤ x ∧ x < 4294967296) :
    Calls Try.prog 32 #[.slice none 0 0, .int .i64 4, .int .u64 x] w fun e w' => ∃ A c, e = .returned (.slice A 4 c) ∧ Ints w' w'.heap.size .u8 A 4 c (pb x 4) ∧ Below w.heap.size w w' := by
  refine (refPut_any none 0 0 4 x [] w (Ints.nil _ _ _) (by omega) hx.1 (by omega) (by omega)).mono ?_
  rintro e w' ⟨A, c, he, ho, hb⟩
  exact ⟨A, c, he, ho.ints, hb⟩
theorem rput_more (A : Option Addr) (n c : Nat) (xs : List Int) (x : Int) (w : World) (hi : Ints w w.heap.size .u8 A n c xs) (hn : n ≤ 1000) (hx : 0 ≤ x ∧ x < 4294967296) :
    Calls Try.prog 32 #[.slice A n c, .int .i64 4, .int .u64 x] w fun e w' => ∃ A c, e = .returned (.slice A (n + 4) c) ∧ Ints w' w'.heap.size .u8 A (n + 4) c (xs ++ pb x 4) ∧ Below w.heap.size w w' := by
  refine (refPut_any A n c 4 x xs w hi (by omega) hx.1 (by omega) (by omega)).mono ?_
  rintro e w' ⟨A, c, he, ho, hb⟩
  exact ⟨A, c, he, ho.ints, hb⟩

set_option maxHeartbeats 400000 in
theorem refScore_any (flow i v : Int) (w : World) (hf : 0 ≤ flow ∧ flow < 4294967296) (_hv : -9223372036854775808 ≤ v ∧ v ≤ 9223372036854775807) :
    Calls Try.prog 23 #[.int .u32 flow, .int .i64 i, .int .i64 v] w fun e w' => e = .returned (.int .u64 (sc flow i v)) ∧ Below w.heap.size w w' := by
  have hs := sc_bd flow i v
  have hh := h2_bd (i % 4294967296) flow
  have HS : Hid (sc flow i v = (1 + h2 (i % 4294967296) flow) * (min (max v 0) 65535)) := rfl
  have HH : Hid (hash (pb (i % 4294967296) 4 ++ pb flow 4) 8 = h2 (i % 4294967296) flow) := rfl
  obtain ⟨h, hhh⟩ : ∃ h, h2 (i % 4294967296) flow = h := ⟨_, rfl⟩
  rw [hhh] at hh HS HH
  rw [HS.out] at hs
  clear hhh
  have hcase : v < 0 ∨ (0 ≤ v ∧ v ≤ 65535) ∨ 65535 < v := by omega
  obtain ⟨u, hu⟩ : ∃ u, min (max v 0) 65535 = u := ⟨_, rfl⟩
  have HU := Lib.hid hu
  have hub : 0 ≤ u ∧ u ≤ 65535 := by omega
  have hi32 : 0 ≤ i % 4294967296 ∧ i % 4294967296 < 4294967296 := by omega
  rw [hu] at hs HS
  rw [Int.add_comm] at hs HS
  clear hu
  go_enter Try.func23, Try.ntmps23
  go_wp2_with fail
  refine (rput_nil _ _ (by omega)).mono ?_
  rintro e w1 ⟨A1, c1, rfl, hi1, hb1⟩
  have HI1 := Lib.hid hi1
  have HB1 := Lib.hid hb1
  clear hi1 hb1
  go_wp2_with fail
  refine (rput_more _ _ _ _ _ _ HI1.out (by omega) hf).mono ?_
  rintro e w2 ⟨A2, c2, rfl, hi2, hb2⟩
  have HI2 := Lib.hid hi2
  have HB2 := Lib.hid hb2
  clear hi2 hb2
  go_wp2_with fail
  refine (refHash_any _ _ _ _ _ _ HI2.out (by omega)).mono ?_
  rintro e w3 ⟨rfl, rfl⟩
  rw [HH.out]
  have hb : Below w.heap.size w w2 := HB1.out.trans (HB2.out.mono HB1.out.size)
  have HB := Lib.hid hb
  clear hb
  rcases hcase with h1 | ⟨h1, h2⟩ | h1
  · obtain rfl : u = 0 := by have := HU.out; omega
    go_wp2
    go_ret
    exact ⟨ret_int (by rw [HS.out]; simp), HB.out⟩
  · obtain rfl : u = v := by have := HU.out; omega
    go_wp2
    go_ret
    exact ⟨ret_int (by rw [HS.out, Int.add_comm]), HB.out⟩
  · obtain rfl : u = 65535 := by have := HU.out; omega
    go_wp2
    go_ret
    exact ⟨ret_int (by rw [HS.out, Int.add_comm]), HB.out⟩

set_option maxHeartbeats 400000 in
theorem flow_any (src dst fl ttl : Int) (L : Value) (w : World) (h0 : 0 ≤ src ∧ src < 4294967296) (h1 : 0 ≤ dst ∧ dst < 4294967296) (h2 : 0 ≤ fl ∧ fl < 4294967296) :
    Calls Try.prog 20 #[.agg #[.int .u32 src, .int .u32 dst, .int .u32 fl, .int .i64 ttl, L]] w fun e w' => e = .returned (.int .u32 (h3 src dst fl)) ∧ Below w.heap.size w w' := by
  have H1 := bhash3 src dst fl (w.alloc (.cells #[.int .u32 src, .int .u32 dst, .int .u32 fl, .int .i64 ttl, L] 44)) h0 h1 h2
  rw [show (w.alloc (.cells #[.int .u32 src, .int .u32 dst, .int .u32 fl, .int .i64 ttl, L] 44)).heap.size = w.heap.size + 1 by simp] at H1
  have HH := Lib.hid H1
  clear H1
  go_enter Try.func20, Try.ntmps20
  go_wp2_with fail
  refine HH.out.mono ?_
  rintro e w1 ⟨rfl, hb1⟩
  have HB := Lib.hid (((Below.refl w.heap.size w).alloc (Nat.le_refl _) _).trans (hb1.mono (by omega)))
  clear hb1
  go_wp2
  go_ret
  exact ⟨rfl, HB.out⟩

set_option maxHeartbeats 400000 in
theorem refFlow_any (src dst fl ttl : Int) (L : Value) (w : World) (h0 : 0 ≤ src ∧ src < 4294967296) (h1 : 0 ≤ dst ∧ dst < 4294967296) (h2 : 0 ≤ fl ∧ fl < 4294967296) :
    Calls Try.prog 21 #[.agg #[.int .u32 src, .int .u32 dst, .int .u32 fl, .int .i64 ttl, L]] w fun e w' => e = .returned (.int .u32 (h3 src dst fl)) ∧ Below w.heap.size w w' := by
  have hk0 : Below w.heap.size w (w.alloc (.cells #[.int .u32 src, .int .u32 dst, .int .u32 fl, .int .i64 ttl, L] 44)) := (Below.refl w.heap.size w).alloc (Nat.le_refl _) _
  have HK0 := Lib.hid hk0
  have HH : Hid (hash (pb src 4 ++ pb dst 4 ++ pb fl 4) 12 = h3 src dst fl) := rfl
  clear hk0
  go_enter Try.func21, Try.ntmps21

  go_wp2_with fail

  refine (rput_nil _ _ h0).mono ?_
  rintro e w1 ⟨A1, c1, rfl, hi1, hb1⟩
  have hsz := hb1.size
  have cA : w1.cell? ⟨w.heap.size, 1, none⟩ = some (.int .u32 dst) := (hb1.cell (p := ⟨w.heap.size, 1, none⟩) (by simp)).trans (by go_simp)
  have cB : w1.cell? ⟨w.heap.size, 2, none⟩ = some (.int .u32 fl) := (hb1.cell (p := ⟨w.heap.size, 2, none⟩) (by simp)).trans (by go_simp)
  have HI1 := Lib.hid hi1
  have HB1 := Lib.hid hb1
  simp at hsz
  clear hi1 hb1

  go_wp2_with fail

  refine (rput_more _ _ _ _ _ _ HI1.out (by omega) h1).mono ?_
  rintro e w2 ⟨A2, c2, rfl, hi2, hb2⟩
  have cC : w2.cell? ⟨w.heap.size, 2, none⟩ = some (.int .u32 fl) := (hb2.cell (p := ⟨w.heap.size, 2, none⟩) (by show w.heap.size < _; omega)).trans cB
  have HI2 : Hid (Ints w2 w2.heap.size .u8 A2 8 c2 (pb src 4 ++ pb dst 4)) := hi2
  have HB2 := Lib.hid hb2
  clear hi2 hb2 cA cB

  go_wp2_with fail
  refine (rput_more _ _ _ _ _ _ HI2.out (by omega) h2).mono ?_
  rintro e w3 ⟨A3, c3, rfl, hi3, hb3⟩
  have HI3 : Hid (Ints w3 w3.heap.size .u8 A3 12 c3 (pb src 4 ++ pb dst 4 ++ pb fl 4)) := hi3
  have HB3 := Lib.hid hb3
  clear hi3 hb3
  go_wp2_with fail
  refine (refHash_any _ _ _ _ _ _ HI3.out (by omega)).mono ?_
  rintro e w4 ⟨rfl, rfl⟩
  rw [HH.out]
  go_wp2
  go_ret
  have K1 := HK0.out.trans (HB1.out.mono HK0.out.size)
  have K2 := K1.trans (HB2.out.mono K1.size)
  exact ⟨rfl, K2.trans (HB3.out.mono K2.size)⟩

end Go.Proofs.Ytlcgjgmhllmekaa
