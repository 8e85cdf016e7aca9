/- field.join returns a new slice with the bytes of all parts; field.Put appends the bytes of a number. -/
import Derived.Test.YtlcgjgmhllmekaaPut
namespace Go.Proofs.Ytlcgjgmhllmekaa
open Go.RowKit

set_option maxHeartbeats 1000000 in
theorem join_any (A : Option Addr) (k kc B : Nat) (ps : List Sl) (w : World) (hp : Parts w B A k kc ps) (hB : B ≤ w.heap.size) (ht : tot ps k ≤ 281474976710656) (hk : k ≤ 1000) :
    Calls Try.prog 37 #[.slice A k kc] w (GivesInts 5 .u8 (tot ps k) (cat ps k) w) := by
  obtain ⟨i0, hi0, hz0, hs0, hb0⟩ := info_parts u8_info
  obtain ⟨T, hT⟩ : ∃ T, tot ps k = T := ⟨_, rfl⟩
  rw [hT] at ht
  rw [hT]
  obtain ⟨w1, hmk, ho1, hg1⟩ := run_make_own (P := Try.prog) (w := w) w.heap.size 56 5 i0 (.int .u8 0) 1 Try.underlying56 hi0 hz0 hs0 .i64 .i64 T (by rw [hb0]; omega) (by simp only [maxLen]; omega) (Nat.le_refl _)
  have HT := Lib.hid hT
  have hm := hmk
  clear hmk hT
  go_enter Try.func37, Try.ntmps37
  go_wp2
  go_loop [3, 11] (fun s i => ∃ j : Nat, j ≤ k ∧ i = .int .i64 j ∧ s = .int .i64 (tot ps j)) (fun _ i => k - (intOf i).toNat)
  case atStart => exact ⟨0, Nat.zero_le _, rfl, rfl⟩
  case round =>
    obtain ⟨j, hj, rfl, rfl⟩ := hrel
    have hjt : tot ps j ≤ T := by rw [← HT.out]; exact tot_le hj
    by_cases hlt : j < k
    · obtain ⟨b, o, p, rfl, hbB, hc, hpj, hpi⟩ := hp.get hlt
      have HS : Hid (tot ps (j + 1) = tot ps j + p.n) := tot_succ hpj
      have hj1 : tot ps (j + 1) ≤ T := by rw [← HT.out]; exact tot_le hlt
      rw [HS.out] at hj1
      clear hp hpj hpi hm
      go_wp2
      go_round
      case rel => exact ⟨j + 1, by omega, by go_num, int_eq (by rw [HS.out]; omega)⟩
      case measure => simp [intOf]; omega
    · obtain rfl : j = k := by omega
      rw [HT.out]
      have HB := Lib.hid ((Below.refl w.heap.size w).grown hg1 (Nat.le_refl _) (by simp))
      have HO := Lib.hid ho1
      clear ho1 hg1 hjt
      clear hlt hj
      go_wp2
      go_loopw [6, 24] (fun v i wr => ∃ q : Nat, q ≤ j ∧ i = .int .i64 q ∧ v = .slice (some ⟨w.heap.size, 0, none⟩) (tot ps q) T ∧ Hid (Own wr w.heap.size 5 .u8 (.slice (some ⟨w.heap.size, 0, none⟩) (tot ps q) T) (tot ps q) (cat ps q)) ∧ Hid (Below w.heap.size w wr)) (fun _ i _ => j - (intOf i).toNat)
      case atStart => exact ⟨0, Nat.zero_le _, rfl, rfl, HO, HB⟩
      case round =>
        obtain ⟨q, hq, rfl, rfl, ho, hb⟩ := hrel
        by_cases hlt : q < j
        · obtain ⟨b, o, p, rfl, hbB, hc, hpj, hpi⟩ := (hp.below (hb.out.mono hB)).get hlt
          have HS : Hid (tot ps (q + 1) = tot ps q + p.n) := tot_succ hpj
          have HC : Hid (cat ps (q + 1) = cat ps q ++ p.xs) := cat_succ hpj
          have hj1 : tot ps (q + 1) ≤ T := by rw [← HT.out]; exact tot_le hlt
          rw [HS.out] at hj1
          obtain ⟨w2, hrun, ho2, hg2⟩ := Cells.appendFits (P := Try.prog) (t := 56) (ty := 56) Try.underlying56 u8_info ho.out hpi (ints_oneCell .u8 p.xs) hj1
          have HR := Lib.hid hrun
          have HO2 : Hid (Own w2 w.heap.size 5 .u8 (.slice (some ⟨w.heap.size, 0, none⟩) (tot ps q + p.n) T) (tot ps q + p.n) (cat ps q ++ p.xs)) := by
            show Own _ _ _ _ _ _ _
            unfold Own
            rw [List.map_append]
            exact ho2
          have HB2 : Hid (Below w.heap.size w w2) := hb.out.grown hg2 hb.out.size (fun k hk => by injection hk with hk; omega)
          have hjb : q < j := hlt
          clear hp hpj hpi hm hrun ho2 hg2 HB HO ho hb
          go_wp2_with (at_builtin; refine wpList_append_run rfl _ _ _ rfl rfl rfl HR.out ?_)
          go_roundw
          case rel => exact ⟨q + 1, by omega, by go_num, by rw [HS.out], by rw [HS.out, HC.out]; exact HO2, HB2⟩
          case measure => simp [intOf]; omega
        · obtain rfl : q = j := by omega
          rw [HT.out] at ho ⊢
          clear hp hm HB HO
          go_wp2
          go_ret
          exact ⟨_, _, rfl, ho.out, hb.out⟩

/-- two parts -/
theorem join2 {w : World} {A0 A1 : Option Addr} {n0 c0 n1 c1 B : Nat} {xs ys : List Int} (h0 : Ints w B .u8 A0 n0 c0 xs) (h1 : Ints w B .u8 A1 n1 c1 ys) (hB : B ≤ w.heap.size) (ht : n0 + n1 ≤ 281474976710656) :
    Calls Try.prog 37 #[.slice (some ⟨w.heap.size, 0, none⟩) 2 2] (w.alloc (.cells #[.slice A0 n0 c0, .slice A1 n1 c1] 56)) fun e w' => ∃ A c, e = .returned (.slice A (n0 + n1) c) ∧ Own w' w.heap.size 5 .u8 (.slice A (n0 + n1) c) (n0 + n1) (xs ++ ys) ∧ Below w.heap.size w w' := by
  have hp : Parts (w.alloc (.cells #[.slice A0 n0 c0, .slice A1 n1 c1] 56)) (w.alloc (.cells #[.slice A0 n0 c0, .slice A1 n1 c1] 56)).heap.size (some ⟨w.heap.size, 0, none⟩) 2 2 [⟨A0, n0, c0, xs⟩, ⟨A1, n1, c1, ys⟩] := by
    refine ⟨Cells.of_own (World.ownsRow_lit (base := w.heap.size) w #[.slice A0 n0 c0, .slice A1 n1 c1] 2 (Nat.le_refl _) (by simp [maxLen]) rfl), fun p hp => ?_⟩
    have hk : ∀ p : Addr, p.block < B → (w.alloc (.cells #[.slice A0 n0 c0, .slice A1 n1 c1] 56)).cell? p = w.cell? p := fun p hp => World.cell?_alloc_lt w _ p (by omega)
    simp only [List.mem_cons, List.not_mem_nil, or_false] at hp
    rcases hp with rfl | rfl
    · exact (h0.keep hk).more (by simp; omega)
    · exact (h1.keep hk).more (by simp; omega)
  have e1 : tot [⟨A0, n0, c0, xs⟩, ⟨A1, n1, c1, ys⟩] 2 = n0 + n1 := by simp [tot]
  have e2 : cat [⟨A0, n0, c0, xs⟩, ⟨A1, n1, c1, ys⟩] 2 = xs ++ ys := by simp [cat]
  have h := join_any _ 2 2 _ _ _ hp (Nat.le_refl _) (by rw [e1]; exact ht) (by omega)
  rw [e1, e2] at h
  refine h.mono ?_
  rintro e w' ⟨A, c, he, ho, hb⟩
  exact ⟨A, c, he, own_mono ho (by simp), ((Below.refl w.heap.size w).alloc (Nat.le_refl _) _).trans (hb.mono (by simp))⟩

set_option maxHeartbeats 400000 in
theorem put_any (A : Option Addr) (n c : Nat) (k x : Int) (xs : List Int) (w : World) (hx : Ints w w.heap.size .u8 A n c xs) (hn : n ≤ 140737488351232) (hx0 : 0 ≤ x) (hx1 : x < 18446744073709551616) (hk : -9223372036854775808 ≤ k ∧ k ≤ 9223372036854775807) :
    Calls Try.prog 35 #[.slice A n c, .int .i64 k, .int .u64 x] w (GivesInts 5 .u8 (n + clamp8 k) (xs ++ pb x (clamp8 k)) w) := by
  have hm := clamp8_le k
  have HM := Lib.hid (clamp8_eq k)
  obtain ⟨m, hmm⟩ : ∃ m, clamp8 k = m := ⟨_, rfl⟩
  rw [hmm] at hm HM
  rw [hmm]
  have H1 := Lib.hid (number_any m x w hm hx0 hx1)
  have HX := Lib.hid hx
  have hcase : (k < 0 ∧ m = 0) ∨ (0 ≤ k ∧ k ≤ 8 ∧ k = m) ∨ (8 < k ∧ m = 8) := by have := HM.out; omega
  clear hmm hx1 hx
  rcases hcase with ⟨h1, rfl⟩ | ⟨h1, h2, rfl⟩ | ⟨h1, rfl⟩
  all_goals
    go_enter Try.func35, Try.ntmps35
    go_wp2_with fail
  all_goals
    refine H1.out.mono ?_
    rintro e w1 ⟨A1, c1, rfl, ho1, hb1⟩
    have HO := Lib.hid ho1
    have HB := Lib.hid hb1
    clear ho1 hb1
    go_wp2_with fail
    refine (join2 ((HX.out.below HB.out).more HB.out.size) HO.out.ints (Nat.le_refl _) (by omega)).mono ?_
    rintro e w2 ⟨A2, c2, rfl, ho2, hb2⟩
    have HO2 := Lib.hid ho2
    have HB2 := Lib.hid hb2
    clear ho2 hb2
    go_wp2
    go_ret
    exact ⟨A2, c2, rfl, own_mono HO2.out HB.out.size, HB.out.trans (HB2.out.mono HB.out.size)⟩
end Go.Proofs.Ytlcgjgmhllmekaa
