/- checksum.Hash and routingref04.Hash both return the FNV-1a hash of the bytes. field.Put and routingref03.Put append the same bytes of a number. field.join returns a new slice with the bytes of all parts; field.Put appends the bytes of a number. The score of a member for a flow, and a packet's flow number: the program's and the reference's texts return the same. Flow and Score of the reference: the same numbers as the program's. Choose: the program's and the reference's texts return the same member. -/
import Derived.Test.YtplppbgkkfjknaaGreatDoorG1
import Derived.Deep.RegionWith
import Derived.Deep.RegionHeld3
namespace Go.Proofs.YtplppbgkkfjknaaGreatDoor
open Go.RowKit
set_option maxRecDepth 100000

/-- one byte more -/
def hstep (h c : Int) : Int := bits .xor .u32 h (c % 4294967296) * 16777619 % 4294967296
/-- the hash of the first k bytes -/
def hash (xs : List Int) : Nat → Int
  | 0 => 2166136261
  | k + 1 => hstep (hash xs k) (xs.getD k 0)

theorem hash_any (A : Option Addr) (n c B : Nat) (xs : List Int) (w : World) (hx : Ints w B .u8 A n c xs) (hn : n ≤ 140737488355328) :
    Calls Tryz.prog 124 #[.slice A n c] w fun e w' => e = .returned (.int .u32 (hash xs n)) ∧ w = w' := by
  go_enter Tryz.func124, Tryz.ntmps124
  go_wp2
  go_loop [3, 8] (fun h i => ∃ k : Nat, k ≤ n ∧ i = .int .i64 k ∧ h = .int .u32 (hash xs k)) (fun _ i => n - (intOf i).toNat)
  case atStart => exact ⟨0, Nat.zero_le _, rfl, rfl⟩
  case round =>
    obtain ⟨k, hk, rfl, rfl⟩ := hrel
    by_cases hlt : k < n
    · obtain ⟨b, o, x, rfl, hbB, hc, HX⟩ := hx.cell hlt
      have hs : hash xs (k + 1) = bits .xor .u32 (hash xs k) (x % 4294967296) * 16777619 % 4294967296 := by rw [hash, HX.out, hstep]
      have HS := Lib.hid hs
      clear hs hx
      go_wp2
      go_round
      case rel => exact ⟨k + 1, by omega, by go_num, by rw [HS.out]⟩
      case measure => simp [intOf]; omega
    · obtain rfl : k = n := by omega
      go_wp2
      go_ret
      exact ⟨ret_int rfl, rfl⟩

theorem refHash_any (A : Option Addr) (n c B : Nat) (xs : List Int) (w : World) (hx : Ints w B .u8 A n c xs) (hn : n ≤ 140737488355328) :
    Calls Tryz.prog 111 #[.slice A n c] w fun e w' => e = .returned (.int .u32 (hash xs n)) ∧ w = w' := by
  go_enter Tryz.func111, Tryz.ntmps111
  go_wp2
  go_loop [3, 4] (fun h i => ∃ k : Nat, k ≤ n ∧ i = .int .i64 k ∧ h = .int .u32 (hash xs k)) (fun _ i => n - (intOf i).toNat)
  case atStart => exact ⟨0, Nat.zero_le _, rfl, rfl⟩
  case round =>
    obtain ⟨k, hk, rfl, rfl⟩ := hrel
    by_cases hlt : k < n
    · obtain ⟨b, o, x, rfl, hbB, hc, HX⟩ := hx.cell hlt
      have hs : hash xs (k + 1) = bits .xor .u32 (hash xs k) (x % 4294967296) * 16777619 % 4294967296 := by rw [hash, HX.out, hstep]
      have HS := Lib.hid hs
      clear hs hx
      go_wp2
      go_round
      case rel => exact ⟨k + 1, by omega, by go_num, by rw [HS.out]⟩
      case measure => simp [intOf]; omega
    · obtain rfl : k = n := by omega
      go_wp2
      go_ret
      exact ⟨ret_int rfl, rfl⟩
end Go.Proofs.YtplppbgkkfjknaaGreatDoor
namespace Go.Proofs.YtplppbgkkfjknaaGreatDoor
open Go.RowKit
set_option maxRecDepth 100000

theorem u8_info : (Tryz.prog.info? 5).map (fun i => (i.zero, i.size, i.bytes)) = some (some (.int .u8 0), 1, 1) := by kernel_rfl
/-- the lowest m bytes of x, the most significant first -/
def pb (x : Int) : Nat → List Int
  | 0 => []
  | m + 1 => (x / 2 ^ (8 * m)) % 256 :: pb x m
theorem pb_len (x : Int) : ∀ m, (pb x m).length = m
  | 0 => rfl
  | m + 1 => by simp [pb, pb_len x m]

set_option maxHeartbeats 400000 in
theorem number_any (m : Nat) (x : Int) (w : World) (hm : m ≤ 8) (_hx0 : 0 ≤ x) (hx1 : x < 18446744073709551616) :
    Calls Tryz.prog 130 #[.int .i64 m, .int .u64 x] w (GivesInts 5 .u8 m (pb x m) w) := by
  have HX : Hid (x < 18446744073709551616) := hx1
  clear hx1
  go_enter Tryz.func130, Tryz.ntmps130
  go_wp2
  go_loopw [5, 6] (fun v i wr => ∃ (k : Nat) (ys : List Int), k ≤ m ∧ i = .int .i64 ((k : Int) - 1) ∧ Hid (ys ++ pb x k = pb x m) ∧ Hid (Own wr w.heap.size 5 .u8 v (m - k) ys) ∧ Hid (Below w.heap.size w wr)) (fun _ i _ => (intOf i + 1).toNat)
  case atStart => exact ⟨m, [], Nat.le_refl _, rfl, by simp [Hid], by rw [Nat.sub_self]; exact World.ownsRow_nil _ _ _ _, Below.refl _ _⟩
  case round =>
    obtain ⟨k, ys, hk, rfl, he, ho, hb⟩ := hrel
    by_cases h0 : k = 0
    · subst h0
      rw [Nat.sub_zero] at ho
      have ho1 := ho.out
      rw [show ys = pb x m by simpa [pb] using he.out] at ho1
      obtain ⟨A, c, rfl⟩ := own_form ho.out
      have HO := Lib.hid ho1
      clear ho ho1 he
      go_wp2
      go_ret
      exact ⟨A, c, rfl, HO.out, hb.out⟩
    · obtain ⟨j, rfl⟩ : ∃ j, k = j + 1 := ⟨k - 1, by omega⟩
      have e1 : (((j + 1 : Nat) : Int) - 1) = (j : Int) := by omega
      rw [e1]
      clear e1
      go_wp2_with (at_builtin; refine wpList_append_int rfl _ _ rfl rfl rfl rfl Tryz.underlying171 u8_info rfl ho.out hb.out (Nat.le_refl _) hb.out.size (by omega) (by simp only [maxLen]; omega) ?_; intro v' w' h1 h2 _ _; have H1 := Lib.hid h1; have H2 := Lib.hid h2; clear h1 h2)
      go_roundw
      case rel => exact ⟨j, ys ++ [x / 2 ^ (8 * j) % 256], by omega, rfl, by show _ = _; rw [← he.out, pb, List.append_assoc]; rfl, by rw [show m - j = m - (j + 1) + 1 by omega]; exact H1.out, H2⟩
      case measure => simp [intOf]

/-- the number of bytes that Put appends -/
def clamp8 (n : Int) : Nat := (min (max n 0) 8).toNat
theorem clamp8_le (n : Int) : clamp8 n ≤ 8 := by unfold clamp8; omega
theorem clamp8_eq (n : Int) : ((clamp8 n : Nat) : Int) = min (max n 0) 8 := by unfold clamp8; omega

set_option maxHeartbeats 400000 in
theorem refPut_any (A : Option Addr) (n c : Nat) (k x : Int) (xs : List Int) (w : World) (hx : Ints w w.heap.size .u8 A n c xs) (hn : n ≤ 140737488351232) (_hx0 : 0 ≤ x) (hx1 : x < 18446744073709551616) (hk : -9223372036854775808 ≤ k ∧ k ≤ 9223372036854775807) :
    Calls Tryz.prog 110 #[.slice A n c, .int .i64 k, .int .u64 x] w (GivesInts 5 .u8 (n + clamp8 k) (xs ++ pb x (clamp8 k)) w) := by
  have hm := clamp8_le k
  have HM := Lib.hid (clamp8_eq k)
  obtain ⟨m, hmm⟩ : ∃ m, clamp8 k = m := ⟨_, rfl⟩
  rw [hmm] at hm HM
  rw [hmm]
  obtain ⟨v1, w1, hrun, ho1, hg1, hat⟩ := Ints.append (P := Tryz.prog) (t := 171) (ty := 171) Tryz.underlying171 u8_info rfl (Own.nil w w.heap.size _ _) hx (by simp only [maxLen]; omega) (by omega) (Nat.le_refl _)
  rw [Nat.zero_add, List.nil_append] at ho1
  have HB := Lib.hid ((Below.refl w.heap.size w).grown hg1 (Nat.le_refl _) (by simp [Value.ownBlock]))
  have HO := Lib.hid ho1
  have HR := Lib.hid hrun
  have HX : Hid (x < 18446744073709551616) := hx1
  clear hx1 hrun ho1 hg1 hat hx hmm
  go_enter Tryz.func110, Tryz.ntmps110
  go_wp2_with (at_builtin; refine wpList_append_run rfl _ _ _ rfl rfl rfl HR.out ?_)
  all_goals
    go_loopw [7, 8] (fun v i wr => ∃ (q : Nat) (ys : List Int), q ≤ m ∧ i = .int .i64 ((q : Int) - 1) ∧ Hid (ys ++ pb x q = xs ++ pb x m) ∧ Hid (Own wr w.heap.size 5 .u8 v (n + (m - q)) ys) ∧ Hid (Below w.heap.size w wr)) (fun _ i _ => (intOf i + 1).toNat)
    case atStart => exact ⟨m, xs, Nat.le_refl _, int_eq (by have := HM.out; omega), rfl, by rw [Nat.sub_self]; exact HO, HB⟩
    case round =>
      obtain ⟨q, ys, hq, rfl, he, ho, hb⟩ := hrel
      by_cases h0 : q = 0
      · subst h0
        rw [Nat.sub_zero] at ho
        have ho1 := ho.out
        rw [show ys = xs ++ pb x m by simpa [pb] using he.out] at ho1
        obtain ⟨A2, c2, rfl⟩ := own_form ho.out
        have HO2 := Lib.hid ho1
        clear ho ho1 he
        go_wp2
        go_ret
        exact ⟨A2, c2, rfl, HO2.out, hb.out⟩
      · obtain ⟨j, rfl⟩ : ∃ j, q = j + 1 := ⟨q - 1, by omega⟩
        have e1 : (((j + 1 : Nat) : Int) - 1) = (j : Int) := by omega
        rw [e1]
        clear e1
        go_wp2_with (at_builtin; refine wpList_append_int rfl _ _ rfl rfl rfl rfl Tryz.underlying171 u8_info rfl ho.out hb.out (Nat.le_refl _) hb.out.size (by omega) (by simp only [maxLen]; omega) ?_; intro v' w' h1 h2 _ _; have H1 := Lib.hid h1; have H2 := Lib.hid h2; clear h1 h2)
        go_roundw
        case rel => exact ⟨j, ys ++ [x / 2 ^ (8 * j) % 256], by omega, rfl, by show _ = _; rw [← he.out, pb, List.append_assoc]; rfl, by rw [show n + (m - j) = n + (m - (j + 1)) + 1 by omega]; exact H1.out, H2⟩
        case measure => simp [intOf]
end Go.Proofs.YtplppbgkkfjknaaGreatDoor
namespace Go.Proofs.YtplppbgkkfjknaaGreatDoor
open Go.RowKit
set_option maxRecDepth 100000

set_option maxHeartbeats 1000000 in
theorem join_any (A : Option Addr) (k kc B : Nat) (ps : List Sl) (w : World) (hp : Parts w B A k kc ps) (hB : B ≤ w.heap.size) (ht : tot ps k ≤ 281474976710656) (hk : k ≤ 1000) :
    Calls Tryz.prog 129 #[.slice A k kc] w (GivesInts 5 .u8 (tot ps k) (cat ps k) w) := by
  obtain ⟨i0, hi0, hz0, hs0, hb0⟩ := info_parts u8_info
  obtain ⟨T, hT⟩ : ∃ T, tot ps k = T := ⟨_, rfl⟩
  rw [hT] at ht
  rw [hT]
  obtain ⟨w1, hmk, ho1, hg1⟩ := run_make_own (P := Tryz.prog) (w := w) w.heap.size 171 5 i0 (.int .u8 0) 1 Tryz.underlying171 hi0 hz0 hs0 .i64 .i64 T (by rw [hb0]; omega) (by simp only [maxLen]; omega) (Nat.le_refl _)
  have HT := Lib.hid hT
  have hm := hmk
  clear hmk hT
  go_enter Tryz.func129, Tryz.ntmps129
  go_wp2
  go_loop [3, 11] (fun s i => ∃ j : Nat, j ≤ k ∧ i = .int .i64 j ∧ s = .int .i64 (tot ps j)) (fun _ i => k - (intOf i).toNat)
  case atStart => exact ⟨0, Nat.zero_le _, rfl, rfl⟩
  case round =>
    obtain ⟨j, hj, rfl, rfl⟩ := hrel
    have hjt : tot ps j ≤ T := by rw [← HT.out]; exact tot_le hj
    by_cases hlt : j < k
    · obtain ⟨b, o, p, rfl, hbB, hc, hpj, hpi⟩ := hp.get hlt
      have HS : Hid (tot ps (j + 1) = tot ps j + p.n) := tot_succ hpj
      have hj1 : tot ps (j + 1) ≤ T := by rw [← HT.out]; exact tot_le hlt
      rw [HS.out] at hj1
      clear hp hpj hpi hm
      go_wp2
      go_round
      case rel => exact ⟨j + 1, by omega, by go_num, int_eq (by rw [HS.out]; omega)⟩
      case measure => simp [intOf]; omega
    · obtain rfl : j = k := by omega
      rw [HT.out]
      have HB := Lib.hid ((Below.refl w.heap.size w).grown hg1 (Nat.le_refl _) (by simp))
      have HO := Lib.hid ho1
      clear ho1 hg1 hjt
      clear hlt hj
      go_wp2
      go_loopw [6, 24] (fun v i wr => ∃ q : Nat, q ≤ j ∧ i = .int .i64 q ∧ v = .slice (some ⟨w.heap.size, 0, none⟩) (tot ps q) T ∧ Hid (Own wr w.heap.size 5 .u8 (.slice (some ⟨w.heap.size, 0, none⟩) (tot ps q) T) (tot ps q) (cat ps q)) ∧ Hid (Below w.heap.size w wr)) (fun _ i _ => j - (intOf i).toNat)
      case atStart => exact ⟨0, Nat.zero_le _, rfl, rfl, HO, HB⟩
      case round =>
        obtain ⟨q, hq, rfl, rfl, ho, hb⟩ := hrel
        by_cases hlt : q < j
        · obtain ⟨b, o, p, rfl, hbB, hc, hpj, hpi⟩ := (hp.below (hb.out.mono hB)).get hlt
          have HS : Hid (tot ps (q + 1) = tot ps q + p.n) := tot_succ hpj
          have HC : Hid (cat ps (q + 1) = cat ps q ++ p.xs) := cat_succ hpj
          have hj1 : tot ps (q + 1) ≤ T := by rw [← HT.out]; exact tot_le hlt
          rw [HS.out] at hj1
          obtain ⟨w2, hrun, ho2, hg2⟩ := Cells.appendFits (P := Tryz.prog) (t := 171) (ty := 171) Tryz.underlying171 u8_info ho.out hpi (ints_oneCell .u8 p.xs) hj1
          have HR := Lib.hid hrun
          have HO2 : Hid (Own w2 w.heap.size 5 .u8 (.slice (some ⟨w.heap.size, 0, none⟩) (tot ps q + p.n) T) (tot ps q + p.n) (cat ps q ++ p.xs)) := by
            show Own _ _ _ _ _ _ _
            unfold Own
            rw [List.map_append]
            exact ho2
          have HB2 : Hid (Below w.heap.size w w2) := hb.out.grown hg2 hb.out.size (fun k hk => by injection hk with hk; omega)
          have hjb : q < j := hlt
          clear hp hpj hpi hm hrun ho2 hg2 HB HO ho hb
          go_wp2_with (at_builtin; refine wpList_append_run rfl _ _ _ rfl rfl rfl HR.out ?_)
          go_roundw
          case rel => exact ⟨q + 1, by omega, by go_num, by rw [HS.out], by rw [HS.out, HC.out]; exact HO2, HB2⟩
          case measure => simp [intOf]; omega
        · obtain rfl : q = j := by omega
          rw [HT.out] at ho ⊢
          clear hp hm HB HO
          go_wp2
          go_ret
          exact ⟨_, _, rfl, ho.out, hb.out⟩

/-- two parts -/
theorem join2 {w : World} {A0 A1 : Option Addr} {n0 c0 n1 c1 B : Nat} {xs ys : List Int} (h0 : Ints w B .u8 A0 n0 c0 xs) (h1 : Ints w B .u8 A1 n1 c1 ys) (hB : B ≤ w.heap.size) (ht : n0 + n1 ≤ 281474976710656) :
    Calls Tryz.prog 129 #[.slice (some ⟨w.heap.size, 0, none⟩) 2 2] (w.alloc (.cells #[.slice A0 n0 c0, .slice A1 n1 c1] 171)) fun e w' => ∃ A c, e = .returned (.slice A (n0 + n1) c) ∧ Own w' w.heap.size 5 .u8 (.slice A (n0 + n1) c) (n0 + n1) (xs ++ ys) ∧ Below w.heap.size w w' := by
  have hp : Parts (w.alloc (.cells #[.slice A0 n0 c0, .slice A1 n1 c1] 171)) (w.alloc (.cells #[.slice A0 n0 c0, .slice A1 n1 c1] 171)).heap.size (some ⟨w.heap.size, 0, none⟩) 2 2 [⟨A0, n0, c0, xs⟩, ⟨A1, n1, c1, ys⟩] := by
    refine ⟨Cells.of_own (World.ownsRow_lit (base := w.heap.size) w #[.slice A0 n0 c0, .slice A1 n1 c1] 2 (Nat.le_refl _) (by simp [maxLen]) rfl), fun p hp => ?_⟩
    have hk : ∀ p : Addr, p.block < B → (w.alloc (.cells #[.slice A0 n0 c0, .slice A1 n1 c1] 171)).cell? p = w.cell? p := fun p hp => World.cell?_alloc_lt w _ p (by omega)
    simp only [List.mem_cons, List.not_mem_nil, or_false] at hp
    rcases hp with rfl | rfl
    · exact (h0.keep hk).more (by simp; omega)
    · exact (h1.keep hk).more (by simp; omega)
  have e1 : tot [⟨A0, n0, c0, xs⟩, ⟨A1, n1, c1, ys⟩] 2 = n0 + n1 := by simp [tot]
  have e2 : cat [⟨A0, n0, c0, xs⟩, ⟨A1, n1, c1, ys⟩] 2 = xs ++ ys := by simp [cat]
  have h := join_any _ 2 2 _ _ _ hp (Nat.le_refl _) (by rw [e1]; exact ht) (by omega)
  rw [e1, e2] at h
  refine h.mono ?_
  rintro e w' ⟨A, c, he, ho, hb⟩
  exact ⟨A, c, he, own_mono ho (by simp), ((Below.refl w.heap.size w).alloc (Nat.le_refl _) _).trans (hb.mono (by simp))⟩

set_option maxHeartbeats 400000 in
theorem put_any (A : Option Addr) (n c : Nat) (k x : Int) (xs : List Int) (w : World) (hx : Ints w w.heap.size .u8 A n c xs) (hn : n ≤ 140737488351232) (hx0 : 0 ≤ x) (hx1 : x < 18446744073709551616) (hk : -9223372036854775808 ≤ k ∧ k ≤ 9223372036854775807) :
    Calls Tryz.prog 123 #[.slice A n c, .int .i64 k, .int .u64 x] w (GivesInts 5 .u8 (n + clamp8 k) (xs ++ pb x (clamp8 k)) w) := by
  have hm := clamp8_le k
  have HM := Lib.hid (clamp8_eq k)
  obtain ⟨m, hmm⟩ : ∃ m, clamp8 k = m := ⟨_, rfl⟩
  rw [hmm] at hm HM
  rw [hmm]
  have H1 := Lib.hid (number_any m x w hm hx0 hx1)
  have HX := Lib.hid hx
  have hcase : (k < 0 ∧ m = 0) ∨ (0 ≤ k ∧ k ≤ 8 ∧ k = m) ∨ (8 < k ∧ m = 8) := by have := HM.out; omega
  clear hmm hx1 hx
  rcases hcase with ⟨h1, rfl⟩ | ⟨h1, h2, rfl⟩ | ⟨h1, rfl⟩
  all_goals
    go_enter Tryz.func123, Tryz.ntmps123
    go_wp2_with fail
  all_goals
    refine H1.out.mono ?_
    rintro e w1 ⟨A1, c1, rfl, ho1, hb1⟩
    have HO := Lib.hid ho1
    have HB := Lib.hid hb1
    clear ho1 hb1
    go_wp2_with fail
    refine (join2 ((HX.out.below HB.out).more HB.out.size) HO.out.ints (Nat.le_refl _) (by omega)).mono ?_
    rintro e w2 ⟨A2, c2, rfl, ho2, hb2⟩
    have HO2 := Lib.hid ho2
    have HB2 := Lib.hid hb2
    clear ho2 hb2
    go_wp2
    go_ret
    exact ⟨A2, c2, rfl, own_mono HO2.out HB.out.size, HB.out.trans (HB2.out.mono HB.out.size)⟩
end Go.Proofs.YtplppbgkkfjknaaGreatDoor
namespace Go.Proofs.YtplppbgkkfjknaaGreatDoor
open Go.RowKit
set_option maxRecDepth 100000

/-- the bytes of the first k numbers, four each -/
def cat4 (ps : List Int) : Nat → List Int
  | 0 => []
  | k + 1 => cat4 ps k ++ pb (ps.getD k 0) 4
theorem hash_bd (xs : List Int) : ∀ k, 0 ≤ hash xs k ∧ hash xs k < 4294967296
  | 0 => by simp [hash]
  | k + 1 => by simp only [hash, hstep]; omega

set_option maxHeartbeats 400000 in
theorem bhash_any (A : Option Addr) (k c B : Nat) (ps : List Int) (w : World) (hx : Ints w B .u32 A k c ps) (hB : B ≤ w.heap.size) (hk : k ≤ 1000) (hb : ∀ j, 0 ≤ ps.getD j 0 ∧ ps.getD j 0 < 4294967296) :
    Calls Tryz.prog 108 #[.slice A k c] w fun e w' => e = .returned (.int .u32 (hash (cat4 ps k) (4 * k))) ∧ Below w.heap.size w w' := by
  go_enter Tryz.func108, Tryz.ntmps108
  go_wp2
  go_loopw [3, 8] (fun v i wr => ∃ (q : Nat) (A' : Option Addr) (c' : Nat), q ≤ k ∧ i = .int .i64 q ∧ v = .slice A' (4 * q) c' ∧ Hid (Ints wr wr.heap.size .u8 A' (4 * q) c' (cat4 ps q)) ∧ Hid (Below w.heap.size w wr)) (fun _ i _ => k - (intOf i).toNat)
  case atStart => exact ⟨0, none, 0, Nat.zero_le _, rfl, rfl, Ints.nil _ _ _, Below.refl _ _⟩
  case round =>
    obtain ⟨q, A', c', hq, rfl, rfl, hi, hbel⟩ := hrel
    by_cases hlt : q < k
    · obtain ⟨b, o, x, rfl, hbB, hc, HX⟩ := (hx.below (hbel.out.mono hB)).cell hlt
      have hbq := hb q
      rw [HX.out] at hbq
      have HS : Hid (cat4 ps (q + 1) = cat4 ps q ++ pb x 4) := by
        show _ = _
        rw [cat4, HX.out]
      clear hx hb
      go_wp2_with fail
      refine (put_any A' (4 * q) c' 4 x _ wr hi.out (by omega) hbq.1 (by omega) (by omega)).mono ?_
      rintro e w2 ⟨A2, c2, rfl, ho2, hb2⟩
      have e4 : 4 * q + clamp8 4 = 4 * (q + 1) := by have : clamp8 4 = 4 := by decide
                                                     omega
      have e5 : clamp8 4 = 4 := by decide
      have HO2 : Hid (Ints w2 w2.heap.size .u8 A2 (4 * (q + 1)) c2 (cat4 ps (q + 1))) := by
        have := ho2.ints
        rw [HS.out, ← e4]
        rw [e5] at this ⊢
        exact this
      have HB2 : Hid (Below w.heap.size w w2) := hbel.out.trans (hb2.mono hbel.out.size)
      rw [e4]
      clear ho2 hb2 e4 e5 hi hbel
      go_wp2
      go_roundw
      case rel => exact ⟨q + 1, A2, c2, by omega, by go_num, rfl, HO2, HB2⟩
      case measure => simp [intOf]; omega
    · obtain rfl : q = k := by omega
      clear hx hb
      go_wp2_with fail
      refine (hash_any A' (4 * q) c' _ _ wr hi.out (by omega)).mono ?_
      rintro e w2 ⟨rfl, rfl⟩
      go_wp2
      go_ret
      exact ⟨rfl, hbel.out⟩

/-- the hash of two numbers, of three -/
def h2 (a b : Int) : Int := hash (pb a 4 ++ pb b 4) 8
def h3 (a b c : Int) : Int := hash (pb a 4 ++ pb b 4 ++ pb c 4) 12
theorem h2_bd (a b : Int) : 0 ≤ h2 a b ∧ h2 a b < 4294967296 := hash_bd _ _
theorem h3_bd (a b c : Int) : 0 ≤ h3 a b c ∧ h3 a b c < 4294967296 := hash_bd _ _
theorem bhash2 (a b : Int) (w : World) (ha : 0 ≤ a ∧ a < 4294967296) (hb : 0 ≤ b ∧ b < 4294967296) :
    Calls Tryz.prog 108 #[.slice (some ⟨w.heap.size, 0, none⟩) 2 2] (w.alloc (.cells #[.int .u32 a, .int .u32 b] 41)) fun e w' => e = .returned (.int .u32 (h2 a b)) ∧ Below w.heap.size w w' := by
  have hx : Ints (w.alloc (.cells #[.int .u32 a, .int .u32 b] 41)) (w.alloc (.cells #[.int .u32 a, .int .u32 b] 41)).heap.size .u32 (some ⟨w.heap.size, 0, none⟩) 2 2 [a, b] := ints_lit w 41 .u32 2 [a, b] rfl (by simp [maxLen]) _ (by simp)
  refine (bhash_any _ 2 2 _ [a, b] _ hx (Nat.le_refl _) (by omega) (fun j => ?_)).mono fun e w' ⟨h1, h2⟩ => ⟨h1, ((Below.refl w.heap.size w).alloc (Nat.le_refl _) _).trans (h2.mono (by simp))⟩
  match j with
  | 0 => exact ha
  | 1 => exact hb
  | j + 2 => simp
theorem bhash3 (a b c : Int) (w : World) (ha : 0 ≤ a ∧ a < 4294967296) (hb : 0 ≤ b ∧ b < 4294967296) (hc : 0 ≤ c ∧ c < 4294967296) :
    Calls Tryz.prog 108 #[.slice (some ⟨w.heap.size, 0, none⟩) 3 3] (w.alloc (.cells #[.int .u32 a, .int .u32 b, .int .u32 c] 41)) fun e w' => e = .returned (.int .u32 (h3 a b c)) ∧ Below w.heap.size w w' := by
  have hx : Ints (w.alloc (.cells #[.int .u32 a, .int .u32 b, .int .u32 c] 41)) (w.alloc (.cells #[.int .u32 a, .int .u32 b, .int .u32 c] 41)).heap.size .u32 (some ⟨w.heap.size, 0, none⟩) 3 3 [a, b, c] := ints_lit w 41 .u32 3 [a, b, c] rfl (by simp [maxLen]) _ (by simp)
  refine (bhash_any _ 3 3 _ [a, b, c] _ hx (Nat.le_refl _) (by omega) (fun j => ?_)).mono fun e w' ⟨h1, h2⟩ => ⟨h1, ((Below.refl w.heap.size w).alloc (Nat.le_refl _) _).trans (h2.mono (by simp))⟩
  match j with
  | 0 => exact ha
  | 1 => exact hb
  | 2 => exact hc
  | j + 3 => simp

/-- the score of member i with the weight v -/
def sc (flow i v : Int) : Int := (1 + h2 (i % 4294967296) flow) * (min (max v 0) 65535)
theorem sc_bd (flow i v : Int) : 0 ≤ sc flow i v ∧ sc flow i v ≤ 4294967296 * 65535 := by
  have := h2_bd (i % 4294967296) flow
  unfold sc
  exact ⟨Int.mul_nonneg (by omega) (by omega), Int.mul_le_mul (by omega) (by omega) (by omega) (by omega)⟩

set_option maxHeartbeats 400000 in
theorem score_any (flow i v : Int) (w : World) (hf : 0 ≤ flow ∧ flow < 4294967296) (hv : -9223372036854775808 ≤ v ∧ v ≤ 9223372036854775807) :
    Calls Tryz.prog 122 #[.int .u32 flow, .int .i64 i, .int .i64 v] w fun e w' => e = .returned (.int .u64 (sc flow i v)) ∧ Below w.heap.size w w' := by
  have hs := sc_bd flow i v
  have hh := h2_bd (i % 4294967296) flow
  have H1 := Lib.hid (bhash2 (i % 4294967296) flow w (by omega) hf)
  have HS : Hid (sc flow i v = (1 + h2 (i % 4294967296) flow) * (min (max v 0) 65535)) := rfl
  obtain ⟨h, hhh⟩ : ∃ h, h2 (i % 4294967296) flow = h := ⟨_, rfl⟩
  rw [hhh] at hh H1 HS
  rw [HS.out] at hs
  clear hhh
  have hcase : v < 0 ∨ (0 ≤ v ∧ v ≤ 65535) ∨ 65535 < v := by omega
  rcases hcase with h1 | ⟨h1, h2⟩ | h1
  · have e : min (max v 0) 65535 = 0 := by omega
    rw [e] at HS hs
    go_enter Tryz.func122, Tryz.ntmps122
    go_wp2_with fail
    refine H1.out.mono ?_
    rintro e w1 ⟨rfl, hb1⟩
    have HB := Lib.hid hb1
    clear hb1
    go_wp2
    go_ret
    exact ⟨ret_int (by rw [HS.out]; simp), HB.out⟩
  · have e : min (max v 0) 65535 = v := by omega
    rw [e] at HS hs
    clear e
    go_enter Tryz.func122, Tryz.ntmps122
    go_wp2_with fail
    refine H1.out.mono ?_
    rintro e w1 ⟨rfl, hb1⟩
    have HB := Lib.hid hb1
    clear hb1
    go_wp2
    go_ret
    exact ⟨ret_int (by rw [HS.out]), HB.out⟩
  · have e : min (max v 0) 65535 = 65535 := by omega
    rw [e] at HS hs
    clear e
    go_enter Tryz.func122, Tryz.ntmps122
    go_wp2_with fail
    refine H1.out.mono ?_
    rintro e w1 ⟨rfl, hb1⟩
    have HB := Lib.hid hb1
    clear hb1
    go_wp2
    go_ret
    exact ⟨ret_int (by rw [HS.out]), HB.out⟩
end Go.Proofs.YtplppbgkkfjknaaGreatDoor
namespace Go.Proofs.YtplppbgkkfjknaaGreatDoor
open Go.RowKit
set_option maxRecDepth 100000

theorem pb_zero_len (x : Int) : (pb x 4).length = 4 := pb_len x 4
/-- what the reference's Put appends to nothing, and to more bytes -/
theorem rput_nil (x : Int) (w : World) (hx : 0 ≤ x ∧ x < 4294967296) :
    Calls Tryz.prog 110 #[.slice none 0 0, .int .i64 4, .int .u64 x] w fun e w' => ∃ A c, e = .returned (.slice A 4 c) ∧ Ints w' w'.heap.size .u8 A 4 c (pb x 4) ∧ Below w.heap.size w w' := by
  refine (refPut_any none 0 0 4 x [] w (Ints.nil _ _ _) (by omega) hx.1 (by omega) (by omega)).mono ?_
  rintro e w' ⟨A, c, he, ho, hb⟩
  exact ⟨A, c, he, ho.ints, hb⟩
theorem rput_more (A : Option Addr) (n c : Nat) (xs : List Int) (x : Int) (w : World) (hi : Ints w w.heap.size .u8 A n c xs) (hn : n ≤ 1000) (hx : 0 ≤ x ∧ x < 4294967296) :
    Calls Tryz.prog 110 #[.slice A n c, .int .i64 4, .int .u64 x] w fun e w' => ∃ A c, e = .returned (.slice A (n + 4) c) ∧ Ints w' w'.heap.size .u8 A (n + 4) c (xs ++ pb x 4) ∧ Below w.heap.size w w' := by
  refine (refPut_any A n c 4 x xs w hi (by omega) hx.1 (by omega) (by omega)).mono ?_
  rintro e w' ⟨A, c, he, ho, hb⟩
  exact ⟨A, c, he, ho.ints, hb⟩

set_option maxHeartbeats 400000 in
theorem refScore_any (flow i v : Int) (w : World) (hf : 0 ≤ flow ∧ flow < 4294967296) (_hv : -9223372036854775808 ≤ v ∧ v ≤ 9223372036854775807) :
    Calls Tryz.prog 125 #[.int .u32 flow, .int .i64 i, .int .i64 v] w fun e w' => e = .returned (.int .u64 (sc flow i v)) ∧ Below w.heap.size w w' := by
  have hs := sc_bd flow i v
  have hh := h2_bd (i % 4294967296) flow
  have HS : Hid (sc flow i v = (1 + h2 (i % 4294967296) flow) * (min (max v 0) 65535)) := rfl
  have HH : Hid (hash (pb (i % 4294967296) 4 ++ pb flow 4) 8 = h2 (i % 4294967296) flow) := rfl
  obtain ⟨h, hhh⟩ : ∃ h, h2 (i % 4294967296) flow = h := ⟨_, rfl⟩
  rw [hhh] at hh HS HH
  rw [HS.out] at hs
  clear hhh
  have hcase : v < 0 ∨ (0 ≤ v ∧ v ≤ 65535) ∨ 65535 < v := by omega
  obtain ⟨u, hu⟩ : ∃ u, min (max v 0) 65535 = u := ⟨_, rfl⟩
  have HU := Lib.hid hu
  have hub : 0 ≤ u ∧ u ≤ 65535 := by omega
  have hi32 : 0 ≤ i % 4294967296 ∧ i % 4294967296 < 4294967296 := by omega
  rw [hu] at hs HS
  rw [Int.add_comm] at hs HS
  clear hu
  go_enter Tryz.func125, Tryz.ntmps125
  go_wp2_with fail
  refine (rput_nil _ _ (by omega)).mono ?_
  rintro e w1 ⟨A1, c1, rfl, hi1, hb1⟩
  have HI1 := Lib.hid hi1
  have HB1 := Lib.hid hb1
  clear hi1 hb1
  go_wp2_with fail
  refine (rput_more _ _ _ _ _ _ HI1.out (by omega) hf).mono ?_
  rintro e w2 ⟨A2, c2, rfl, hi2, hb2⟩
  have HI2 := Lib.hid hi2
  have HB2 := Lib.hid hb2
  clear hi2 hb2
  go_wp2_with fail
  refine (refHash_any _ _ _ _ _ _ HI2.out (by omega)).mono ?_
  rintro e w3 ⟨rfl, rfl⟩
  rw [HH.out]
  have hb : Below w.heap.size w w2 := HB1.out.trans (HB2.out.mono HB1.out.size)
  have HB := Lib.hid hb
  clear hb
  rcases hcase with h1 | ⟨h1, h2⟩ | h1
  · obtain rfl : u = 0 := by have := HU.out; omega
    go_wp2
    go_ret
    exact ⟨ret_int (by rw [HS.out]; simp), HB.out⟩
  · obtain rfl : u = v := by have := HU.out; omega
    go_wp2
    go_ret
    exact ⟨ret_int (by rw [HS.out, Int.add_comm]), HB.out⟩
  · obtain rfl : u = 65535 := by have := HU.out; omega
    go_wp2
    go_ret
    exact ⟨ret_int (by rw [HS.out, Int.add_comm]), HB.out⟩

set_option maxHeartbeats 400000 in
theorem flow_any (src dst fl ttl : Int) (L : Value) (w : World) (h0 : 0 ≤ src ∧ src < 4294967296) (h1 : 0 ≤ dst ∧ dst < 4294967296) (h2 : 0 ≤ fl ∧ fl < 4294967296) :
    Calls Tryz.prog 77 #[.agg #[.int .u32 src, .int .u32 dst, .int .u32 fl, .int .i64 ttl, L]] w fun e w' => e = .returned (.int .u32 (h3 src dst fl)) ∧ Below w.heap.size w w' := by
  have H1 := bhash3 src dst fl (w.alloc (.cells #[.int .u32 src, .int .u32 dst, .int .u32 fl, .int .i64 ttl, L] 54)) h0 h1 h2
  rw [show (w.alloc (.cells #[.int .u32 src, .int .u32 dst, .int .u32 fl, .int .i64 ttl, L] 54)).heap.size = w.heap.size + 1 by simp] at H1
  have HH := Lib.hid H1
  clear H1
  go_enter Tryz.func77, Tryz.ntmps77
  go_wp2_with fail
  refine HH.out.mono ?_
  rintro e w1 ⟨rfl, hb1⟩
  have HB := Lib.hid (((Below.refl w.heap.size w).alloc (Nat.le_refl _) _).trans (hb1.mono (by omega)))
  clear hb1
  go_wp2
  go_ret
  exact ⟨rfl, HB.out⟩

set_option maxHeartbeats 400000 in
theorem refFlow_any (src dst fl ttl : Int) (L : Value) (w : World) (h0 : 0 ≤ src ∧ src < 4294967296) (h1 : 0 ≤ dst ∧ dst < 4294967296) (h2 : 0 ≤ fl ∧ fl < 4294967296) :
    Calls Tryz.prog 82 #[.agg #[.int .u32 src, .int .u32 dst, .int .u32 fl, .int .i64 ttl, L]] w fun e w' => e = .returned (.int .u32 (h3 src dst fl)) ∧ Below w.heap.size w w' := by
  have hk0 : Below w.heap.size w (w.alloc (.cells #[.int .u32 src, .int .u32 dst, .int .u32 fl, .int .i64 ttl, L] 54)) := (Below.refl w.heap.size w).alloc (Nat.le_refl _) _
  have HK0 := Lib.hid hk0
  have HH : Hid (hash (pb src 4 ++ pb dst 4 ++ pb fl 4) 12 = h3 src dst fl) := rfl
  clear hk0
  go_enter Tryz.func82, Tryz.ntmps82

  go_wp2_with fail

  refine (rput_nil _ _ h0).mono ?_
  rintro e w1 ⟨A1, c1, rfl, hi1, hb1⟩
  have hsz := hb1.size
  have cA : w1.cell? ⟨w.heap.size, 1, none⟩ = some (.int .u32 dst) := (hb1.cell (p := ⟨w.heap.size, 1, none⟩) (by simp)).trans (by go_simp)
  have cB : w1.cell? ⟨w.heap.size, 2, none⟩ = some (.int .u32 fl) := (hb1.cell (p := ⟨w.heap.size, 2, none⟩) (by simp)).trans (by go_simp)
  have HI1 := Lib.hid hi1
  have HB1 := Lib.hid hb1
  simp at hsz
  clear hi1 hb1

  go_wp2_with fail

  refine (rput_more _ _ _ _ _ _ HI1.out (by omega) h1).mono ?_
  rintro e w2 ⟨A2, c2, rfl, hi2, hb2⟩
  have cC : w2.cell? ⟨w.heap.size, 2, none⟩ = some (.int .u32 fl) := (hb2.cell (p := ⟨w.heap.size, 2, none⟩) (by show w.heap.size < _; omega)).trans cB
  have HI2 : Hid (Ints w2 w2.heap.size .u8 A2 8 c2 (pb src 4 ++ pb dst 4)) := hi2
  have HB2 := Lib.hid hb2
  clear hi2 hb2 cA cB

  go_wp2_with fail
  refine (rput_more _ _ _ _ _ _ HI2.out (by omega) h2).mono ?_
  rintro e w3 ⟨A3, c3, rfl, hi3, hb3⟩
  have HI3 : Hid (Ints w3 w3.heap.size .u8 A3 12 c3 (pb src 4 ++ pb dst 4 ++ pb fl 4)) := hi3
  have HB3 := Lib.hid hb3
  clear hi3 hb3
  go_wp2_with fail
  refine (refHash_any _ _ _ _ _ _ HI3.out (by omega)).mono ?_
  rintro e w4 ⟨rfl, rfl⟩
  rw [HH.out]
  go_wp2
  go_ret
  have K1 := HK0.out.trans (HB1.out.mono HK0.out.size)
  have K2 := K1.trans (HB2.out.mono K1.size)
  exact ⟨rfl, K2.trans (HB3.out.mono K2.size)⟩

end Go.Proofs.YtplppbgkkfjknaaGreatDoor
namespace Go.Proofs.YtplppbgkkfjknaaGreatDoor
open Go.RowKit
set_option maxRecDepth 100000

/-- the score of member i in a list of weights -/
def scAt (ws : List Int) (flow : Int) (i : Nat) : Int := sc flow i (ws.getD i 0)
/-- the member that has been chosen among the first k, as an index plus 1, or 0 -/
def ch (ws : List Int) (flow : Int) : Nat → Nat
  | 0 => 0
  | k + 1 => if (if ch ws flow k = 0 then 0 else scAt ws flow (ch ws flow k - 1)) < scAt ws flow k then k + 1 else ch ws flow k
/-- the score that it has -/
def most (ws : List Int) (flow : Int) (k : Nat) : Int := if ch ws flow k = 0 then 0 else scAt ws flow (ch ws flow k - 1)
theorem ch_le (ws : List Int) (flow : Int) : ∀ k, ch ws flow k ≤ k
  | 0 => Nat.le_refl _
  | k + 1 => by
    have := ch_le ws flow k
    show (if most ws flow k < scAt ws flow k then k + 1 else ch ws flow k) ≤ k + 1
    split <;> omega
theorem ch_yes {ws : List Int} {flow : Int} {k : Nat} (h : most ws flow k < scAt ws flow k) : ch ws flow (k + 1) = k + 1 ∧ most ws flow (k + 1) = scAt ws flow k := by
  have e : ch ws flow (k + 1) = k + 1 := by
    show (if most ws flow k < scAt ws flow k then k + 1 else ch ws flow k) = k + 1
    rw [if_pos h]
  exact ⟨e, by rw [most, e]; simp⟩
theorem ch_no {ws : List Int} {flow : Int} {k : Nat} (h : ¬ most ws flow k < scAt ws flow k) : ch ws flow (k + 1) = ch ws flow k ∧ most ws flow (k + 1) = most ws flow k := by
  have e : ch ws flow (k + 1) = ch ws flow k := by
    show (if most ws flow k < scAt ws flow k then k + 1 else ch ws flow k) = ch ws flow k
    rw [if_neg h]
  exact ⟨e, by rw [most, e]; rfl⟩

/-- every weight fits its kind -/
def Wide (ws : List Int) : Prop := ∀ j, -9223372036854775808 ≤ ws.getD j 0 ∧ ws.getD j 0 ≤ 9223372036854775807

set_option maxHeartbeats 400000 in
theorem choose_any (A : Option Addr) (n c B : Nat) (ws : List Int) (flow : Int) (w : World) (hx : Ints w B .i64 A n c ws) (hB : B ≤ w.heap.size) (hw : Wide ws) (hf : 0 ≤ flow ∧ flow < 4294967296) (hn : n ≤ 1000) :
    Calls Tryz.prog 107 #[.slice A n c, .int .u32 flow] w fun e w' => e = .returned (.int .i64 ((ch ws flow n : Int) - 1)) ∧ Below w.heap.size w w' := by
  go_enter Tryz.func107, Tryz.ntmps107
  go_wp2
  go_loopw [5, 6, 12] (fun b s i wr => ∃ q : Nat, q ≤ n ∧ i = .int .i64 q ∧ b = .int .i64 ((ch ws flow q : Int) - 1) ∧ s = .int .u64 (most ws flow q) ∧ Hid (Below w.heap.size w wr)) (fun _ _ i _ => n - (intOf i).toNat)
  case atStart => exact ⟨0, Nat.zero_le _, rfl, rfl, rfl, Below.refl _ _⟩
  case round =>
    obtain ⟨q, hq, rfl, rfl, rfl, hb⟩ := hrel
    by_cases hlt : q < n
    · obtain ⟨b, o, x, rfl, hbB, hc, HX⟩ := (hx.below (hb.out.mono hB)).cell hlt
      have hwq := hw q
      rw [HX.out] at hwq
      have HS : Hid (scAt ws flow q = sc flow q x) := by
        show _ = _
        rw [scAt, HX.out]
      clear hx hw
      go_wp2_with fail
      refine (score_any flow q x wr hf hwq).mono ?_
      rintro e w2 ⟨rfl, hb2⟩
      have HB2 : Hid (Below w.heap.size w w2) := hb.out.trans (hb2.mono hb.out.size)
      rw [← HS.out]
      clear hb2 hb
      by_cases hm : most ws flow q < scAt ws flow q
      · have HC := Lib.hid (ch_yes hm)
        go_wp2
        go_roundw
        case rel => exact ⟨q + 1, by omega, by go_num, int_eq (by rw [HC.out.1]; omega), int_eq HC.out.2.symm, HB2⟩
        case measure => simp [intOf]; omega
      · have HC := Lib.hid (ch_no hm)
        go_wp2
        go_roundw
        case rel => exact ⟨q + 1, by omega, by go_num, int_eq (by rw [HC.out.1]), int_eq HC.out.2.symm, HB2⟩
        case measure => simp [intOf]; omega
    · obtain rfl : q = n := by omega
      clear hx hw
      go_wp2
      go_ret
      exact ⟨rfl, hb.out⟩

theorem held_step {W w w' : World} {b o : Nat} {v : Value} (hh : W.cell? ⟨b, o, none⟩ = some v ∧ Hid (Below w.heap.size w W)) (hb : Below W.heap.size W w') (hlt : b < w.heap.size) :
    w'.cell? ⟨b, o, none⟩ = some v ∧ Hid (Below w.heap.size w w') :=
  ⟨(hb.cell (p := ⟨b, o, none⟩) (by have := hh.2.out.size; show b < _; omega)).trans hh.1, hh.2.out.trans (hb.mono hh.2.out.size)⟩
theorem sc_pos {flow i v : Int} (h : 0 < v) : 0 < sc flow i v := by
  have := h2_bd (i % 4294967296) flow
  unfold sc
  exact Int.mul_pos (by omega) (by omega)
theorem sc_zero {flow i v : Int} (h : v ≤ 0) : sc flow i v = 0 := by
  unfold sc
  rw [show min (max v 0) 65535 = 0 by omega]
  simp
theorem most_nonneg (ws : List Int) (flow : Int) (k : Nat) : 0 ≤ most ws flow k := by
  unfold most
  split
  · omega
  · exact (sc_bd _ _ _).1

set_option maxHeartbeats 1000000 in
theorem refChoose_any (A : Option Addr) (n c B : Nat) (ws : List Int) (flow : Int) (w : World) (hx : Ints w B .i64 A n c ws) (hB : B ≤ w.heap.size) (hw : Wide ws) (hf : 0 ≤ flow ∧ flow < 4294967296) (hn : n ≤ 1000) :
    Calls Tryz.prog 109 #[.slice A n c, .int .u32 flow] w fun e w' => e = .returned (.int .i64 ((ch ws flow n : Int) - 1)) ∧ Below w.heap.size w w' := by
  go_enter Tryz.func109, Tryz.ntmps109
  go_wp2
  go_loopw [5, 10] (fun b i wr => ∃ q : Nat, q ≤ n ∧ i = .int .i64 q ∧ b = .int .i64 ((ch ws flow q : Int) - 1) ∧ Hid (Below w.heap.size w wr)) (fun _ i _ => n - (intOf i).toNat)
  case atStart => exact ⟨0, Nat.zero_le _, rfl, rfl, Below.refl _ _⟩
  case round =>
    obtain ⟨q, hq, rfl, rfl, hb⟩ := hrel
    by_cases hlt : q < n
    · obtain ⟨b, o, x, rfl, hbB, hc, HX⟩ := (hx.below (hb.out.mono hB)).cell hlt
      have hwq := hw q
      rw [HX.out] at hwq
      have HS : Hid (scAt ws flow q = sc flow q x) := by
        show _ = _
        rw [scAt, HX.out]
      have hm0 := most_nonneg ws flow q
      by_cases hx0 : 0 < x
      · by_cases hc0 : ch ws flow q = 0
        · have HC := Lib.hid (ch_yes (show most ws flow q < scAt ws flow q by rw [HS.out, most, if_pos hc0]; exact sc_pos hx0))
          have d0 : decide (0 < x) = true := by simp [hx0]
          have d1 : decide (((ch ws flow q : Nat) : Int) - 1 < 0) = true := by simp [hc0]
          rw [hc0] at d1 ⊢
          clear hx hw hx0 hc0 hm0
          go_wp2_with fail
          go_quiet (fail)
          go_wp2
          go_roundw
          case rel => exact ⟨q + 1, by omega, by go_num, int_eq (by rw [HC.out.1]; omega), below_drewN hb.out _⟩
          case measure => simp [intOf]; omega
        · obtain ⟨p, hp⟩ : ∃ p, ch ws flow q = p + 1 := ⟨ch ws flow q - 1, by omega⟩
          have hpq : p < q := by have := ch_le ws flow q; omega
          obtain ⟨b', o', y, e', _, hcy, HY⟩ := (hx.below (hb.out.mono hB)).cell (j := p) (by omega)
          simp only [Option.some.injEq, Addr.mk.injEq, and_true] at e'
          obtain ⟨rfl, rfl⟩ := e'
          have hwp := hw p
          rw [HY.out] at hwp
          have HM : Hid (most ws flow q = sc flow p y) := by
            show _ = _
            rw [most, hp, if_neg (by omega), Nat.add_sub_cancel, scAt, HY.out]
          have HCH := Lib.hid hp
          have e1 : ((ch ws flow q : Nat) : Int) - 1 = (p : Int) := by omega
          have d0 : decide (0 < x) = true := by simp [hx0]
          have d1 : decide ((p : Int) < 0) = false := by simp
          rw [e1]
          have hbB' : b < w.heap.size := by omega
          have hpn : p < n := by omega
          clear hx hw hx0 hc0 hm0 e1 hp
          go_wp2_with fail
          go_region_held3 (fun w' => w'.cell? ⟨b, o + p, none⟩ = some (.int .i64 y) ∧ Hid (Below w.heap.size w w')) (first | exact ⟨hcy, below_drewN hb.out 1⟩ | exact hs)
            (first | (go_at_call 125; refine (refScore_any _ _ _ _ hf (by omega)).mono ?_; rintro e w' ⟨rfl, hb2⟩; have hs := held_step (by assumption) hb2 hbB'; clear hb2))
          by_cases hm : sc flow p y < sc flow q x
          · have HC := Lib.hid (ch_yes (show most ws flow q < scAt ws flow q by rw [HM.out, HS.out]; exact hm))
            have dd : decide (sc flow p y < sc flow q x) = true := by simp [hm]
            have HB := hs.2
            go_wp2
            go_roundw
            case rel => exact ⟨q + 1, by omega, by go_num, int_eq (by rw [HC.out.1]; omega), HB⟩
            case measure => simp [intOf]; omega
          · have HC := Lib.hid (ch_no (show ¬ most ws flow q < scAt ws flow q by rw [HM.out, HS.out]; exact hm))
            have hle : sc flow q x ≤ sc flow p y := by omega
            have HB := hs.2
            clear hm
            go_wp2
            go_roundw
            case rel => exact ⟨q + 1, by omega, by go_num, int_eq (by rw [HC.out.1, HCH.out]; omega), HB⟩
            case measure => simp [intOf]; omega
      · have HC := Lib.hid (ch_no (show ¬ most ws flow q < scAt ws flow q by rw [HS.out, sc_zero (by omega)]; omega))
        have d0 : decide (0 < x) = false := by simp; omega
        clear hx hw hx0 hm0
        go_wp2_with fail
        go_quiet (fail)
        go_wp2
        go_roundw
        case rel => exact ⟨q + 1, by omega, by go_num, int_eq (by rw [HC.out.1]), below_drewN hb.out _⟩
        case measure => simp [intOf]; omega
    · obtain rfl : q = n := by omega
      clear hx hw
      go_wp2
      go_ret
      exact ⟨rfl, hb.out⟩
end Go.Proofs.YtplppbgkkfjknaaGreatDoor
