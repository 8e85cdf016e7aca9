/- lives, plain: what the document's examples give. lives: the walk. -/
import Derived.Test.YtplppbgkkfjknaaGreatDoorG23
namespace Go.Proofs.YtplppbgkkfjknaaGreatDoor
open Go.RowKit

set_option linter.unusedVariables false
set_option linter.unusedSimpArgs false
def lvP0 : PV := ⟨0, 1, 2, 1, none, 0, 0, [], 1⟩
def lvP1 : PV := ⟨1, 9, 3, 1, none, 0, 0, [], -1⟩
def lvH : XH := ⟨1, 0, 2, 1, 167772160, 8⟩
def lvRs (A : Option Addr) : List RT := [⟨167772160, 8, 3, 0, 0, 0, A, 1, 1, [lvH]⟩]
def lvKs : List BK := [⟨167772160, 8, 2, ⟨1, 9, 3, 0, none, 0, 0, [], 0⟩⟩]
def lvE : Ent := ⟨167772160, 8, 0⟩
theorem lv_valid : validP 167772160 8 = true := by decide +kernel
theorem lv_routes (A : Option Addr) : routesErr (lvRs A) = 0 := by
  unfold routesErr lvRs
  show firstE (rouErr _) 1 = 0
  simp only [firstE]
  have h : rouErr [(⟨167772160, 8, 3, 0, 0, 0, A, 1, 1, [lvH]⟩ : RT)] 0 = 0 := by
    unfold rouErr
    show (if validP 167772160 8 = false then (1 : Int) else _) = 0
    rw [lv_valid]
    rfl
  simp [h]
theorem lv_group : groupR lvKs [] [lvH] = [lvP0, lvP1] := by kernel_rfl
theorem lv_build (A : Option Addr) : buildS lvKs [] (lvRs A) = ([(1, [lvP0, lvP1])], [lvE]) := by
  unfold buildS lvRs
  show stepB lvKs [] ([], []) _ = _
  unfold stepB numD
  dsimp only
  rw [if_pos (by simp [idxQ])]
  show ([] ++ [grpD lvKs [] _], [] ++ [_]) = _
  unfold grpD
  dsimp only
  rw [lv_group]
  rfl
theorem lv_gErr : gErr 1 2 [lvP0, lvP1] = 0 := by decide +kernel
theorem lv_err {g : GE} (h : g.dat = (1, [lvP0, lvP1])) (hn : g.ps.length = g.n) (hl : ∀ p ∈ g.ps, p.ls.length = p.ln) : fibErr [lvE] [g] [5] [] [] = 0 := by
  obtain ⟨act, A, n, c, ps⟩ := g
  unfold GE.dat at h
  dsimp only at h hn hl
  obtain ⟨h1, h2⟩ := Prod.mk.inj h
  have hev : Even ps := fun p hp => (hl p hp).symm
  have hn2 : n = 2 := by
    have := congrArg List.length h2
    rw [List.length_map] at this
    simp only [List.length_cons, List.length_nil] at this
    omega
  subst h1 hn2
  have hg : geErr ⟨1, A, 2, c, ps⟩ = 0 := by
    unfold geErr
    dsimp only
    rw [← gErr_dat hev, h2]
    exact lv_gErr
  have hr : rowsErr 1 [lvE] = 0 := by decide +kernel
  have hl2 : firstE (locErr [5]) 1 = 0 := by decide +kernel
  have ht : tabErr [] = 0 := by decide +kernel
  unfold fibErr
  show orE (rowsErr 1 [lvE]) (orE (firstE _ 1) (orE (firstE (locErr [5]) 1) (orE (tabErr []) (firstE _ 0)))) = 0
  rw [hr, hl2, ht]
  have h3 : firstE (fun i => geErr (gAt [(⟨1, A, 2, c, ps⟩ : GE)] i)) 1 = 0 := by
    simp only [firstE]
    have : geErr (gAt [(⟨1, A, 2, c, ps⟩ : GE)] 0) = 0 := hg
    simp [this]
  rw [h3]
  rfl
theorem lv_row : rowFor [lvE] 167772161 = some lvE := by kernel_rfl
theorem lv_look (g : GE) : lookG [lvE] [g] 167772161 = some g := by
  unfold lookG
  rw [lv_row]
  rfl
def lvQ0 : PV := ⟨1, 9, 3, 1, none, 0, 0, [], -1⟩
theorem lv_fail : failG 1 2 [lvP0, lvP1] 0 = [lvQ0, lvP1] := by kernel_rfl
theorem lv_gErr2 : gErr 1 2 [lvQ0, lvP1] = 0 := by decide +kernel
theorem lv_pick (flow : Int) : pick 1 2 [lvQ0, lvP1] flow = 0 := by
  have h : 0 < scAt [1] flow 0 := by
    unfold scAt
    exact sc_pos (by decide)
  unfold pick
  rw [if_neg (by rw [lv_gErr2]; simp)]
  have h2 : ch [1] flow 1 = 1 := by
    unfold ch
    simp only [ch]
    rw [if_pos]
    simpa using h
  show (ch [1] flow 1 : Int) - 1 = 0
  rw [h2]
  rfl
def lvPk : PD := ⟨0, 167772161, 0, 3, []⟩
def lvPk5 : PD := ⟨0, 5, 0, 0, []⟩
theorem lv_fwd {g : GE} (h : g.dat = (1, [lvP0, lvP1])) (hn : g.ps.length = g.n) : forwardR [lvE] [g] [5] [] [] [true] lvPk = ((⟨0, 167772161, 0, 2, []⟩ : PD), lvQ0, 0) := by
  obtain ⟨act, A, n, c, ps⟩ := g
  unfold GE.dat at h
  dsimp only at h hn
  obtain ⟨h1, h2⟩ := Prod.mk.inj h
  have hn2 : n = 2 := by
    have := congrArg List.length h2
    rw [List.length_map] at this
    simp only [List.length_cons, List.length_nil] at this
    omega
  subst h1 hn2
  have e : forwardR [lvE] [(⟨1, A, 2, c, ps⟩ : GE)] [5] [] [] [true] lvPk = addrR [lvE] [(⟨1, A, 2, c, ps⟩ : GE)] [5] lvPk [true] := by
    unfold forwardR
    show fwdF _ _ _ _ _ _ (_ + 1) _ = _
    rw [fwdF, if_pos (show lvPk.ls.length = 0 from rfl)]
  have hd : downTo 1 2 (ps.map PV.dat) [true] 1 = [lvQ0, lvP1] := by
    rw [h2]
    show (if ([true].getD 0 false) = true then failG 1 2 [lvP0, lvP1] (0 : Nat) else _) = _
    rw [if_pos (show ([true].getD 0 false) = true from rfl)]
    exact lv_fail
  rw [e]
  unfold addrR
  rw [show ([5].any (isAt lvPk.dst)) = false from by decide, show lookG [lvE] [(⟨1, A, 2, c, ps⟩ : GE)] lvPk.dst.toNat = some ⟨1, A, 2, c, ps⟩ from lv_look _]
  unfold addrOut
  rw [if_neg (by simp)]
  dsimp only
  rw [if_neg (by decide), if_neg (by decide)]
  have hd2 : downTo 1 2 (ps.map PV.dat) [true] [true].length = [lvQ0, lvP1] := hd
  rw [hd2, lv_pick, if_neg (by decide)]
  rfl
theorem lv_home (g : GE) : forwardR [lvE] [g] [5] [] [] [] lvPk5 = (zeroPD, zeroP, 1) := by
  unfold forwardR
  show fwdF _ _ _ _ _ _ (_ + 1) _ = _
  rw [fwdF, if_pos (show lvPk5.ls.length = 0 from rfl)]
  unfold addrR
  rw [show ([5].any (isAt lvPk5.dst)) = true from by decide]
  rfl
end Go.Proofs.YtplppbgkkfjknaaGreatDoor
namespace Go.Proofs.YtplppbgkkfjknaaGreatDoor
open Go.RowKit

set_option linter.unusedVariables false
set_option linter.unusedSimpArgs false
theorem lit_cells (w : World) (T : TypeId) (cs : List Value) (size : Nat) (h : cs.length = size) : Cells (w.alloc (.cells cs.toArray T)) (w.alloc (.cells cs.toArray T)).heap.size size (some ⟨w.heap.size, 0, none⟩) 1 1 cs := by
  have := Cells.of_own (World.ownsRow_lit (base := w.heap.size) (size := size) (e := T) w cs.toArray 1 (Nat.le_refl _) (by simp [maxLen]) (by simpa using h))
  simpa using this
def lvW (w : World) : World :=
  ((((((w.alloc (.cells #[.int .u32 167772160, .int .i64 8] 65)).alloc (.cells #[.int .u32 1, .int .i64 0, .int .u32 2, .int .i64 1, .int .u32 167772160, .int .i64 8] 73)).alloc
    (.cells #[.int .u32 167772160, .int .i64 8, .int .i64 3, .int .i64 0, .int .i64 0, .int .i64 0, .slice (some ⟨w.heap.size + 1, 0, none⟩) 1 1] 68)).alloc
    (.cells #[.int .u32 167772160, .int .i64 8, .int .u32 2, .int .i64 1, .int .u32 9, .int .u32 3, .int .i64 0, .slice none 0 0, .int .i64 0] 75)).alloc
    (.cells #[.int .u32 167772160, .int .i64 8, .int .i64 3, .int .i64 0, .int .i64 0, .int .i64 0, .slice (some ⟨w.heap.size + 1, 0, none⟩) 1 1] 68)).alloc
    (.cells #[.int .u32 5] 42)).alloc
    (.cells #[.int .u32 167772160, .int .i64 8, .int .u32 2, .int .i64 1, .int .u32 9, .int .u32 3, .int .i64 0, .slice none 0 0, .int .i64 0] 75)
theorem lv_mem (w : World) : Below w.heap.size w (lvW w) ∧ Rts (lvW w) (lvW w).heap.size (some ⟨w.heap.size + 1 + 1 + 1 + 1, 0, none⟩) 1 1 (lvRs (some ⟨w.heap.size + 1, 0, none⟩)) ∧ Ints (lvW w) (lvW w).heap.size .u32 (some ⟨w.heap.size + 1 + 1 + 1 + 1 + 1, 0, none⟩) 1 1 [5] ∧
    Recs (lvW w) (lvW w).heap.size 9 (some ⟨w.heap.size + 1 + 1 + 1 + 1 + 1 + 1, 0, none⟩) 1 1 BK.vals lvKs := by
  obtain ⟨W, hW⟩ : ∃ W, lvW w = W := ⟨_, rfl⟩
  have hW0 := hW
  unfold lvW at hW
  obtain ⟨w1, h1⟩ : ∃ w1, w.alloc (.cells #[.int .u32 167772160, .int .i64 8] 65) = w1 := ⟨_, rfl⟩
  rw [h1] at hW
  have s1 : w1.heap.size = w.heap.size + 1 := by rw [← h1]; simp
  have b1 : Below w.heap.size w w1 := by rw [← h1]; exact belowA _ _
  have c1 := lit_cells w1 73 [.int .u32 1, .int .i64 0, .int .u32 2, .int .i64 1, .int .u32 167772160, .int .i64 8] 6 rfl
  obtain ⟨w2, h2⟩ : ∃ w2, w1.alloc (.cells #[.int .u32 1, .int .i64 0, .int .u32 2, .int .i64 1, .int .u32 167772160, .int .i64 8] 73) = w2 := ⟨_, rfl⟩
  rw [h2] at hW c1
  have s2 : w2.heap.size = w.heap.size + 1 + 1 := by rw [← h2, ← s1]; simp
  have b2 : Below w1.heap.size w1 w2 := by rw [← h2]; exact belowA _ _
  obtain ⟨w3, h3⟩ : ∃ w3, w2.alloc (.cells #[.int .u32 167772160, .int .i64 8, .int .i64 3, .int .i64 0, .int .i64 0, .int .i64 0, .slice (some ⟨w.heap.size + 1, 0, none⟩) 1 1] 68) = w3 := ⟨_, rfl⟩
  rw [h3] at hW
  have s3 : w3.heap.size = w.heap.size + 1 + 1 + 1 := by rw [← h3, ← s2]; simp
  have b3 : Below w2.heap.size w2 w3 := by rw [← h3]; exact belowA _ _
  obtain ⟨w4, h4⟩ : ∃ w4, w3.alloc (.cells #[.int .u32 167772160, .int .i64 8, .int .u32 2, .int .i64 1, .int .u32 9, .int .u32 3, .int .i64 0, .slice none 0 0, .int .i64 0] 75) = w4 := ⟨_, rfl⟩
  rw [h4] at hW
  have s4 : w4.heap.size = w.heap.size + 1 + 1 + 1 + 1 := by rw [← h4, ← s3]; simp
  have b4 : Below w3.heap.size w3 w4 := by rw [← h4]; exact belowA _ _
  have c5 := lit_cells w4 68 [.int .u32 167772160, .int .i64 8, .int .i64 3, .int .i64 0, .int .i64 0, .int .i64 0, .slice (some ⟨w.heap.size + 1, 0, none⟩) 1 1] 7 rfl
  obtain ⟨w5, h5⟩ : ∃ w5, w4.alloc (.cells #[.int .u32 167772160, .int .i64 8, .int .i64 3, .int .i64 0, .int .i64 0, .int .i64 0, .slice (some ⟨w.heap.size + 1, 0, none⟩) 1 1] 68) = w5 := ⟨_, rfl⟩
  rw [h5] at hW c5
  have s5 : w5.heap.size = w.heap.size + 1 + 1 + 1 + 1 + 1 := by rw [← h5, ← s4]; simp
  have b5 : Below w4.heap.size w4 w5 := by rw [← h5]; exact belowA _ _
  have c6 := lit_cells w5 42 [.int .u32 5] 1 rfl
  obtain ⟨w6, h6⟩ : ∃ w6, w5.alloc (.cells #[.int .u32 5] 42) = w6 := ⟨_, rfl⟩
  rw [h6] at hW c6
  have s6 : w6.heap.size = w.heap.size + 1 + 1 + 1 + 1 + 1 + 1 := by rw [← h6, ← s5]; simp
  have b6 : Below w5.heap.size w5 w6 := by rw [← h6]; exact belowA _ _
  have c7 := lit_cells w6 75 [.int .u32 167772160, .int .i64 8, .int .u32 2, .int .i64 1, .int .u32 9, .int .u32 3, .int .i64 0, .slice none 0 0, .int .i64 0] 9 rfl
  rw [hW] at c7
  have b7 : Below w6.heap.size w6 W := by rw [← hW]; exact belowA _ _
  have b67 := below3 b6 b7
  have b57 := below3 b5 b67
  have b47 := below3 b4 b57
  have b37 := below3 b3 b47
  have b27 := below3 b2 b37
  rw [hW0]
  rw [s1] at c1
  rw [s4] at c5
  rw [s5] at c6
  rw [s6] at c7
  refine ⟨below3 b1 b27, ⟨⟨(c5.below b67).more b67.size, rfl⟩, fun r hr => ?_⟩, (c6.below b7).more b7.size, ⟨c7, rfl⟩⟩
  obtain rfl : r = ⟨167772160, 8, 3, 0, 0, 0, some ⟨w.heap.size + 1, 0, none⟩, 1, 1, [lvH]⟩ := by simpa [lvRs] using hr
  exact ⟨by show 167772160 < 4294967296; decide, by show 1 ≤ _; omega, ⟨(c1.below b37).more b37.size, rfl⟩⟩
theorem lv_win (A : Option Addr) : WIn (lvRs A) lvKs [] := by
  refine ⟨fun r hr h hh => ?_, fun k hk => ?_, fun o ho => by cases ho⟩
  · obtain rfl : r = ⟨167772160, 8, 3, 0, 0, 0, A, 1, 1, [lvH]⟩ := by simpa [lvRs] using hr
    obtain rfl : h = lvH := by simpa using hh
    exact ⟨by unfold W64 lvH; decide, by unfold W32 lvH; decide, by unfold W32 lvH; decide, by unfold W64 lvH; decide⟩
  · obtain rfl : k = ⟨167772160, 8, 2, ⟨1, 9, 3, 0, none, 0, 0, [], 0⟩⟩ := by simpa [lvKs] using hk
    exact ⟨by unfold W64; decide, by unfold W32; decide, by unfold W32; decide⟩
theorem two_boxes (w : World) (pk pt : List Value) : let W := (w.alloc (.cells #[.int .u32 0, .int .u32 0, .int .u32 0, .int .i64 0, .slice none 0 0] 54)).alloc (.cells #[.int .i64 0, .int .u32 0, .int .u32 0, .int .i64 0, .slice none 0 0, .int .i64 0] 57)
    let V := (W.setRow w.heap.size pk.toArray).setRow (w.heap.size + 1) pt.toArray
    Hid (Blk W w.heap.size 54 [.int .u32 0, .int .u32 0, .int .u32 0, .int .i64 0, .slice none 0 0]) ∧ Hid (Blk (W.setRow w.heap.size pk.toArray) (w.heap.size + 1) 57 [.int .i64 0, .int .u32 0, .int .u32 0, .int .i64 0, .slice none 0 0, .int .i64 0]) ∧ Hid (Blk V w.heap.size 54 pk) ∧ Hid (Blk V (w.heap.size + 1) 57 pt) ∧ Hid (Below w.heap.size w V) := by
  intro W V
  have h1 : Blk W w.heap.size 54 [.int .u32 0, .int .u32 0, .int .u32 0, .int .i64 0, .slice none 0 0] := (Blk.new w _ _).keep (belowA _ _)
  have h2 : Blk W (w.heap.size + 1) 57 [.int .i64 0, .int .u32 0, .int .u32 0, .int .i64 0, .slice none 0 0, .int .i64 0] := Blk.new2 w _ _ _
  have hb : Below w.heap.size w W := below3 (belowA _ _) (belowA _ _)
  have s1 := Save.row w.heap.size W pk.toArray
  have s2 := Save.row (w.heap.size + 1) (W.setRow w.heap.size pk.toArray) pt.toArray
  have hs := hb.size
  have hs1 := s1.size
  exact ⟨h1, h2.save s1 (by omega), (h1.row pk).save s2 (by omega), (h2.save s1 (by omega)).row pt, (hb.trans (s1.below (Nat.le_refl _) hs)).trans (s2.below (by omega) (by omega))⟩
set_option maxRecDepth 100000 in
set_option maxHeartbeats 8000000 in
theorem lives52_any (w : World) (henv : Env w) : Calls Tryz.prog 9 #[] w fun e w' => e = .returned (.bool true) ∧ Below w.heap.size w w' := by
  obtain ⟨m1, m2, m3, m4⟩ := lv_mem w
  have hBD := Lib.hid m1
  have HC := build_fib_any (some ⟨w.heap.size + 1 + 1 + 1 + 1, 0, none⟩) (some ⟨w.heap.size + 1 + 1 + 1 + 1 + 1, 0, none⟩) (some ⟨w.heap.size + 1 + 1 + 1 + 1 + 1 + 1, 0, none⟩) none none none 1 1 1 1 1 1 0 0 0 0 0 0 (lvW w).heap.size (lvRs (some ⟨w.heap.size + 1, 0, none⟩)) [5] lvKs [] [] [] (lvW w) m2 m3 m4
    ⟨⟨⟨by simp, by simp [maxLen], rfl, fun h => absurd h (by omega)⟩, rfl⟩, fun e he => by cases he⟩ ⟨⟨⟨by simp, by simp [maxLen], rfl, fun h => absurd h (by omega)⟩, rfl⟩, fun e he => by cases he⟩ ⟨⟨by simp, by simp [maxLen], rfl, fun h => absurd h (by omega)⟩, rfl⟩ (Nat.le_refl _)
    (by omega) (by omega) (by omega) (by omega) (by omega) (by omega) (fun r hr => by
      obtain rfl : r = ⟨167772160, 8, 3, 0, 0, 0, some ⟨w.heap.size + 1, 0, none⟩, 1, 1, [lvH]⟩ := by simpa [lvRs] using hr
      show 1 ≤ 400
      omega) (fun b hb => by cases hb) (lv_win _) (henv.below m1)
  rw [lv_routes, lv_build] at HC
  have HC1 := Lib.hid HC
  have HENV := Lib.hid henv
  clear henv m1 m2 m3 m4 HC
  go_enter Tryz.func9, Tryz.ntmps9
  go_wp2_with fail
  refine Calls.mono HC1.out ?_
  rintro e w2 ⟨hb2, (⟨h, _⟩ | ⟨_, gs, bs, hgs, hbs, hg1, hg2, hor⟩)⟩
  · exact absurd rfl h
  obtain ⟨g, rfl⟩ : ∃ g, gs = [g] := by
    have hl := congrArg List.length hgs
    rcases gs with _ | ⟨g, _ | ⟨g2, t⟩⟩
    · simp at hl
    · exact ⟨g, rfl⟩
    · simp at hl
  obtain rfl : bs = [] := by
    have hl := congrArg List.length hbs
    rcases bs with _ | ⟨b, t⟩
    · rfl
    · simp at hl
  have hgd : g.dat = (1, [lvP0, lvP1]) := (List.cons.inj hgs).1
  have hgl := hg1 g List.mem_cons_self
  have hz := lv_err hgd hgl.1 hgl.2
  rcases hor with ⟨h, _⟩ | ⟨_, tA, gA, lA, bA, nA, tc, gc, lc, bc, nc, rfl, hfa, hg3⟩
  · exact absurd hz h
  have hn2 : g.n = 2 := by
    have := congrArg (fun q => q.2.length) hgd
    simp only [GE.dat, List.length_map, List.length_cons, List.length_nil] at this
    omega
  obtain ⟨act, gA2, gn2, gc2, gps⟩ := g
  dsimp only at hn2
  subst hn2
  have hac : act = 1 := (Prod.mk.inj hgd).1
  subst hac
  have hpd : gps.map PV.dat = [lvP0, lvP1] := (Prod.mk.inj hgd).2
  obtain ⟨w3, hw3⟩ : ∃ w3, w2.alloc (.cells #[.slice tA 1 tc, .slice gA 1 gc, .slice lA 1 lc, .slice bA 0 bc, .slice nA 0 nc] 35) = w3 := ⟨_, rfl⟩
  have hb3 : Below w2.heap.size w2 w3 := by rw [← hw3]; exact belowA _ _
  have HF3 : Hid (Blk w3 w2.heap.size 35 [.slice tA 1 tc, .slice gA 1 gc, .slice lA 1 lc, .slice bA 0 bc, .slice nA 0 nc]) := by show Blk _ _ _ _; rw [← hw3]; exact Blk.new w2 _ _
  have HB3 := Lib.hid (below3 (below3 hBD.out hb2) hb3)
  have HFA : Hid (FibAt w3 w3.heap.size tA gA lA bA nA 1 tc 1 gc 1 lc 0 bc 0 nc [lvE] [⟨1, gA2, 2, gc2, gps⟩] [5] [] []) := (hfa.below hb3).more hb3.size
  obtain ⟨b, o, g2, hgA, hbB, hgk, hgp, c0, c1⟩ := HFA.out.g.get (j := 0) (by omega)
  have hg2' : g2 = ⟨1, gA2, 2, gc2, gps⟩ := (Option.some.inj hgk).symm
  subst hg2' hgA
  dsimp only at hgp c0 c1
  obtain ⟨b2, o2, p2, hA2, hb2B, hpk, _, d0, d1, d2, d3, d4, d5⟩ := hgp.get (j := 0) (by omega)
  subst hA2
  have hp0 : p2.dat = lvP0 := by
    have h1 : (gps.map PV.dat)[0]? = some p2.dat := by rw [List.getElem?_map, hpk]; rfl
    rw [hpd] at h1
    exact (Option.some.inj h1).symm
  have hbk : p2.backup = 1 := congrArg PV.backup hp0
  rw [hbk] at d5
  rw [Nat.zero_mul, Nat.add_zero] at c0 c1
  rw [Nat.zero_mul, Nat.add_zero] at d5
  have f0 := HF3.out.cell 0
  have f1 := HF3.out.cell 1
  have f2 := HF3.out.cell 2
  have f3 := HF3.out.cell 3
  have f4 := HF3.out.cell 4
  simp only [List.getElem?_cons_zero, List.getElem?_cons_succ] at f0 f1 f2 f3 f4
  have hlF := HF3.out.lt
  have HGDL := Lib.hid (show ∀ g ∈ [(⟨1, some ⟨b2, o2, none⟩, 2, gc2, gps⟩ : GE)], g.n ≤ 1000 ∧ ∀ q ∈ g.ps, q.ls.length ≤ 1000 from fun g hg => by
    obtain rfl : g = ⟨1, some ⟨b2, o2, none⟩, 2, gc2, gps⟩ := by simpa using hg
    refine ⟨by show 2 ≤ 1000; omega, fun q hq => ?_⟩
    have h1 : q.dat ∈ gps.map PV.dat := List.mem_map_of_mem hq
    rw [hpd] at h1
    have h2 : q.dat.ls = [] := by
      simp only [List.mem_cons, List.not_mem_nil, or_false] at h1
      rcases h1 with h1 | h1 <;> rw [h1] <;> rfl
    have h3 : q.ls = [] := h2
    rw [h3]
    simp)
  have HGD := Lib.hid hgd
  have HGN := Lib.hid hgl.1
  clear hgs hbs hg1 hg2 hgd hgl hz hfa hg3 hb2 hb3 hpk hpd hp0 hbk hgk hgp d0 d1 d2 d3 d4 HC1
  have HFC := forward_fib_any tA (some ⟨b, o, none⟩) lA bA nA 1 tc 1 gc 1 lc 0 bc 0 nc (some ⟨w3.heap.size, 0, none⟩) none 1 1 0 0 (w3.alloc (.cells #[.bool true] 4)).heap.size [lvE] [⟨1, some ⟨b2, o2, none⟩, 2, gc2, gps⟩] [5] [] [] lvPk [true] (w3.alloc (.cells #[.bool true] 4))
    ((HFA.out.below (belowA _ _)).more (by simp)) ⟨lit_cells w3 4 [.bool true] 1 rfl, rfl⟩ (ints_nil _ _) (Nat.le_refl _) (by omega) HGDL.out (by omega) (fun x hx => by cases hx) ⟨by decide, by decide⟩ ⟨by decide, by decide⟩ ⟨by decide, by decide⟩ ⟨by decide, by decide⟩
  rw [lv_fwd HGD.out HGN.out] at HFC
  unfold GivesOut at HFC
  dsimp only [lvQ0, lvPk] at HFC
  have HFC1 := Lib.hid HFC
  clear HFC
  go_wp2_with fail
  refine Calls.mono HFC1.out ?_
  rintro e w5 ⟨A6, n6, c6, A7, n7, c7, rfl, _, _, _, _, hb5⟩
  have HB5 := Lib.hid (below3 (below3 HB3.out (belowA _ _)) hb5)
  have HF5 := Lib.hid ((HF3.out.keep (belowA _ _)).keep hb5)
  have HFA5 : Hid (FibAt w5 w5.heap.size tA (some ⟨b, o, none⟩) lA bA nA 1 tc 1 gc 1 lc 0 bc 0 nc [lvE] [⟨1, some ⟨b2, o2, none⟩, 2, gc2, gps⟩] [5] [] []) := (((HFA.out.below (belowA _ _)).more (by simp)).below hb5).more hb5.size
  obtain ⟨HE1, HE2, HK1, HK2, HBV⟩ := two_boxes w5 [.int .u32 0, .int .u32 167772161, .int .u32 0, .int .i64 2, .slice A6 n6 c6] [.int .i64 1, .int .u32 9, .int .u32 3, .int .i64 1, .slice A7 n7 c7, .int .i64 (-1)]
  obtain ⟨V, hV⟩ : ∃ V, (((w5.alloc (.cells #[.int .u32 0, .int .u32 0, .int .u32 0, .int .i64 0, .slice none 0 0] 54)).alloc (.cells #[.int .i64 0, .int .u32 0, .int .u32 0, .int .i64 0, .slice none 0 0, .int .i64 0] 57)).setRow w5.heap.size #[.int .u32 0, .int .u32 167772161, .int .u32 0, .int .i64 2, .slice A6 n6 c6]).setRow (w5.heap.size + 1) #[.int .i64 1, .int .u32 9, .int .u32 3, .int .i64 1, .slice A7 n7 c7, .int .i64 (-1)] = V := ⟨_, rfl⟩
  rw [hV] at HK1 HK2 HBV
  have HB6 := Lib.hid (below3 HB5.out HBV.out)
  have HF6 := Lib.hid (HF5.out.keep HBV.out)
  have HFA6 : Hid (FibAt V V.heap.size tA (some ⟨b, o, none⟩) lA bA nA 1 tc 1 gc 1 lc 0 bc 0 nc [lvE] [⟨1, some ⟨b2, o2, none⟩, 2, gc2, gps⟩] [5] [] []) := (HFA5.out.below HBV.out).more HBV.out.size
  have p0 := HF6.out.cell 0
  have p1 := HF6.out.cell 1
  have p2 := HF6.out.cell 2
  have p3 := HF6.out.cell 3
  have p4 := HF6.out.cell 4
  simp only [List.getElem?_cons_zero, List.getElem?_cons_succ] at p0 p1 p2 p3 p4
  have hlV := HF6.out.lt
  have HFC := forward_fib_any tA (some ⟨b, o, none⟩) lA bA nA 1 tc 1 gc 1 lc 0 bc 0 nc none none 0 0 0 0 V.heap.size [lvE] [⟨1, some ⟨b2, o2, none⟩, 2, gc2, gps⟩] [5] [] [] lvPk5 [] V
    HFA6.out ⟨⟨by simp, by simp [maxLen], rfl, fun h => absurd h (by omega)⟩, rfl⟩ (ints_nil _ _) (Nat.le_refl _) (by omega) HGDL.out (by omega) (fun x hx => by cases hx) ⟨by decide, by decide⟩ ⟨by decide, by decide⟩ ⟨by decide, by decide⟩ ⟨by decide, by decide⟩
  rw [lv_home] at HFC
  unfold GivesOut at HFC
  dsimp only [zeroPD, zeroP, lvPk5] at HFC
  have HFC2 := Lib.hid HFC
  clear HFC HFC1 hb5 f0 f1 f2 f3 f4 c0 c1 d5
  go_wp2_with (first | (refine wpList_store_blk (cs := [.int .u32 0, .int .u32 167772161, .int .u32 0, .int .i64 2, .slice A6 n6 c6]) rfl 54 _ _ rfl w5.heap.size rfl rfl HE1.out (by kernel_rfl) rfl (by kernel_rfl) ?_) | (refine wpList_store_blk (cs := [.int .i64 1, .int .u32 9, .int .u32 3, .int .i64 1, .slice A7 n7 c7, .int .i64 (-1)]) rfl 57 _ _ rfl (w5.heap.size + 1) rfl rfl HE2.out (by kernel_rfl) rfl (by kernel_rfl) ?_))
  try rw [hV]
  refine Calls.mono HFC2.out ?_
  rintro e w7 ⟨A8, n8, c8, A9, n9, c9, rfl, _, _, _, _, hb7⟩
  have HB7 := Lib.hid (below3 HB6.out hb7)
  have HK17 := Lib.hid (HK1.out.keep hb7)
  have HK27 := Lib.hid (HK2.out.keep hb7)
  clear HE1 HE2 hV
  obtain ⟨HE1, HE2, _, _, HBX⟩ := two_boxes w7 [.int .u32 0, .int .u32 0, .int .u32 0, .int .i64 0, .slice A8 n8 c8] [.int .i64 0, .int .u32 0, .int .u32 0, .int .i64 0, .slice A9 n9 c9, .int .i64 0]
  obtain ⟨X, hX⟩ : ∃ X, (((w7.alloc (.cells #[.int .u32 0, .int .u32 0, .int .u32 0, .int .i64 0, .slice none 0 0] 54)).alloc (.cells #[.int .i64 0, .int .u32 0, .int .u32 0, .int .i64 0, .slice none 0 0, .int .i64 0] 57)).setRow w7.heap.size #[.int .u32 0, .int .u32 0, .int .u32 0, .int .i64 0, .slice A8 n8 c8]).setRow (w7.heap.size + 1) #[.int .i64 0, .int .u32 0, .int .u32 0, .int .i64 0, .slice A9 n9 c9, .int .i64 0] = X := ⟨_, rfl⟩
  rw [hX] at HBX
  have HB8 := Lib.hid (below3 HB7.out HBX.out)
  have k3 := (HK17.out.keep HBX.out).cell 3
  have k0 := (HK27.out.keep HBX.out).cell 0
  simp only [List.getElem?_cons_zero, List.getElem?_cons_succ] at k3 k0
  have hlk3 := (HK17.out.keep HBX.out).lt
  have hlk0 := (HK27.out.keep HBX.out).lt
  clear hb7 p0 p1 p2 p3 p4 HFC2
  go_upto_region 9 with (first | (refine wpList_store_blk (cs := [.int .u32 0, .int .u32 0, .int .u32 0, .int .i64 0, .slice A8 n8 c8]) rfl 54 _ _ rfl w7.heap.size rfl rfl HE1.out (by kernel_rfl) rfl (by kernel_rfl) ?_) | (refine wpList_store_blk (cs := [.int .i64 0, .int .u32 0, .int .u32 0, .int .i64 0, .slice A9 n9 c9, .int .i64 0]) rfl 57 _ _ rfl (w7.heap.size + 1) rfl rfl HE2.out (by kernel_rfl) rfl (by kernel_rfl) ?_))
  try rw [hX]
  go_wp2
  go_ret
  exact ⟨rfl, HB8.out⟩
end Go.Proofs.YtplppbgkkfjknaaGreatDoor
