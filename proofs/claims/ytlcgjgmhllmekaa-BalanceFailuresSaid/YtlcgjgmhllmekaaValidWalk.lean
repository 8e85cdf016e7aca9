/- BalanceValid: the walk. -/
import Derived.Test.YtlcgjgmhllmekaaPickable
namespace Go.Proofs.Ytlcgjgmhllmekaa
open Go.RowKit

/-- two groups' boxes: the argument's, laid in w, and one laid in w2 -/
def GBox2 (w : World) (act : Int) (L : Value) (w2 : World) (act2 : Int) (L2 : Value) (W : World) : Prop :=
  W.cell? ⟨w.heap.size, 0, none⟩ = some (.int .i64 act) ∧ W.cell? ⟨w.heap.size, 1, none⟩ = some L ∧ W.cell? ⟨w2.heap.size, 0, none⟩ = some (.int .i64 act2) ∧ W.cell? ⟨w2.heap.size, 1, none⟩ = some L2 ∧
    Hid (Below (w2.heap.size + 1) (w2.alloc (.cells #[.int .i64 act2, L2] 24)) W)
section
variable {w w2 W w' : World} {act act2 : Int} {L L2 : Value}
theorem GBox2.of (hb : GBox w act L w2) (h : Below (w2.heap.size + 1) (w2.alloc (.cells #[.int .i64 act2, L2] 24)) W) : GBox2 w act L w2 act2 L2 W := by
  have k : ∀ o, W.cell? ⟨w2.heap.size, o, none⟩ = (w2.alloc (.cells #[.int .i64 act2, L2] 24)).cell? ⟨w2.heap.size, o, none⟩ := fun o => h.cell (p := ⟨w2.heap.size, o, none⟩) (Nat.lt_succ_self _)
  have g := hb.step (((Below.refl w2.heap.size w2).alloc (Nat.le_refl _) (.cells #[.int .i64 act2, L2] 24)).trans (h.mono (Nat.le_succ _)))
  exact ⟨g.1, g.2.1, (k 0).trans (by go_simp), (k 1).trans (by go_simp), h⟩
theorem GBox2.size (h : GBox2 w act L w2 act2 L2 W) : w2.heap.size + 1 ≤ W.heap.size := by have := h.2.2.2.2.out.size; simpa using this
theorem GBox2.step (h : GBox2 w act L w2 act2 L2 W) (hg : GBox w act L w2) (hb : Below W.heap.size W w') : GBox2 w act L w2 act2 L2 w' := .of hg (h.2.2.2.2.out.trans (hb.mono h.size))
theorem GBox2.below (h : GBox2 w act L w2 act2 L2 W) : Below w2.heap.size w2 W := ((Below.refl w2.heap.size w2).alloc (Nat.le_refl _) _).trans (h.2.2.2.2.out.mono (Nat.le_succ _))
theorem GBox2.whole (h : GBox2 w act L w2 act2 L2 W) (hg : GBox w act L w2) : Below w.heap.size w W := hg.below.trans (h.below.mono hg.below.size)
end
set_option maxRecDepth 100000 in
set_option maxHeartbeats 2000000 in
theorem valid_walk0 (act iface : Int) (A : Option Addr) (n c : Nat) (ds : List PV) (w : World) (hx : GroupAt w w.heap.size A n c ds) (hsd : ShortD ds) (hn0 : n ≤ 140737488355328) :
    Calls Try.prog 7 #[.agg #[.int .i64 act, .slice A n c], .int .i64 iface] w fun e w' => e = .returned (.bool true) ∧ Below w.heap.size w w' := by
  have HS0 : Hid (GBox w act (.slice A n c) (w.alloc (.cells #[.int .i64 act, .slice A n c] 24))) := GBox.of (Below.refl _ _)
  by_cases hn : 80 < n
  · clear hx
    go_enter Try.func7, Try.ntmps7
    go_wp2_with fail
    refine (awake_any _).mono ?_
    rintro e w1 ⟨rfl, hb1⟩
    have HB : Hid (Below w.heap.size w w1) := (HS0.out.step hb1).below
    clear hb1 HS0
    go_wp2
    go_ret
    exact ⟨rfl, HB.out⟩
  have C2 := Lib.hid (refCheck_at A n c w.heap.size act ds _ (hx.below HS0.out.below) HS0.out.below.size (by omega))
  by_cases hg : gErr act n ds = 0
  · rw [hg] at C2
    have G := Lib.hid (good_of hg)
    have hl := hx.len
    have hi := hx.idem
    have HF2 : Hid (ShortD (failG act n ds iface) ∧ Good act n (failG act n ds iface) ∧ gErr act n (failG act n ds iface) = 0) :=
      ⟨shortD_failG hi hsd, good_fail G.out hl hi iface, gErr_of_good (good_fail G.out hl hi iface)⟩
    have HI := Lib.hid hi
    have HL := Lib.hid hl
    have HX := Lib.hid hx
    have HSD := Lib.hid hsd
    have hn1 : n ≤ 1000 := by omega
    obtain ⟨a, rfl⟩ := Int.eq_ofNat_of_zero_le G.out.a0
    obtain ⟨fs, hfs⟩ : ∃ m, failG a n ds iface = m := ⟨_, rfl⟩
    have HFS := Lib.hid hfs
    have HTW : Hid (fs.map PV.dat = fs → failG a n fs iface = fs ∧ ∀ j, j < a → clear1 fs iface (fs.getD j zeroP)) := by
      intro h
      rw [← hfs] at h ⊢
      exact ⟨fail_twice G.out hl hi iface h, fun j hj => fail_clear G.out hl hi iface (by omega)⟩
    rw [hfs] at HF2
    clear hg hl hi hx hsd hfs
    go_enter Try.func7, Try.ntmps7
    go_wp2_with fail
    refine C2.out.mono ?_
    rintro e w1 ⟨rfl, hb1⟩
    have HS1 : Hid (GBox w a (.slice A n c) w1) := HS0.out.step hb1
    obtain ⟨u0, u1, _⟩ := HS1.out
    clear hb1
    go_wp2_with fail
    refine (fail_at A n c a iface ds w1 (HX.out.grow HS1.out.below HS1.out.below.size) HSD.out hn1).mono ?_
    rintro e w2 ⟨A1, c1, rfl, hG, hb2⟩
    rw [HFS.out] at hG
    have HS2 : Hid (GBox w a (.slice A n c) w2) := HS1.out.step hb2
    have HG := Lib.hid hG
    have HT := Lib.hid (HTW.out hG.idem)
    clear hb2 hG u0 u1 HTW
    go_wp2_with fail
    have hs0 : GBox2 w a (.slice A n c) w2 a (.slice A1 n c1) (w2.alloc (.cells #[.int .i64 a, .slice A1 n c1] 24)) := GBox2.of HS2.out (Below.refl _ _)
    have C3 : Hid (∀ W, GBox2 w a (.slice A n c) w2 a (.slice A1 n c1) W → Calls Try.prog 11 #[.agg #[.int .i64 a, .slice A1 n c1]] W fun e w' => e = .returned (.int .i64 0) ∧ Below W.heap.size W w') := by
      intro W h
      have := refCheck_at A1 n c1 w2.heap.size a fs W (HG.out.below h.below) h.below.size hn1
      rwa [HF2.out.2.2] at this
    have P3 : Hid (∀ W, GBox2 w a (.slice A n c) w2 a (.slice A1 n c1) W → Calls Try.prog 19 #[.agg #[.int .i64 a, .slice A1 n c1], .int .i64 iface] W fun e w' => e = .returned (.bool true) ∧ Below W.heap.size W w') :=
      fun W h => pickable_at A1 n c1 w2.heap.size a iface fs W (HG.out.below h.below) h.below.size HF2.out.2.1 HT.out.2
    have F3 : Hid (∀ W, GBox2 w a (.slice A n c) w2 a (.slice A1 n c1) W → Calls Try.prog 15 #[.agg #[.int .i64 a, .slice A1 n c1], .int .i64 iface] W (GivesG a n fs W)) := by
      intro W h
      have := fail_at A1 n c1 a iface fs W (HG.out.grow h.below h.below.size) HF2.out.1 hn1
      rwa [HT.out.1] at this
    have S3 : Hid (∀ W A2 c2 M, M ≤ W.heap.size → GBox2 w a (.slice A n c) w2 a (.slice A1 n c1) W → GroupAt W M A2 n c2 fs → Calls Try.prog 14 #[.agg #[.int .i64 a, .slice A2 n c2], .agg #[.int .i64 a, .slice A1 n c1]] W fun e w' => e = .returned (.bool true) ∧ Below W.heap.size W w') :=
      fun W A2 c2 M hM h hG => same_true A2 A1 n n c2 c1 M w2.heap.size a a fs fs W hG (HG.out.below h.below) hM h.below.size HF2.out.1 HF2.out.1 hn1 hn1 ⟨rfl, rfl⟩
    have HZ := Lib.hid hs0
    clear hs0 HT HF2 HG
    go_region_held3 (fun w' => w'.cell? ⟨w.heap.size, 0, none⟩ = some (.int .i64 a) ∧ w'.cell? ⟨w.heap.size, 1, none⟩ = some (.slice A n c) ∧ w'.cell? ⟨w2.heap.size, 0, none⟩ = some (.int .i64 a) ∧ w'.cell? ⟨w2.heap.size, 1, none⟩ = some (.slice A1 n c1) ∧
        Hid (Below (w2.heap.size + 1) (w2.alloc (.cells #[.int .i64 a, .slice A1 n c1] 24)) w')) (first | exact GBox2.of HS2.out ((Below.refl _ _).drew) | exact hs)
      (first
        | (go_at_call 9; refine (awake_any _).mono ?_; rintro e w' ⟨rfl, hb2⟩; have hs := GBox2.step (by assumption) HS2.out hb2; clear hb2)
        | (go_at_call 11; refine (C3.out _ (by assumption)).mono ?_; rintro e w' ⟨rfl, hb2⟩; have hs := GBox2.step (by assumption) HS2.out hb2; clear hb2)
        | (go_at_call 19; refine (P3.out _ (by assumption)).mono ?_; rintro e w' ⟨rfl, hb2⟩; have hs := GBox2.step (by assumption) HS2.out hb2; clear hb2)
        | (go_at_call 15; refine (F3.out _ (by assumption)).mono ?_; rintro e w' ⟨A2, c2, rfl, hG2, hb2⟩; have HG2 := Lib.hid hG2; have hs := GBox2.step (by assumption) HS2.out hb2; clear hb2 hG2)
        | (go_at_call 14; refine (S3.out _ _ _ _ (Nat.le_refl _) (by assumption) HG2.out).mono ?_; rintro e w' ⟨rfl, hb2⟩; have hs := GBox2.step (by assumption) HS2.out hb2; clear hb2))
    have HB : Hid (Below w.heap.size w w') := GBox2.whole hs HS2.out
    go_wp2
    go_ret
    exact ⟨rfl, HB.out⟩
  · have d : (gErr act n ds != 0) = true := by simp [hg]
    obtain ⟨ge, hge⟩ : ∃ e, gErr act n ds = e := ⟨_, rfl⟩
    rw [hge] at C2 d
    clear hx hg hge
    go_enter Try.func7, Try.ntmps7
    go_wp2_with fail
    refine C2.out.mono ?_
    rintro e w1 ⟨rfl, hb1⟩
    have HS1 := Lib.hid (HS0.out.step hb1)
    clear hb1
    go_wp2_with fail
    refine (awake_any _).mono ?_
    rintro e w2 ⟨rfl, hb2⟩
    have HB : Hid (Below w.heap.size w w2) := (HS1.out.step hb2).below
    clear hb2
    go_wp2
    go_ret
    exact ⟨rfl, HB.out⟩

open Go.ChangeShapes in
theorem balanceValid_walk (v0 : Value) (iface : Int) (w : World) (h0 : GroupIn w v0) (_hi : (Lit.int .i64 iface).wf = true) :
    Calls Try.prog 7 #[v0, .int .i64 iface] w fun e w' => e = .returned (.bool true) ∧ Below w.heap.size w w' := by
  obtain ⟨act, A, n, c, ds, rfl, hx, hs, hn, _⟩ := h0
  exact valid_walk0 act iface A n c ds w hx hs hn
end Go.Proofs.Ytlcgjgmhllmekaa
