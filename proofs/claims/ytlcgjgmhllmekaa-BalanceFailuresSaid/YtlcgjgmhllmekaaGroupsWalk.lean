/- BalanceGroups: the walk. The box of a group as an argument. -/
import Derived.Test.YtlcgjgmhllmekaaAwake
import Derived.Test.YtlcgjgmhllmekaaOpenGroup
namespace Go.Proofs.Ytlcgjgmhllmekaa
open Go.RowKit

/-- the group's box as it was laid -/
def GBox (w : World) (act : Int) (L : Value) (W : World) : Prop :=
  W.cell? ⟨w.heap.size, 0, none⟩ = some (.int .i64 act) ∧ W.cell? ⟨w.heap.size, 1, none⟩ = some L ∧ Hid (Below (w.heap.size + 1) (w.alloc (.cells #[.int .i64 act, L] 24)) W)
theorem GBox.of {w W : World} {act : Int} {L : Value} (h : Below (w.heap.size + 1) (w.alloc (.cells #[.int .i64 act, L] 24)) W) : GBox w act L W := by
  have k : ∀ o, W.cell? ⟨w.heap.size, o, none⟩ = (w.alloc (.cells #[.int .i64 act, L] 24)).cell? ⟨w.heap.size, o, none⟩ := fun o => h.cell (p := ⟨w.heap.size, o, none⟩) (Nat.lt_succ_self _)
  exact ⟨(k 0).trans (by go_simp), (k 1).trans (by go_simp), h⟩
section
variable {w W w' : World} {act : Int} {L : Value}
theorem GBox.step (h : GBox w act L W) (hb : Below W.heap.size W w') : GBox w act L w' := .of (h.2.2.out.trans (hb.mono (by have := h.2.2.out.size; simpa using this)))
theorem GBox.below (h : GBox w act L W) : Below w.heap.size w W := ((Below.refl w.heap.size w).alloc (Nat.le_refl _) _).trans (h.2.2.out.mono (Nat.le_succ _))
theorem GBox.size (h : GBox w act L W) : w.heap.size + 1 ≤ W.heap.size := by have := h.2.2.out.size; simpa using this
end
theorem same_true (A B : Option Addr) (n m c d N M : Nat) (act act' : Int) (ds es : List PV) (w : World) (hx : GroupAt w N A n c ds) (hy : GroupAt w M B m d es) (hN : N ≤ w.heap.size) (hM : M ≤ w.heap.size) (hs : ShortD ds) (ht : ShortD es) (hn : n ≤ 1000) (hm : m ≤ 1000) (he : act = act' ∧ ds = es) :
    Calls Try.prog 14 #[.agg #[.int .i64 act, .slice A n c], .agg #[.int .i64 act', .slice B m d]] w fun e w' => e = .returned (.bool true) ∧ Below w.heap.size w w' := by
  refine (same_at A B n m c d N M act act' ds es w hx hy hN hM hs ht hn hm).mono ?_
  rintro e w' ⟨b, rfl, hb, hbel⟩
  rw [hb.2 he]
  exact ⟨rfl, hbel⟩

set_option maxRecDepth 100000 in
set_option maxHeartbeats 2000000 in
theorem groups_walk0 (act flow iface : Int) (A : Option Addr) (n c : Nat) (ds : List PV) (w : World) (hx : GroupAt w w.heap.size A n c ds) (hsd : ShortD ds) (hn0 : n ≤ 140737488355328) (hf : 0 ≤ flow ∧ flow < 4294967296) :
    Calls Try.prog 3 #[.agg #[.int .i64 act, .slice A n c], .int .u32 flow, .int .i64 iface] w fun e w' => e = .returned (.bool true) ∧ Below w.heap.size w w' := by
  have HS0 : Hid (GBox w act (.slice A n c) (w.alloc (.cells #[.int .i64 act, .slice A n c] 24))) := GBox.of (Below.refl _ _)
  by_cases hn : 80 < n
  · clear hx
    go_enter Try.func3, Try.ntmps3
    go_wp2_with fail
    refine (awake_any _).mono ?_
    rintro e w1 ⟨rfl, hb1⟩
    have HB : Hid (Below w.heap.size w w1) := (HS0.out.step hb1).below
    clear hb1 HS0
    go_wp2
    go_ret
    exact ⟨rfl, HB.out⟩
  · have C1 : Hid (∀ W, GBox w act (.slice A n c) W → Calls Try.prog 10 #[.agg #[.int .i64 act, .slice A n c]] W fun e w' => e = .returned (.int .i64 (gErr act n ds)) ∧ Below W.heap.size W w') :=
      fun W h => check_at A n c w.heap.size act ds W (hx.below h.below) h.below.size (by omega)
    have C2 : Hid (∀ W, GBox w act (.slice A n c) W → Calls Try.prog 11 #[.agg #[.int .i64 act, .slice A n c]] W fun e w' => e = .returned (.int .i64 (gErr act n ds)) ∧ Below W.heap.size W w') :=
      fun W h => refCheck_at A n c w.heap.size act ds W (hx.below h.below) h.below.size (by omega)
    have P1 : Hid (∀ W, GBox w act (.slice A n c) W → Calls Try.prog 12 #[.agg #[.int .i64 act, .slice A n c], .int .u32 flow] W fun e w' => e = .returned (.int .i64 (pick act n ds flow)) ∧ Below W.heap.size W w') :=
      fun W h => pick_at A n c w.heap.size act flow ds W (hx.below h.below) h.below.size (by omega) hf
    have P2 : Hid (∀ W, GBox w act (.slice A n c) W → Calls Try.prog 13 #[.agg #[.int .i64 act, .slice A n c], .int .u32 flow] W fun e w' => e = .returned (.int .i64 (pick act n ds flow)) ∧ Below W.heap.size W w') :=
      fun W h => refPick_at A n c w.heap.size act flow ds W (hx.below h.below) h.below.size (by omega) hf
    have F1 : Hid (∀ W, GBox w act (.slice A n c) W → Calls Try.prog 15 #[.agg #[.int .i64 act, .slice A n c], .int .i64 iface] W (GivesG act n (failG act n ds iface) W)) :=
      fun W h => fail_at A n c act iface ds W (hx.grow h.below h.below.size) hsd (by omega)
    have F2 : Hid (∀ W, GBox w act (.slice A n c) W → Calls Try.prog 16 #[.agg #[.int .i64 act, .slice A n c], .int .i64 iface] W (GivesG act n (failG act n ds iface) W)) :=
      fun W h => refFail_at A n c act iface ds W (hx.grow h.below h.below.size) hsd (by omega)
    have HSF : Hid (ShortD (failG act n ds iface)) := shortD_failG hx.idem hsd
    have hn1 : n ≤ 1000 := by omega
    obtain ⟨ge, hge⟩ : ∃ m, gErr act n ds = m := ⟨_, rfl⟩
    obtain ⟨pi, hpi⟩ : ∃ m, pick act n ds flow = m := ⟨_, rfl⟩
    obtain ⟨fs, hfs⟩ : ∃ m, failG act n ds iface = m := ⟨_, rfl⟩
    rw [hge] at C1 C2
    rw [hpi] at P1 P2
    rw [hfs] at F1 F2 HSF
    clear hge hpi hfs hx hsd hf
    go_enter Try.func3, Try.ntmps3
    go_wp2_with fail
    go_region_held3 (fun w' => w'.cell? ⟨w.heap.size, 0, none⟩ = some (.int .i64 act) ∧ w'.cell? ⟨w.heap.size, 1, none⟩ = some (.slice A n c) ∧ Hid (Below (w.heap.size + 1) (w.alloc (.cells #[.int .i64 act, .slice A n c] 24)) w')) (first | exact GBox.of ((Below.refl _ _).drew) | exact hs)
      (first
        | (go_at_call 9; refine (awake_any _).mono ?_; rintro e w' ⟨rfl, hb2⟩; have hs := GBox.step (by assumption) hb2; clear hb2)
        | (go_at_call 10; refine (C1.out _ (by assumption)).mono ?_; rintro e w' ⟨rfl, hb2⟩; have hs := GBox.step (by assumption) hb2; clear hb2)
        | (go_at_call 11; refine (C2.out _ (by assumption)).mono ?_; rintro e w' ⟨rfl, hb2⟩; have hs := GBox.step (by assumption) hb2; clear hb2)
        | (go_at_call 12; refine (P1.out _ (by assumption)).mono ?_; rintro e w' ⟨rfl, hb2⟩; have hs := GBox.step (by assumption) hb2; clear hb2)
        | (go_at_call 13; refine (P2.out _ (by assumption)).mono ?_; rintro e w' ⟨rfl, hb2⟩; have hs := GBox.step (by assumption) hb2; clear hb2)
        | (go_at_call 15; refine (F1.out _ (by assumption)).mono ?_; rintro e w' ⟨A1, c1, rfl, hG1, hb2⟩; have HG1 := Lib.hid hG1; have hs := GBox.step (by assumption) hb2; clear hb2 hG1)
        | (go_at_call 16; refine (F2.out _ (by assumption)).mono ?_; rintro e w' ⟨A2, c2, rfl, hG2, hb2⟩; have HG2 := Lib.hid hG2; have HG3 := Lib.hid (HG1.out.grow hb2 hb2.size); have hs := GBox.step (by assumption) hb2; clear hb2 hG2)
        | (go_at_call 14; refine (same_true _ _ _ _ _ _ _ _ _ _ _ _ _ HG3.out HG2.out (Nat.le_refl _) (Nat.le_refl _) HSF.out HSF.out hn1 hn1 ⟨rfl, rfl⟩).mono ?_; rintro e w' ⟨rfl, hb2⟩; have hs := GBox.step (by assumption) hb2; clear hb2))
    have HB : Hid (Below w.heap.size w w') := GBox.below hs
    go_wp2
    go_ret
    exact ⟨rfl, HB.out⟩
open Go.ChangeShapes in
theorem balanceGroups_walk (v0 : Value) (flow iface : Int) (w : World) (h0 : GroupIn w v0) (hf : (Lit.int .u32 flow).wf = true) (_hi : (Lit.int .i64 iface).wf = true) :
    Calls Try.prog 3 #[v0, .int .u32 flow, .int .i64 iface] w fun e w' => e = .returned (.bool true) ∧ Below w.heap.size w w' := by
  obtain ⟨act, A, n, c, ds, rfl, hx, hs, hn, _⟩ := h0
  have b3 := bounds_u32 hf
  exact groups_walk0 act flow iface A n c ds w hx hs hn (by omega)
end Go.Proofs.Ytlcgjgmhllmekaa
