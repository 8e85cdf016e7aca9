/- BalanceScores: the walk. -/
import Derived.Test.YtlcgjgmhllmekaaAwake
namespace Go.Proofs.Ytlcgjgmhllmekaa
open Go.RowKit

/-- the packet's box as it was laid -/
def PBox (w : World) (src dst fl ttl : Int) (L : Value) (W : World) : Prop :=
  W.cell? ⟨w.heap.size, 0, none⟩ = some (.int .u32 src) ∧ W.cell? ⟨w.heap.size, 1, none⟩ = some (.int .u32 dst) ∧ W.cell? ⟨w.heap.size, 2, none⟩ = some (.int .u32 fl) ∧ W.cell? ⟨w.heap.size, 3, none⟩ = some (.int .i64 ttl) ∧ W.cell? ⟨w.heap.size, 4, none⟩ = some L ∧
    Hid (Below (w.heap.size + 1) (w.alloc (.cells #[.int .u32 src, .int .u32 dst, .int .u32 fl, .int .i64 ttl, L] 44)) W)
theorem PBox.of {w W : World} {src dst fl ttl : Int} {L : Value} (h : Below (w.heap.size + 1) (w.alloc (.cells #[.int .u32 src, .int .u32 dst, .int .u32 fl, .int .i64 ttl, L] 44)) W) : PBox w src dst fl ttl L W := by
  have k : ∀ o, W.cell? ⟨w.heap.size, o, none⟩ = (w.alloc (.cells #[.int .u32 src, .int .u32 dst, .int .u32 fl, .int .i64 ttl, L] 44)).cell? ⟨w.heap.size, o, none⟩ := fun o => h.cell (p := ⟨w.heap.size, o, none⟩) (Nat.lt_succ_self _)
  exact ⟨(k 0).trans (by go_simp), (k 1).trans (by go_simp), (k 2).trans (by go_simp), (k 3).trans (by go_simp), (k 4).trans (by go_simp), h⟩
theorem PBox.step {w W w' : World} {src dst fl ttl : Int} {L : Value} (h : PBox w src dst fl ttl L W) (hb : Below W.heap.size W w') : PBox w src dst fl ttl L w' :=
  .of (h.2.2.2.2.2.out.trans (hb.mono (by have := h.2.2.2.2.2.out.size; simpa using this)))
theorem PBox.below {w W : World} {src dst fl ttl : Int} {L : Value} (h : PBox w src dst fl ttl L W) : Below w.heap.size w W :=
  ((Below.refl w.heap.size w).alloc (Nat.le_refl _) _).trans (h.2.2.2.2.2.out.mono (Nat.le_succ _))

set_option maxRecDepth 100000 in
set_option maxHeartbeats 2000000 in
theorem scores_walk0 (src dst fl ttl : Int) (L : Value) (flow i v : Int) (A : Option Addr) (n c : Nat) (ws : List Int) (w : World) (h0 : 0 ≤ src ∧ src < 4294967296) (h1 : 0 ≤ dst ∧ dst < 4294967296) (h2 : 0 ≤ fl ∧ fl < 4294967296)
    (hf : 0 ≤ flow ∧ flow < 4294967296) (hv : -9223372036854775808 ≤ v ∧ v ≤ 9223372036854775807) (hx : Ints w w.heap.size .i64 A n c ws) (hw : Wide ws) :
    Calls Try.prog 8 #[.agg #[.int .u32 src, .int .u32 dst, .int .u32 fl, .int .i64 ttl, L], .int .u32 flow, .int .i64 i, .int .i64 v, .slice A n c] w fun e w' => e = .returned (.bool true) ∧ Below w.heap.size w w' := by
  have HS0 : Hid (PBox w src dst fl ttl L (w.alloc (.cells #[.int .u32 src, .int .u32 dst, .int .u32 fl, .int .i64 ttl, L] 44))) := PBox.of (Below.refl _ _)
  by_cases hn : 200 < n
  · clear hx
    go_enter Try.func8, Try.ntmps8
    go_wp2_with fail
    refine (awake_any _).mono ?_
    rintro e w1 ⟨rfl, hb1⟩
    have HB : Hid (Below w.heap.size w w1) := (HS0.out.step hb1).below
    clear hb1 HS0
    go_wp2
    go_ret
    exact ⟨rfl, HB.out⟩
  · have C1 : Hid (∀ W, PBox w src dst fl ttl L W → Calls Try.prog 17 #[.slice A n c, .int .u32 flow] W fun e w' => e = .returned (.int .i64 ((ch ws flow n : Int) - 1)) ∧ Below W.heap.size W w') :=
      fun W h => choose_any A n c w.heap.size ws flow W (hx.below h.below) h.below.size hw hf (by omega)
    have C2 : Hid (∀ W, PBox w src dst fl ttl L W → Calls Try.prog 24 #[.slice A n c, .int .u32 flow] W fun e w' => e = .returned (.int .i64 ((ch ws flow n : Int) - 1)) ∧ Below W.heap.size W w') :=
      fun W h => refChoose_any A n c w.heap.size ws flow W (hx.below h.below) h.below.size hw hf (by omega)
    have S1 : Hid (∀ W, Calls Try.prog 22 #[.int .u32 flow, .int .i64 i, .int .i64 v] W fun e w' => e = .returned (.int .u64 (sc flow i v)) ∧ Below W.heap.size W w') := fun W => score_any flow i v W hf hv
    have S2 : Hid (∀ W, Calls Try.prog 23 #[.int .u32 flow, .int .i64 i, .int .i64 v] W fun e w' => e = .returned (.int .u64 (sc flow i v)) ∧ Below W.heap.size W w') := fun W => refScore_any flow i v W hf hv
    obtain ⟨m, hm⟩ : ∃ m, (ch ws flow n : Int) - 1 = m := ⟨_, rfl⟩
    obtain ⟨s, hs'⟩ : ∃ s, sc flow i v = s := ⟨_, rfl⟩
    rw [hm] at C1 C2
    rw [hs'] at S1 S2
    clear hm hs' hx hw hv hf
    go_enter Try.func8, Try.ntmps8
    go_wp2_with fail
    go_region_held3 (fun w' => w'.cell? ⟨w.heap.size, 0, none⟩ = some (.int .u32 src) ∧ w'.cell? ⟨w.heap.size, 1, none⟩ = some (.int .u32 dst) ∧ w'.cell? ⟨w.heap.size, 2, none⟩ = some (.int .u32 fl) ∧ w'.cell? ⟨w.heap.size, 3, none⟩ = some (.int .i64 ttl) ∧ w'.cell? ⟨w.heap.size, 4, none⟩ = some L ∧ Hid (Below (w.heap.size + 1) (w.alloc (.cells #[.int .u32 src, .int .u32 dst, .int .u32 fl, .int .i64 ttl, L] 44)) w')) (first | exact PBox.of ((Below.refl _ _).drew) | exact hs)
      (first
        | (go_at_call 9; refine (awake_any _).mono ?_; rintro e w' ⟨rfl, hb2⟩; have hs := PBox.step (by assumption) hb2; clear hb2)
        | (go_at_call 20; refine (flow_any _ _ _ _ _ _ h0 h1 h2).mono ?_; rintro e w' ⟨rfl, hb2⟩; have hs := PBox.step (by assumption) hb2; clear hb2)
        | (go_at_call 21; refine (refFlow_any _ _ _ _ _ _ h0 h1 h2).mono ?_; rintro e w' ⟨rfl, hb2⟩; have hs := PBox.step (by assumption) hb2; clear hb2)
        | (go_at_call 22; refine (S1.out _).mono ?_; rintro e w' ⟨rfl, hb2⟩; have hs := PBox.step (by assumption) hb2; clear hb2)
        | (go_at_call 23; refine (S2.out _).mono ?_; rintro e w' ⟨rfl, hb2⟩; have hs := PBox.step (by assumption) hb2; clear hb2)
        | (go_at_call 17; refine (C1.out _ (by assumption)).mono ?_; rintro e w' ⟨rfl, hb2⟩; have hs := PBox.step (by assumption) hb2; clear hb2)
        | (go_at_call 24; refine (C2.out _ (by assumption)).mono ?_; rintro e w' ⟨rfl, hb2⟩; have hs := PBox.step (by assumption) hb2; clear hb2))
    have HB : Hid (Below w.heap.size w w') := PBox.below hs
    go_wp2
    go_ret
    exact ⟨rfl, HB.out⟩
end Go.Proofs.Ytlcgjgmhllmekaa
