/- Choose: the program's and the reference's texts return the same member. -/
import Derived.Test.YtlcgjgmhllmekaaFlow
import Derived.Deep.RegionWith
import Derived.Deep.RegionHeld3
namespace Go.Proofs.Ytlcgjgmhllmekaa
open Go.RowKit

/-- the score of member i in a list of weights -/
def scAt (ws : List Int) (flow : Int) (i : Nat) : Int := sc flow i (ws.getD i 0)
/-- the member that has been chosen among the first k, as an index plus 1, or 0 -/
def ch (ws : List Int) (flow : Int) : Nat → Nat
  | 0 => 0
  | k + 1 => if (if ch ws flow k = 0 then 0 else scAt ws flow (ch ws flow k - 1)) < scAt ws flow k then k + 1 else ch ws flow k
/-- the score that it has -/
def most (ws : List Int) (flow : Int) (k : Nat) : Int := if ch ws flow k = 0 then 0 else scAt ws flow (ch ws flow k - 1)
theorem ch_le (ws : List Int) (flow : Int) : ∀ k, ch ws flow k ≤ k
  | 0 => Nat.le_refl _
  | k + 1 => by
    have := ch_le ws flow k
    show (if most ws flow k < scAt ws flow k then k + 1 else ch ws flow k) ≤ k + 1
    split <;> omega
theorem ch_yes {ws : List Int} {flow : Int} {k : Nat} (h : most ws flow k < scAt ws flow k) : ch ws flow (k + 1) = k + 1 ∧ most ws flow (k + 1) = scAt ws flow k := by
  have e : ch ws flow (k + 1) = k + 1 := by
    show (if most ws flow k < scAt ws flow k then k + 1 else ch ws flow k) = k + 1
    rw [if_pos h]
  exact ⟨e, by rw [most, e]; simp⟩
theorem ch_no {ws : List Int} {flow : Int} {k : Nat} (h : ¬ most ws flow k < scAt ws flow k) : ch ws flow (k + 1) = ch ws flow k ∧ most ws flow (k + 1) = most ws flow k := by
  have e : ch ws flow (k + 1) = ch ws flow k := by
    show (if most ws flow k < scAt ws flow k then k + 1 else ch ws flow k) = ch ws flow k
    rw [if_neg h]
  exact ⟨e, by rw [most, e]; rfl⟩

/-- every weight fits its kind -/
def Wide (ws : List Int) : Prop := ∀ j, -9223372036854775808 ≤ ws.getD j 0 ∧ ws.getD j 0 ≤ 9223372036854775807

set_option maxHeartbeats 400000 in
theorem choose_any (A : Option Addr) (n c B : Nat) (ws : List Int) (flow : Int) (w : World) (hx : Ints w B .i64 A n c ws) (hB : B ≤ w.heap.size) (hw : Wide ws) (hf : 0 ≤ flow ∧ flow < 4294967296) (hn : n ≤ 1000) :
    Calls Try.prog 17 #[.slice A n c, .int .u32 flow] w fun e w' => e = .returned (.int .i64 ((ch ws flow n : Int) - 1)) ∧ Below w.heap.size w w' := by
  go_enter Try.func17, Try.ntmps17
  go_wp2
  go_loopw [5, 6, 12] (fun b s i wr => ∃ q : Nat, q ≤ n ∧ i = .int .i64 q ∧ b = .int .i64 ((ch ws flow q : Int) - 1) ∧ s = .int .u64 (most ws flow q) ∧ Hid (Below w.heap.size w wr)) (fun _ _ i _ => n - (intOf i).toNat)
  case atStart => exact ⟨0, Nat.zero_le _, rfl, rfl, rfl, Below.refl _ _⟩
  case round =>
    obtain ⟨q, hq, rfl, rfl, rfl, hb⟩ := hrel
    by_cases hlt : q < n
    · obtain ⟨b, o, x, rfl, hbB, hc, HX⟩ := (hx.below (hb.out.mono hB)).cell hlt
      have hwq := hw q
      rw [HX.out] at hwq
      have HS : Hid (scAt ws flow q = sc flow q x) := by
        show _ = _
        rw [scAt, HX.out]
      clear hx hw
      go_wp2_with fail
      refine (score_any flow q x wr hf hwq).mono ?_
      rintro e w2 ⟨rfl, hb2⟩
      have HB2 : Hid (Below w.heap.size w w2) := hb.out.trans (hb2.mono hb.out.size)
      rw [← HS.out]
      clear hb2 hb
      by_cases hm : most ws flow q < scAt ws flow q
      · have HC := Lib.hid (ch_yes hm)
        go_wp2
        go_roundw
        case rel => exact ⟨q + 1, by omega, by go_num, int_eq (by rw [HC.out.1]; omega), int_eq HC.out.2.symm, HB2⟩
        case measure => simp [intOf]; omega
      · have HC := Lib.hid (ch_no hm)
        go_wp2
        go_roundw
        case rel => exact ⟨q + 1, by omega, by go_num, int_eq (by rw [HC.out.1]), int_eq HC.out.2.symm, HB2⟩
        case measure => simp [intOf]; omega
    · obtain rfl : q = n := by omega
      clear hx hw
      go_wp2
      go_ret
      exact ⟨rfl, hb.out⟩

theorem held_step {W w w' : World} {b o : Nat} {v : Value} (hh : W.cell? ⟨b, o, none⟩ = some v ∧ Hid (Below w.heap.size w W)) (hb : Below W.heap.size W w') (hlt : b < w.heap.size) :
    w'.cell? ⟨b, o, none⟩ = some v ∧ Hid (Below w.heap.size w w') :=
  ⟨(hb.cell (p := ⟨b, o, none⟩) (by have := hh.2.out.size; show b < _; omega)).trans hh.1, hh.2.out.trans (hb.mono hh.2.out.size)⟩
theorem sc_pos {flow i v : Int} (h : 0 < v) : 0 < sc flow i v := by
  have := h2_bd (i % 4294967296) flow
  unfold sc
  exact Int.mul_pos (by omega) (by omega)
theorem sc_zero {flow i v : Int} (h : v ≤ 0) : sc flow i v = 0 := by
  unfold sc
  rw [show min (max v 0) 65535 = 0 by omega]
  simp
theorem most_nonneg (ws : List Int) (flow : Int) (k : Nat) : 0 ≤ most ws flow k := by
  unfold most
  split
  · omega
  · exact (sc_bd _ _ _).1

set_option maxHeartbeats 1000000 in
theorem refChoose_any (A : Option Addr) (n c B : Nat) (ws : List Int) (flow : Int) (w : World) (hx : Ints w B .i64 A n c ws) (hB : B ≤ w.heap.size) (hw : Wide ws) (hf : 0 ≤ flow ∧ flow < 4294967296) (hn : n ≤ 1000) :
    Calls Try.prog 24 #[.slice A n c, .int .u32 flow] w fun e w' => e = .returned (.int .i64 ((ch ws flow n : Int) - 1)) ∧ Below w.heap.size w w' := by
  go_enter Try.func24, Try.ntmps24
  go_wp2
  go_loopw [5, 10] (fun b i wr => ∃ q : Nat, q ≤ n ∧ i = .int .i64 q ∧ b = .int .i64 ((ch ws flow q : Int) - 1) ∧ Hid (Below w.heap.size w wr)) (fun _ i _ => n - (intOf i).toNat)
  case atStart => exact ⟨0, Nat.zero_le _, rfl, rfl, Below.refl _ _⟩
  case round =>
    obtain ⟨q, hq, rfl, rfl, hb⟩ := hrel
    by_cases hlt : q < n
    · obtain ⟨b, o, x, rfl, hbB, hc, HX⟩ := (hx.below (hb.out.mono hB)).cell hlt
      have hwq := hw q
      rw [HX.out] at hwq
      have HS : Hid (scAt ws flow q = sc flow q x) := by
        show _ = _
        rw [scAt, HX.out]
      have hm0 := most_nonneg ws flow q
      by_cases hx0 : 0 < x
      · by_cases hc0 : ch ws flow q = 0
        · have HC := Lib.hid (ch_yes (show most ws flow q < scAt ws flow q by rw [HS.out, most, if_pos hc0]; exact sc_pos hx0))
          have d0 : decide (0 < x) = true := by simp [hx0]
          have d1 : decide (((ch ws flow q : Nat) : Int) - 1 < 0) = true := by simp [hc0]
          rw [hc0] at d1 ⊢
          clear hx hw hx0 hc0 hm0
          go_wp2_with fail
          go_quiet (fail)
          go_wp2
          go_roundw
          case rel => exact ⟨q + 1, by omega, by go_num, int_eq (by rw [HC.out.1]; omega), below_drewN hb.out _⟩
          case measure => simp [intOf]; omega
        · obtain ⟨p, hp⟩ : ∃ p, ch ws flow q = p + 1 := ⟨ch ws flow q - 1, by omega⟩
          have hpq : p < q := by have := ch_le ws flow q; omega
          obtain ⟨b', o', y, e', _, hcy, HY⟩ := (hx.below (hb.out.mono hB)).cell (j := p) (by omega)
          simp only [Option.some.injEq, Addr.mk.injEq, and_true] at e'
          obtain ⟨rfl, rfl⟩ := e'
          have hwp := hw p
          rw [HY.out] at hwp
          have HM : Hid (most ws flow q = sc flow p y) := by
            show _ = _
            rw [most, hp, if_neg (by omega), Nat.add_sub_cancel, scAt, HY.out]
          have HCH := Lib.hid hp
          have e1 : ((ch ws flow q : Nat) : Int) - 1 = (p : Int) := by omega
          have d0 : decide (0 < x) = true := by simp [hx0]
          have d1 : decide ((p : Int) < 0) = false := by simp
          rw [e1]
          have hbB' : b < w.heap.size := by omega
          have hpn : p < n := by omega
          clear hx hw hx0 hc0 hm0 e1 hp
          go_wp2_with fail
          go_region_held3 (fun w' => w'.cell? ⟨b, o + p, none⟩ = some (.int .i64 y) ∧ Hid (Below w.heap.size w w')) (first | exact ⟨hcy, below_drewN hb.out 1⟩ | exact hs)
            (first | (go_at_call 23; refine (refScore_any _ _ _ _ hf (by omega)).mono ?_; rintro e w' ⟨rfl, hb2⟩; have hs := held_step (by assumption) hb2 hbB'; clear hb2))
          by_cases hm : sc flow p y < sc flow q x
          · have HC := Lib.hid (ch_yes (show most ws flow q < scAt ws flow q by rw [HM.out, HS.out]; exact hm))
            have dd : decide (sc flow p y < sc flow q x) = true := by simp [hm]
            have HB := hs.2
            go_wp2
            go_roundw
            case rel => exact ⟨q + 1, by omega, by go_num, int_eq (by rw [HC.out.1]; omega), HB⟩
            case measure => simp [intOf]; omega
          · have HC := Lib.hid (ch_no (show ¬ most ws flow q < scAt ws flow q by rw [HM.out, HS.out]; exact hm))
            have hle : sc flow q x ≤ sc flow p y := by omega
            have HB := hs.2
            clear hm
            go_wp2
            go_roundw
            case rel => exact ⟨q + 1, by omega, by go_num, int_eq (by rw [HC.out.1, HCH.out]; omega), HB⟩
            case measure => simp [intOf]; omega
      · have HC := Lib.hid (ch_no (show ¬ most ws flow q < scAt ws flow q by rw [HS.out, sc_zero (by omega)]; omega))
        have d0 : decide (0 < x) = false := by simp; omega
        clear hx hw hx0 hm0
        go_wp2_with fail
        go_quiet (fail)
        go_wp2
        go_roundw
        case rel => exact ⟨q + 1, by omega, by go_num, int_eq (by rw [HC.out.1]), below_drewN hb.out _⟩
        case measure => simp [intOf]; omega
    · obtain rfl : q = n := by omega
      clear hx hw
      go_wp2
      go_ret
      exact ⟨rfl, hb.out⟩
end Go.Proofs.Ytlcgjgmhllmekaa
