/- checksum.sums returns both Fletcher sums modulo 255 without the two skipped bytes, and writes nothing that was there. -/
import Derived.Test.YteomipmhehpbhaaSums
namespace Go.Proofs.Yteomipmhehpbhaa
open Go.RowKit

/-- the sums' block in the midst of the loop -/
structure SumAt (w wr : World) (s t : Int) : Prop where
  c0 : wr.cell? ⟨w.heap.size + 1, 0, none⟩ = some (.int .i64 s)
  c1 : wr.cell? ⟨w.heap.size + 1, 1, none⟩ = some (.int .i64 t)
  f0 : wr.frozen? ⟨w.heap.size + 1, 0, none⟩ = false
  f1 : wr.frozen? ⟨w.heap.size + 1, 1, none⟩ = false
  bel : Below (w.heap.size + 1) ((w.alloc (.cells #[.int .i64 0, .int .i64 0] 39)).alloc (.cells #[.int .i64 0, .int .i64 0] 39)) wr
  res0 : wr.cell? ⟨w.heap.size, 0, none⟩ = some (.int .i64 0)
  res1 : wr.cell? ⟨w.heap.size, 1, none⟩ = some (.int .i64 0)
  g0 : wr.frozen? ⟨w.heap.size, 0, none⟩ = false
  g1 : wr.frozen? ⟨w.heap.size, 1, none⟩ = false

theorem SumAt.step {w wr : World} {s t s' t' : Int} (h : SumAt w wr s t) :
    SumAt w ((wr.setCell ⟨w.heap.size + 1, 0, none⟩ (.int .i64 s')).setCell ⟨w.heap.size + 1, 1, none⟩ (.int .i64 t')).drew.drew s' t' := by
  have c0 := h.c0
  have c1 := h.c1
  have f0 := h.f0
  have f1 := h.f1
  have r0 := h.res0
  have r1 := h.res1
  have g0 := h.g0
  have g1 := h.g1
  exact ⟨by go_simp, by go_simp, by go_simp, by go_simp, ((((h.bel.setCell (p := ⟨w.heap.size + 1, 0, none⟩) (Nat.le_refl _) _).setCell (p := ⟨w.heap.size + 1, 1, none⟩) (Nat.le_refl _) _).drew).drew), by go_simp, by go_simp, by go_simp, by go_simp⟩
theorem skip_no {xs : List Int} {skip : Int} {k : Nat} (h : 0 ≤ skip → (k : Int) ≠ skip ∧ (k : Int) ≠ skip + 1) : skipped xs skip k = byte xs k := by
  unfold skipped
  rw [if_neg]
  intro ⟨h0, h1⟩
  have := h h0
  omega
theorem skip_yes {xs : List Int} {skip : Int} {k : Nat} (h0 : 0 ≤ skip) (h : (k : Int) = skip ∨ (k : Int) = skip + 1) : skipped xs skip k = 0 := by
  unfold skipped
  rw [if_pos ⟨h0, h⟩]
theorem fS_zero {f : Nat → Int} {k : Nat} (h : f k = 0) : fS f (k + 1) = fS f k := by rw [fS, h]; omega
theorem fT_zero {f : Nat → Int} {n k : Nat} (h : f k = 0) : fT f n (k + 1) = fT f n k := by rw [fT, h]; simp

set_option maxHeartbeats 1000000 in
theorem sums_any (A : Option Addr) (n c : Nat) (skip : Int) (xs : List Int) (w : World) (hx : Ints w w.heap.size .u8 A n c xs) (hb : Bytes xs) (hn : n ≤ 140737488355328) (hs0 : -1 ≤ skip) (hs1 : skip ≤ 140737488355328) :
    Calls Try.prog 21 #[.slice A n c, .int .i64 skip] w fun e w' => e = .returned (.agg #[.int .i64 (fS (skipped xs skip) n % 255), .int .i64 (fT (skipped xs skip) n n % 255)]) ∧ Below w.heap.size w w' := by
  go_enter Try.func21, Try.ntmps21
  go_wp2
  go_loopw [9] (fun i wr => ∃ (k : Nat) (s t : Int), k ≤ n ∧ i = .int .i64 k ∧ Hid (fS (skipped xs skip) k % 255 = s) ∧ Hid (fT (skipped xs skip) n k % 255 = t) ∧ SumAt w wr s t) (fun i _ => n - (intOf i).toNat)
  case atStart => exact ⟨0, 0, 0, Nat.zero_le _, rfl, rfl, rfl, ⟨by go_simp, by go_simp, by go_simp, by go_simp, Below.refl _ _, by go_simp, by go_simp, by go_simp, by go_simp⟩⟩
  case round =>
    obtain ⟨k, s, t, hk, rfl, hs, ht, ha⟩ := hrel
    have hbk := hb k
    have hs0 : 0 ≤ s ∧ s < 255 := by have := hs.out; omega
    have ht0 : 0 ≤ t ∧ t < 255 := by have := ht.out; omega
    have c0 := ha.c0
    have c1 := ha.c1
    have f0 := ha.f0
    have f1 := ha.f1
    by_cases hlt : k < n
    · by_cases hsk : 0 ≤ skip ∧ ((k : Int) = skip ∨ (k : Int) = skip + 1)
      · have e := skip_yes (xs := xs) hsk.1 hsk.2
        have HS : Hid (fS (skipped xs skip) (k + 1) % 255 = s) := by show _ = _; rw [fS_zero e, hs.out]
        have HT : Hid (fT (skipped xs skip) n (k + 1) % 255 = t) := by show _ = _; rw [fT_zero e, ht.out]
        have d0 : decide (0 ≤ skip) = true := by simp [hsk.1]
        by_cases h1 : (k : Int) = skip
        · have d1 : ((k : Int) == skip) = true := by simp [h1]
          clear e hsk h1 hx hb hs ht hbk
          go_wp2
          go_roundw
          case rel => exact ⟨k + 1, s, t, by omega, by go_num, HS, HT, ha⟩
          case measure => simp [intOf]; omega
        · have d1 : ((k : Int) == skip) = false := by simp [h1]
          have d2 : ((k : Int) == skip + 1) = true := by simp; omega
          clear e hsk h1 hx hb hs ht hbk
          go_wp2
          go_roundw
          case rel => exact ⟨k + 1, s, t, by omega, by go_num, HS, HT, ha⟩
          case measure => simp [intOf]; omega
      · obtain ⟨b, o, x, rfl, hbB, hc, HX⟩ := hx.cell hlt
        rw [HX.out] at hbk
        have e : skipped xs skip k = x := (skip_no (by omega)).trans HX.out
        have HS : Hid (fS (skipped xs skip) (k + 1) % 255 = (s + x) % 255) := by
          show _ = _
          rw [fS, e, ← hs.out, mod_add]
        have HT : Hid (fT (skipped xs skip) n (k + 1) % 255 = (t + ((n : Int) - k) % 255 * x) % 255) := by
          show _ = _
          rw [fT, e, ← ht.out, mod_mul_add]
        have hp : 0 ≤ ((n : Int) - k) % 255 * x := Int.mul_nonneg (by omega) (by omega)
        have hq : ((n : Int) - k) % 255 * x ≤ 255 * 255 := Int.mul_le_mul (by omega) (by omega) (by omega) (by omega)
        have hcr : wr.cell? ⟨b, o + k, none⟩ = some (.int .u8 x) := by
          rw [← hc]
          exact (ha.bel.cell (p := ⟨b, o + k, none⟩) (by show b < _; omega)).trans (by go_simp)
        have hne : b ≠ w.heap.size + 1 := by omega
        by_cases d : 0 ≤ skip
        · have d0 : decide (0 ≤ skip) = true := by simp [d]
          have d1 : ((k : Int) == skip) = false := by simp; omega
          have d2 : ((k : Int) == skip + 1) = false := by simp; omega
          clear e hsk hx hb hs ht d
          go_wp2
          go_region
          go_wp2
          go_region
          go_wp2
          go_roundw
          case rel => exact ⟨k + 1, _, _, by omega, by go_num, HS, HT, ha.step⟩
          case measure => simp [intOf]; omega
        · have d0 : decide (0 ≤ skip) = false := by simp; omega
          clear e hsk hx hb hs ht d
          go_wp2
          go_region
          go_wp2
          go_region
          go_wp2
          go_roundw
          case rel => exact ⟨k + 1, _, _, by omega, by go_num, HS, HT, ha.step⟩
          case measure => simp [intOf]; omega
    · obtain rfl : k = n := by omega
      have r0 := ha.res0
      have r1 := ha.res1
      have g0 := ha.g0
      have g1 := ha.g1
      clear hx hb hbk
      have hbel := (((((Below.refl w.heap.size w).alloc (Nat.le_refl _) _).alloc (by simp) _).trans (ha.bel.mono (by omega))).setCell (p := ⟨w.heap.size, 0, none⟩) (Nat.le_refl _) (.int .i64 s)).setCell (p := ⟨w.heap.size, 1, none⟩) (Nat.le_refl _) (.int .i64 t)
      have HB := Lib.hid hbel
      clear hbel
      go_wp2
      exact bodyPost_ret (v := .agg #[.int .i64 s, .int .i64 t]) (by simp [results, Try.results21, go_sem, r0, r1]) rfl ⟨by rw [hs.out, ht.out], HB.out⟩
end Go.Proofs.Yteomipmhehpbhaa
