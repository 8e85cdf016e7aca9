/- Same (both), same. -/
import Derived.Test.YtojgohgeagbkbaaFlat
import Derived.Deep.QuietTactic
namespace Go.Proofs.Ytojgohgeagbkbaa
open Go.RowKit

set_option maxRecDepth 100000 in
set_option maxHeartbeats 4000000 in
theorem refSamePath_any (A B : Option Addr) (n c m d : Nat) (p q : Path) (N M : Nat) (w : World) (hx : Segs w N A n c p) (hy : Segs w M B m d q) (hN : N ≤ w.heap.size) (hM : M ≤ w.heap.size) (hn : n ≤ 140737488355328) (hm : m ≤ 140737488355328) :
    Calls Try.prog 50 #[.slice A n c, .slice B m d] w fun e w' => e = .returned (.bool (decide (p = q))) ∧ Below w.heap.size w w' := by
  have HX := Lib.hid hx
  have HY := Lib.hid hy
  have HL := Lib.hid hx.len
  have HM := Lib.hid hy.len
  clear hx hy
  by_cases hnm : n = m
  case neg =>
    have HF : Hid (decide (p = q) = false) := decide_eq_false fun h => hnm (by rw [← HL.out, ← HM.out, h])
    have d0 : ((n : Int) != (m : Int)) = true := by simp; omega
    clear hnm
    go_enter Try.func50, Try.ntmps50
    go_wp2
    go_ret
    exact ⟨by rw [HF.out]; rfl, Below.refl _ _⟩
  subst hnm
  have d0 : ((n : Int) != (n : Int)) = false := by simp
  go_enter Try.func50, Try.ntmps50
  go_wp2
  go_loopw [14] (fun i wr => ∃ k : Nat, k ≤ n ∧ i = .int .i64 k ∧ Hid (∀ j, j < k → p[j]? = q[j]?) ∧ Hid (Below w.heap.size w wr)) (fun i _ => n - (intOf i).toNat)
  case atStart => exact ⟨0, Nat.zero_le _, rfl, fun j hj => absurd hj (by omega), Below.refl _ _⟩
  case round =>
    obtain ⟨k, hk, rfl, heq, hbw⟩ := hrel
    by_cases hlt : k < n
    case neg =>
      obtain rfl : k = n := by omega
      have HF : Hid (decide (p = q) = true) := decide_eq_true (List.ext_getElem? fun j => by
        rcases Nat.lt_or_ge j k with h | h
        · exact heq.out j h
        · rw [List.getElem?_eq_none (by rw [HL.out]; exact h), List.getElem?_eq_none (by rw [HM.out]; exact h)])
      go_wp2
      go_ret
      exact ⟨by rw [HF.out]; rfl, hbw.out⟩
    obtain ⟨b, o, f, rfl, hbB, hf, g0, g1, hi⟩ := (HX.out.below (hbw.out.mono hN)).get hlt
    obtain ⟨b', o', f', rfl, hbB', hf', g0', g1', hi'⟩ := (HY.out.below (hbw.out.mono hM)).get hlt
    obtain ⟨y, fA, fn, fc, xs⟩ := f
    obtain ⟨y', fA', fn', fc', xs'⟩ := f'
    dsimp only at g0 g1 hi g0' g1' hi'
    have HK : Hid (p[k]? = some (y, xs)) := hf
    have HK' : Hid (q[k]? = some (y', xs')) := hf'
    have hfl : xs.length = fn := hi.out.len
    have hfl' : xs'.length = fn' := hi'.out.len
    have hgrow := hbw.out.size
    have HNE : Hid ((y, xs) ≠ (y', xs') → decide (p = q) = false) := fun h => decide_eq_false fun he => h (by
      have h1 := HK.out
      rw [he, HK'.out] at h1
      exact (Option.some.inj h1).symm)
    clear hf hf'
    by_cases hyy : y = y'
    case neg =>
      have d1 : (y != y') = true := by simp [hyy]
      have HF := Lib.hid (HNE.out fun h => hyy (congrArg Prod.fst h))
      have HB0 := hbw
      clear hyy hi hi' hfl hfl' g1 g1'
      go_wp2
      go_quiet (fail)
      go_wp2
      go_ret
      exact ⟨by rw [HF.out]; rfl, below_drewN hbw.out _⟩
    subst hyy
    have d1 : (y != y) = false := by simp
    by_cases hff : fn = fn'
    case neg =>
      have d2 : ((fn : Int) != (fn' : Int)) = true := by simp; omega
      have HF := Lib.hid (HNE.out fun h => hff (by have h1 : xs = xs' := congrArg Prod.snd h; rw [← hfl, ← hfl', h1]))
      clear hff hi hi' hfl hfl'
      go_wp2
      go_quiet (fail)
      go_wp2
      go_ret
      exact ⟨by rw [HF.out]; rfl, below_drewN hbw.out _⟩
    subst hff
    have d2 : ((fn : Int) != (fn : Int)) = false := by simp
    have hfm : fn ≤ 9223372036854775807 := by have h1 := hi.out.1; have h2 := hi.out.2.1; simp only [maxLen] at h2; omega
    have HFL := Lib.hid hfl
    have HFL' := Lib.hid hfl'
    have hbr : b < wr.heap.size := by have := hbw.out.size; omega
    have hbr' : b' < wr.heap.size := by have := hbw.out.size; omega
    have HZ : Hid (N ≤ wr.heap.size ∧ M ≤ wr.heap.size) := by have := hbw.out.size; exact ⟨by omega, by omega⟩
    clear hfl hfl'
    go_wp2
    go_quiet (fail)
    go_wp2
    go_loopw [49] (fun i wx => ∃ j : Nat, j ≤ fn ∧ i = .int .i64 j ∧ Hid (∀ t, t < j → xs.getD t 0 = xs'.getD t 0) ∧ Hid (Below wr.heap.size wr wx)) (fun i _ => fn - (intOf i).toNat)
    case atStart => exact ⟨0, Nat.zero_le _, rfl, fun t ht => absurd ht (by omega), below_drewN (Below.refl _ _) _⟩
    case round =>
      obtain ⟨j, hj, rfl, hej, hbx⟩ := hrel
      have q0 := (hbx.out.cell (p := ⟨b, o + k * 2, none⟩) hbr).trans g0
      have q1 := (hbx.out.cell (p := ⟨b, o + k * 2 + 1, none⟩) hbr).trans g1
      have q0' := (hbx.out.cell (p := ⟨b', o' + k * 2, none⟩) hbr').trans g0'
      have q1' := (hbx.out.cell (p := ⟨b', o' + k * 2 + 1, none⟩) hbr').trans g1'
      by_cases hjl : j < fn
      case neg =>
        obtain rfl : j = fn := by omega
        have HXX : Hid (xs = xs') := List.ext_getElem? fun t => by
          rcases Nat.lt_or_ge t j with h | h
          · have h1 := hej.out t h
            rw [List.getD_eq_getElem?_getD, List.getD_eq_getElem?_getD, List.getElem?_eq_getElem (by rw [HFL.out]; exact h), List.getElem?_eq_getElem (by rw [HFL'.out]; exact h)] at h1
            rw [List.getElem?_eq_getElem (by rw [HFL.out]; exact h), List.getElem?_eq_getElem (by rw [HFL'.out]; exact h)]
            exact congrArg some h1
          · rw [List.getElem?_eq_none (by rw [HFL.out]; exact h), List.getElem?_eq_none (by rw [HFL'.out]; exact h)]
        have HN : Hid (∀ t, t < k + 1 → p[t]? = q[t]?) := fun t ht => by
          rcases Nat.lt_or_ge t k with h | h
          · exact heq.out t h
          · obtain rfl : t = k := by omega
            rw [HK.out, HK'.out, HXX.out]
        have HBX := Lib.hid (below3 hbw.out hbx.out)
        clear q0 q1 q0' q1' g0 g1 g0' g1'
        go_wp2
        go_roundw
        case rel => exact ⟨k + 1, by omega, by go_num, HN, HBX⟩
        case measure => simp [intOf]; omega
      obtain ⟨b2, o2, x, rfl, hb2, gx, hxx⟩ := (hi.out.below (hbx.out.mono HZ.out.1)).cell hjl
      obtain ⟨b2', o2', x', rfl, hb2', gx', hxx'⟩ := (hi'.out.below (hbx.out.mono HZ.out.2)).cell hjl
      have HBX := Lib.hid (below3 hbw.out hbx.out)
      by_cases hxe : x = x'
      · have d3 : (x != x') = false := by simp [hxe]
        have HN : Hid (∀ t, t < j + 1 → xs.getD t 0 = xs'.getD t 0) := fun t ht => by
          rcases Nat.lt_or_ge t j with h | h
          · exact hej.out t h
          · obtain rfl : t = j := by omega
            rw [hxx.out, hxx'.out, hxe]
        clear hxx hxx' hxe g0 g1 g0' g1'
        go_wp2
        go_quiet (fail)
        go_wp2
        go_roundw
        case rel => exact ⟨j + 1, by omega, by go_num, HN, below_drewN hbx.out _⟩
        case measure => simp [intOf]; omega
      · have d3 : (x != x') = true := by simp [hxe]
        have HF := Lib.hid (HNE.out fun h => hxe (by
          have h1 : xs = xs' := congrArg Prod.snd h
          rw [← hxx.out, ← hxx'.out, h1]))
        clear hxx hxx' hxe g0 g1 g0' g1'
        go_wp2
        go_quiet (fail)
        go_wp2
        go_ret
        exact ⟨by rw [HF.out]; rfl, below_drewN HBX.out _⟩
end Go.Proofs.Ytojgohgeagbkbaa
