/- TLVs: the program's. -/
import Derived.Test.YtonckpcbehobhaaDoorTlvOut
import Derived.Test.YtonckpcbehobhaaDoorLaw03a
import Derived.Test.YtonckpcbehobhaaDoorTake
import Derived.Deep.RegionHeld3
import Derived.Deep.DeepCutAuto
namespace Go.Proofs.YtonckpcbehobhaaDoor
open Go.RowKit

theorem join1 {w : World} {N : Nat} {A0 : Option Addr} {n0 c0 B : Nat} {xs : List Int} (hN : N = w.heap.size) (h0 : Ints w B .u8 A0 n0 c0 xs) (hB : B ≤ w.heap.size) (ht : n0 ≤ 281474976710656) :
    Calls Tryd.prog 30 #[.slice (some ⟨N, 0, none⟩) 1 1] (w.alloc (.cells #[.slice A0 n0 c0] 22)) fun e w' => ∃ A c, e = .returned (.slice A n0 c) ∧ Own w' w.heap.size 5 .u8 (.slice A n0 c) n0 xs ∧ Below w.heap.size w w' := by
  subst hN
  obtain ⟨W, hW⟩ : ∃ W, w.alloc (.cells #[.slice A0 n0 c0] 22) = W := ⟨_, rfl⟩
  have hbel : Below w.heap.size w W := by rw [← hW]; exact belowA _ _
  have hsz : W.heap.size = w.heap.size + 1 := by rw [← hW]; simp
  have hp : Parts W W.heap.size (some ⟨w.heap.size, 0, none⟩) 1 1 [⟨A0, n0, c0, xs⟩] := by
    refine ⟨by rw [← hW]; exact Cells.of_own (World.ownsRow_lit (base := w.heap.size) w #[.slice A0 n0 c0] 1 (Nat.le_refl _) (by simp [maxLen]) rfl), fun p hp => ?_⟩
    simp only [List.mem_cons, List.not_mem_nil, or_false] at hp
    subst hp
    exact ((h0.more hB).below hbel).more hbel.size
  have e1 : tot [⟨A0, n0, c0, xs⟩] 1 = n0 := by simp [tot]
  have e2 : cat [⟨A0, n0, c0, xs⟩] 1 = xs := by simp [cat]
  have h := join_any _ 1 1 _ _ _ hp (Nat.le_refl _) (by rw [e1]; exact ht) (by omega)
  rw [e1, e2] at h
  rw [hW]
  refine h.mono ?_
  rintro e w' ⟨A, c, he, ho, hb⟩
  exact ⟨A, c, he, own_mono ho (by omega), hbel.trans (hb.mono (by omega))⟩
/-- the loop -/
def FTInv (w : World) (L : Option (List (Int × List Int))) (N : Nat) (bv ov : Value) (W : World) : Prop :=
  ∃ (A : Option Addr) (n c k m : Nat) (l : List Int) (ts : List (Int × List Int)), bv = .slice A n c ∧ Ints w w.heap.size .u8 A n c l ∧ Bytes l ∧ n ≤ k ∧ m + n ≤ N ∧ L = (tl k l).map (fun r => ts ++ r) ∧ TOut W w.heap.size ov m ts ∧ Below w.heap.size w W
def lenV (v : Value) : Nat := match v with | .slice _ n _ => n | _ => 0
theorem bytes_drop {l : List Int} (h : Bytes l) (k : Nat) : Bytes (l.drop k) := fun j => by
  have := h (k + j)
  rwa [List.getD_eq_getElem?_getD, List.getElem?_drop, ← List.getD_eq_getElem?_getD]
theorem K1.of {b o : Nat} {a0 : Value} {w W W' : World} (hN : b < w.heap.size) (p0 : W.cell? ⟨b, o, none⟩ = some a0) (hW : Below w.heap.size w W) (hb : Below w.heap.size W W') :
    W'.cell? ⟨b, o, none⟩ = some a0 ∧ Hid (Below w.heap.size W W') ∧ Hid (Below w.heap.size w W') :=
  ⟨(hb.cell (p := ⟨b, o, none⟩) hN).trans p0, hb, hW.trans hb⟩
theorem un_drew {B : Nat} {w w' : World} (h : Below B w.drew w') : Below B w w' := ⟨h.os, h.tape, h.output, h.size, h.block⟩
theorem join1d {w : World} {A0 : Option Addr} {n0 c0 B : Nat} {xs : List Int} (h0 : Ints w B .u8 A0 n0 c0 xs) (hB : B ≤ w.heap.size) (ht : n0 ≤ 281474976710656) :
    Calls Tryd.prog 30 #[.slice (some ⟨w.heap.size, 0, none⟩) 1 1] (w.alloc (.cells #[.slice A0 n0 c0] 22)).drew fun e w' => ∃ A c, e = .returned (.slice A n0 c) ∧ Own w' w.heap.size 5 .u8 (.slice A n0 c) n0 xs ∧ Below w.heap.size w w' := by
  have h := join1 (w := w.drew) (N := w.heap.size) rfl (h0 : Ints w.drew B .u8 A0 n0 c0 xs) hB ht
  refine Calls.mono (show Calls Tryd.prog 30 #[.slice (some ⟨w.heap.size, 0, none⟩) 1 1] (w.alloc (.cells #[.slice A0 n0 c0] 22)).drew _ from h) ?_
  rintro e w' ⟨A, c, he, ho, hb⟩
  exact ⟨A, c, he, ho, un_drew hb⟩
set_option maxRecDepth 100000 in
set_option maxHeartbeats 4000000 in
theorem tlvs_any (A : Option Addr) (n c : Nat) (l : List Int) (w : World) (hx : Ints w w.heap.size .u8 A n c l) (hby : Bytes l) (hn : n ≤ 1000000000000) :
    Calls Tryd.prog 26 #[.slice A n c] w (GivesTL (tlR l) w) := by
  have hl := hx.len
  have HT : Hid (∀ ts, tl n l = some ts → tlR l = (ts, 0)) := fun ts h => by unfold tlR; rw [hl, h]
  have HT2 : Hid (tl n l = none → tlR l = ([], 3)) := fun h => by unfold tlR; rw [hl, h]
  obtain ⟨L, hL⟩ : ∃ L, tl n l = L := ⟨_, rfl⟩
  have HL := Lib.hid hL
  have HX := Lib.hid hx
  have HBY := Lib.hid hby
  rw [hL] at HT HT2
  clear hx hby hL hl
  go_enter Tryd.func26, Tryd.ntmps26
  go_wp2
  go_loopw [0, 4] (fun b o wr => FTInv w L n b o wr) (fun b _ _ => lenV b)
  case atStart => exact ⟨A, n, c, n, 0, l, [], rfl, HX.out, HBY.out, Nat.le_refl _, by omega, by rw [HL.out]; cases L <;> simp, TOut.nil _ _, Below.refl _ _⟩
  case round =>
    obtain ⟨A1, n1, c1, k, m, l1, ts, rfl, hi, hb1, hnk, hmn, heq, hto, hbw⟩ := hrel
    have hl1 := hi.len
    have HI := Lib.hid hi
    have HB1 := Lib.hid hb1
    have HEQ := Lib.hid heq
    have HTO := Lib.hid hto
    have HBW := Lib.hid hbw
    have HIW := Lib.hid (hi.below hbw)
    clear hi hb1 heq hto hbw
    by_cases hn0 : n1 = 0
    · have hnz : ¬ 0 < n1 := by omega
      have HF := Lib.hid (HT.out ts (by rw [HEQ.out, tl_nil k (by omega)]; simp))
      obtain ⟨A2, c2, rfl⟩ := HTO.out.form
      clear hn0
      go_wp2
      go_ret2
      rw [HF.out]
      exact ⟨A2, m, c2, rfl, HTO.out.tls, HBW.out⟩
    have hnz : 0 < n1 := by omega
    have HBAD : Hid (l1.length < 3 ∨ (l1.length : Int) - 3 < num l1 1 2 → tlR l = ([], 3)) := fun h => HT2.out (by rw [HEQ.out, tl_short (by omega) (by omega) h]; rfl)
    by_cases hs3 : n1 < 3
    · have HF := Lib.hid (HBAD.out (.inl (by omega)))
      have HG := Lib.hid (get_bad A1 n1 c1 wr 1 2 (by omega) (by omega) (by omega) (by omega))
      clear hn0 hs3
      go_wp2_with fail
      refine HG.out.mono ?_
      rintro e w2 ⟨rfl, rfl⟩
      go_wp2
      go_ret2
      rw [HF.out]
      exact ⟨_, _, _, rfl, TLs.nil _ _, HBW.out⟩
    have HG := Lib.hid (get_ok A1 n1 c1 _ l1 wr HIW.out HB1.out 1 2 (by omega) (by omega) (by omega))
    have hnb := num_bd HB1.out 1 2
    obtain ⟨nn, hnn⟩ : ∃ nn : Nat, num l1 1 2 = (nn : Int) := ⟨(num l1 1 2).toNat, by omega⟩
    rw [hnn] at HG hnb
    have hn16 : nn < 65536 := by have := hnb.2; omega
    have e1 : IntKind.u64.wrap ((n1 : Int) - 3) = (n1 : Int) - 3 := by rw [IntKind.wrap_u64]; omega
    by_cases hov : (n1 : Int) - 3 < nn
    · have HF := Lib.hid (HBAD.out (.inr (by rw [hnn]; omega)))
      have d2 : decide ((n1 : Int) - 3 < (nn : Int)) = true := by simp [hov]
      clear hov hnb hnn hn0
      go_wp2_with fail
      refine HG.out.mono ?_
      rintro e w2 ⟨rfl, rfl⟩
      go_wp2
      go_ret2
      rw [HF.out]
      exact ⟨_, _, _, rfl, TLs.nil _ _, HBW.out⟩
    have d2 : decide ((n1 : Int) - 3 < (nn : Int)) = false := by simp; omega
    obtain ⟨k, rfl⟩ : ∃ j, k = j + 1 := ⟨k - 1, by omega⟩
    have hst := tl_step (k := k) (l := l1) (n := nn) (by omega) hnn (by omega)
    obtain ⟨A2, c2, hsl, hi2⟩ := HI.out.sliceU (P := Tryd.prog) (T := 22) (E := 5) Tryd.underlying22 (by kernel_rfl) (lo := 3) (hi := 3 + nn) (by omega) (by omega)
    obtain ⟨A3, c3, hsf, hi3⟩ := HI.out.sliceFromU (P := Tryd.prog) (T := 22) (E := 5) Tryd.underlying22 (by kernel_rfl) (lo := 3 + nn) (by omega)
    rw [show 3 + nn - 3 = nn by omega] at hsl hi2
    have ec : ((3 + nn : Nat) : Int) = 3 + (nn : Int) := by omega
    rw [ec] at hsl hsf
    rw [show ((3 : Nat) : Int) = 3 from rfl] at hsl
    obtain ⟨b, o, y, rfl, hbB, g0, hy⟩ := HIW.out.cell (j := 0) (by omega)
    rw [Nat.add_zero] at g0
    have HY := Lib.hid hy.out
    have hyb := HB1.out 0
    rw [hy.out] at hyb
    have wy : IntKind.i64.wrap y = y := IntWalk.i64_in _ (by omega)
    have wn : IntKind.u64.wrap (3 + (nn : Int)) = 3 + (nn : Int) := by rw [IntKind.wrap_u64]; omega
    have HI2 := Lib.hid hi2
    have HI3 := Lib.hid hi3
    have HST := Lib.hid hst
    have HB3 := Lib.hid (bytes_drop HB1.out (3 + nn))
    obtain ⟨Am, cm, rfl⟩ := HTO.out.form
    clear hst hi2 hi3 hnb hnn hov hy ec
    go_wp2_with fail
    refine HG.out.mono ?_
    rintro e w2 ⟨rfl, rfl⟩
    go_upto_region 6 with fail
    go_cut [4] (fun ov wx => TOut wx w.heap.size ov (m + 1) (ts ++ [(y, (l1.drop 3).take nn)]) ∧ Below w.heap.size w wx)
    case first =>
      go_region_held3 (fun w' => w'.cell? ⟨b, o, none⟩ = some (.int .u8 y) ∧ Hid (Below w.heap.size wr w') ∧ Hid (Below w.heap.size w w'))
        (first | exact K1.of hbB g0 HBW.out (by repeat (first | exact hs.2.1.out | exact (Below.refl _ _).drew | exact Below.refl _ _ | refine Below.alloc ?_ (by (try simp) <;> (have := HBW.out.size; omega)) _ | refine Below.drew ?_)))
        (first
          | (go_at_call 30; (with_reducible refine (join1d (HI2.out.below HBW.out) HBW.out.size (by omega)).mono ?_); rintro e w5 ⟨A5, c5, rfl, ho5, hb5⟩; have hs := K1.of hbB g0 HBW.out (hb5.mono HBW.out.size); have hsz := hs.2.2.out.size; obtain ⟨A6, c6, w6, hrun, ht6, hb6⟩ := (HTO.out.below hb5).push y (own_mono ho5 HBW.out.size) rfl hsz (by omega); have HR := Lib.hid hrun; have HT6 := Lib.hid ht6; have hs6 := K1.of hbB g0 HBW.out (hs.2.1.out.trans hb6); clear ho5 hb5 hrun ht6 hb6)
          | ((refine step_append_run (by rfl) _ _ _ (by rfl) (by rfl) (by rfl) HR.out ?_; have hs := hs6)))
      all_goals
        go_wp2_with fail
        go_meet
        exact ⟨HT6.out, hs6.2.2.out⟩
    case rest =>
      obtain ⟨hto, hbw⟩ := hcut
      obtain ⟨A5, c5, rfl⟩ := hto.form
      have HTO5 := Lib.hid hto
      have HBW5 := Lib.hid hbw
      have HEQ5 : Hid (L = (tl k (l1.drop (3 + nn))).map fun r => (ts ++ [(y, (l1.drop 3).take nn)]) ++ r) := by
        show _ = _
        rw [HEQ.out, HST.out, HY.out, Option.map_map]
        congr 1
        funext r
        simp
      clear hto hbw g0 HTO HEQ HG HIW
      go_wp2
      go_roundw
      case rel => exact ⟨A3, n1 - (3 + nn), c3, k, m + 1, l1.drop (3 + nn), _, rfl, HI3.out, HB3.out, by omega, by omega, HEQ5.out, HTO5.out, HBW5.out⟩
      case measure => simp [lenV]; omega
end Go.Proofs.YtonckpcbehobhaaDoor
