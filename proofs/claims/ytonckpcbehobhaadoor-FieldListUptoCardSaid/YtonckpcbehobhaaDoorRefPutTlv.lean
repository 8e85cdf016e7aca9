/- PutTLV: the reference's. -/
import Derived.Test.YtonckpcbehobhaaDoorPutTlv
namespace Go.Proofs.YtonckpcbehobhaaDoor
open Go.RowKit

set_option maxRecDepth 100000 in
set_option maxHeartbeats 4000000 in
theorem refPutTlv_any (A V : Option Addr) (n c vn vc : Nat) (kind : Int) (xs vs : List Int) (w : World) (hx : Ints w w.heap.size .u8 A n c xs) (hn : n ≤ 100000000) (hv : Ints w w.heap.size .u8 V vn vc vs) :
    Calls Tryd.prog 25 #[.slice A n c, .agg #[.int .i64 kind, .slice V vn vc]] w (GivesPB (putR xs kind vs) w) := by
  have HVL := hv.len
  by_cases h0 : kind < 0
  · have d : decide (kind < 0) = true := by simp [h0]
    have HF : Hid (putR xs kind vs = ([], 5)) := by show _ = _; unfold putR; rw [if_pos (.inl h0)]
    have HB := Lib.hid (belowA w (.cells #[.int .i64 kind, .slice V vn vc] 43))
    clear h0 hx hv HVL
    go_enter Tryd.func25, Tryd.ntmps25
    go_wp2
    go_ret2
    rw [HF.out]
    exact ⟨none, 0, 0, rfl, Own.nil _ _ _ _, HB.out⟩
  have d0 : decide (kind < 0) = false := by simp; omega
  by_cases h1 : 255 < kind
  · have d : decide (kind > 255) = true := by simp [h1]
    have HF : Hid (putR xs kind vs = ([], 5)) := by show _ = _; unfold putR; rw [if_pos (.inr h1)]
    have HB := Lib.hid (belowA w (.cells #[.int .i64 kind, .slice V vn vc] 43))
    clear h0 h1 hx hv HVL
    go_enter Tryd.func25, Tryd.ntmps25
    go_wp2
    go_ret2
    rw [HF.out]
    exact ⟨none, 0, 0, rfl, Own.nil _ _ _ _, HB.out⟩
  have d1 : decide (kind > 255) = false := by simp; omega
  by_cases h2 : 65535 < vn
  · have d : decide ((vn : Int) > 65535) = true := by simp; omega
    have HF : Hid (putR xs kind vs = ([], 4)) := by show _ = _; unfold putR; rw [if_neg (by omega), if_pos (by omega)]
    have HB := Lib.hid (belowA w (.cells #[.int .i64 kind, .slice V vn vc] 43))
    clear h0 h1 h2 hx hv HVL
    go_enter Tryd.func25, Tryd.ntmps25
    go_wp2
    go_ret2
    rw [HF.out]
    exact ⟨none, 0, 0, rfl, Own.nil _ _ _ _, HB.out⟩
  have d2 : decide ((vn : Int) > 65535) = false := by simp; omega
  have HF : Hid (putR xs kind vs = (xs ++ ([kind] ++ (pb vn 2 ++ vs)), 0)) := by show _ = _; unfold putR; rw [if_neg (by omega), if_neg (by omega), HVL]
  have hk8 : IntKind.u8.wrap kind = kind := by rw [IntKind.wrap_u8]; omega
  have hk64 : IntKind.u64.wrap kind = kind := by rw [IntKind.wrap_u64]; omega
  have hv64 : IntKind.u64.wrap (vn : Int) = (vn : Int) := by rw [IntKind.wrap_u64]; omega
  have HX := Lib.hid hx
  have HV := Lib.hid hv
  obtain ⟨Z, hZ⟩ : ∃ Z, w.alloc (.cells #[.int .i64 kind, .slice V vn vc] 43) = Z := ⟨_, rfl⟩
  have HB0 : Hid (Below w.heap.size w Z) := by subst hZ; exact belowA _ _
  have hzs : w.heap.size < Z.heap.size := by subst hZ; simp
  have p0 : Z.cell? ⟨w.heap.size, 0, none⟩ = some (.int .i64 kind) := by subst hZ; go_simp
  have p1 : Z.cell? ⟨w.heap.size, 1, none⟩ = some (.slice V vn vc) := by subst hZ; go_simp
  have HXZ : Hid (∀ W, Below Z.heap.size Z W → Ints W W.heap.size .u8 A n c xs) := fun W h => (HX.out.below (HB0.out.trans (h.mono HB0.out.size))).more (HB0.out.trans (h.mono HB0.out.size)).size
  have HVZ : Hid (∀ W, Below Z.heap.size Z W → Ints W W.heap.size .u8 V vn vc vs) := fun W h => (HV.out.below (HB0.out.trans (h.mono HB0.out.size))).more (HB0.out.trans (h.mono HB0.out.size)).size
  have R1 : Hid (∀ W, Below Z.heap.size Z W → Calls Tryd.prog 15 #[.slice A n c, .int .i64 1, .int .u64 kind] W (GivesInts 5 .u8 (n + 1) (xs ++ [kind]) W)) := fun W h => by
    have := refPut_any A n c 1 kind xs W (HXZ.out W h) (by omega) (by omega) (by omega) (by omega)
    rwa [show clamp8 1 = 1 by decide, show pb kind 1 = [kind] by simp [pb]; omega] at this
  have R2 : Hid (∀ W A1 c1, Ints W W.heap.size .u8 A1 (n + 1) c1 (xs ++ [kind]) → Calls Tryd.prog 15 #[.slice A1 (n + 1) c1, .int .i64 2, .int .u64 vn] W (GivesInts 5 .u8 (n + 1 + 2) (xs ++ [kind] ++ pb vn 2) W)) := fun W A1 c1 h => by
    have := refPut_any A1 (n + 1) c1 2 vn (xs ++ [kind]) W h (by omega) (by omega) (by omega) (by omega)
    rwa [show clamp8 2 = 2 by decide] at this
  clear h0 h1 hx hv HVL
  go_enter Tryd.func25, Tryd.ntmps25
  go_upto_region 5 with fail
  go_region_held3 (fun w' => w'.cell? ⟨w.heap.size, 0, none⟩ = some (.int .i64 kind) ∧ w'.cell? ⟨w.heap.size, 1, none⟩ = some (.slice V vn vc) ∧ Hid (Below Z.heap.size Z w'))
    (first | exact T2.of hzs p0 p1 (by repeat (first | exact hs.2.2.out | exact (Below.refl _ _).drew | exact Below.refl _ _ | refine Below.alloc ?_ (by (try simp) <;> omega) _ | refine Below.drew ?_)))
    (first
      | (go_at_call 15; (with_reducible refine (R1.out _ (T2.b (by assumption))).mono ?_); rintro e w' ⟨A3, c3, rfl, ho, hb⟩; have hs := T2.of hzs p0 p1 (below3 (T2.b (by assumption)) hb); have HI3 := Lib.hid ho.ints; have hsw := hs.2.2.out.size; clear hb ho)
      | (go_at_call 15; (with_reducible refine (R2.out _ _ _ HI3.out).mono ?_); rintro e w4 ⟨A4, c4, rfl, ho4, hb4⟩; have hs4 := T2.of hzs p0 p1 (below3 hs.2.2.out hb4); have hs := hs4; have HO4 := Lib.hid (own_mono ho4 (Nat.le_trans HB0.out.size hsw)); clear hb4 ho4))
  have HB4 := Lib.hid (below3 HB0.out hs4.2.2.out)
  obtain ⟨v5, w5, hrun, ho5, hg5, hor⟩ := Ints.append (P := Tryd.prog) (t := 22) (ty := 22) Tryd.underlying22 u8_info rfl HO4.out (HVZ.out _ hs4.2.2.out) (by simp only [maxLen]; omega) (by omega) HB4.out.size
  have HR := Lib.hid hrun
  obtain ⟨A5, c5, rfl⟩ := own_form ho5
  have HO5 := Lib.hid ho5
  have HB5 : Hid (Below w.heap.size w w5) := HB4.out.grown hg5 HB4.out.size (fun g hg => (World.ownsRow.lt HO4.out g hg).1)
  obtain ⟨q0, q1, _⟩ := hs4
  clear hrun ho5 hg5 hor p0 p1 hs
  go_wp2_with (at_builtin; refine wpList_append_run rfl _ _ _ rfl rfl rfl HR.out ?_)
  go_ret2
  rw [HF.out]
  refine ⟨_, _, _, rfl, ?_, HB5.out⟩
  have h := HO5.out
  rw [List.append_assoc, List.append_assoc] at h
  exact h
end Go.Proofs.YtonckpcbehobhaaDoor
