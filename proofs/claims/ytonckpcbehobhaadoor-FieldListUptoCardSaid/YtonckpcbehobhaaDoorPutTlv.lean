/- PutTLV: the program's. -/
import Derived.Test.YtonckpcbehobhaaDoorJoin
import Derived.Test.YtonckpcbehobhaaDoorAwake03
import Derived.Deep.RegionHeld3
import Derived.Deep.DeepCutAuto
namespace Go.Proofs.YtonckpcbehobhaaDoor
open Go.RowKit

/-- what PutTLV returns -/
def putR (xs : List Int) (kind : Int) (vs : List Int) : List Int × Int := if kind < 0 ∨ 255 < kind then ([], 5) else if 65535 < vs.length then ([], 4) else (xs ++ ([kind] ++ (pb vs.length 2 ++ vs)), 0)
def GivesPB (q : List Int × Int) (w : World) (e : Ending) (w' : World) : Prop := ∃ A n c, e = .returned (.tuple #[.slice A n c, .int .i64 q.2]) ∧ Own w' w.heap.size 5 .u8 (.slice A n c) n q.1 ∧ Below w.heap.size w w'
theorem join4 {w : World} {N : Nat} {A0 A1 A2 A3 : Option Addr} {n0 c0 n1 c1 n2 c2 n3 c3 B : Nat} {x0 x1 x2 x3 : List Int} (hN : N = w.heap.size) (h0 : Ints w B .u8 A0 n0 c0 x0) (h1 : Ints w B .u8 A1 n1 c1 x1) (h2 : Ints w B .u8 A2 n2 c2 x2) (h3 : Ints w B .u8 A3 n3 c3 x3) (hB : B ≤ w.heap.size) (ht : n0 + (n1 + (n2 + n3)) ≤ 281474976710656) :
    Calls Tryd.prog 30 #[.slice (some ⟨N, 0, none⟩) 4 4] (w.alloc (.cells #[.slice A0 n0 c0, .slice A1 n1 c1, .slice A2 n2 c2, .slice A3 n3 c3] 22)) fun e w' => ∃ A c, e = .returned (.slice A (n0 + (n1 + (n2 + n3))) c) ∧ Own w' w.heap.size 5 .u8 (.slice A (n0 + (n1 + (n2 + n3))) c) (n0 + (n1 + (n2 + n3))) (x0 ++ (x1 ++ (x2 ++ x3))) ∧ Below w.heap.size w w' := by
  subst hN
  obtain ⟨W, hW⟩ : ∃ W, w.alloc (.cells #[.slice A0 n0 c0, .slice A1 n1 c1, .slice A2 n2 c2, .slice A3 n3 c3] 22) = W := ⟨_, rfl⟩
  have hbel : Below w.heap.size w W := by rw [← hW]; exact belowA _ _
  have hsz : W.heap.size = w.heap.size + 1 := by rw [← hW]; simp
  have hp : Parts W W.heap.size (some ⟨w.heap.size, 0, none⟩) 4 4 [⟨A0, n0, c0, x0⟩, ⟨A1, n1, c1, x1⟩, ⟨A2, n2, c2, x2⟩, ⟨A3, n3, c3, x3⟩] := by
    refine ⟨by rw [← hW]; exact Cells.of_own (World.ownsRow_lit (base := w.heap.size) w #[.slice A0 n0 c0, .slice A1 n1 c1, .slice A2 n2 c2, .slice A3 n3 c3] 4 (Nat.le_refl _) (by simp [maxLen]) rfl), fun p hp => ?_⟩
    have hk : ∀ {A n c xs}, Ints w B .u8 A n c xs → Ints W W.heap.size .u8 A n c xs := fun h => ((h.more hB).below hbel).more hbel.size
    simp only [List.mem_cons, List.not_mem_nil, or_false] at hp
    rcases hp with rfl | rfl | rfl | rfl
    · exact hk h0
    · exact hk h1
    · exact hk h2
    · exact hk h3
  have e1 : tot [⟨A0, n0, c0, x0⟩, ⟨A1, n1, c1, x1⟩, ⟨A2, n2, c2, x2⟩, ⟨A3, n3, c3, x3⟩] 4 = n0 + (n1 + (n2 + n3)) := by simp [tot]
  have e2 : cat [⟨A0, n0, c0, x0⟩, ⟨A1, n1, c1, x1⟩, ⟨A2, n2, c2, x2⟩, ⟨A3, n3, c3, x3⟩] 4 = x0 ++ (x1 ++ (x2 ++ x3)) := by simp [cat]
  have h := join_any _ 4 4 _ _ _ hp (Nat.le_refl _) (by rw [e1]; exact ht) (by omega)
  rw [e1, e2] at h
  rw [hW]
  refine h.mono ?_
  rintro e w' ⟨A, c, he, ho, hb⟩
  exact ⟨A, c, he, own_mono ho (by omega), hbel.trans (hb.mono (by omega))⟩
theorem lit_i {Z w' : World} {kind : Int} (hb : Below (Z.alloc (.cells #[.int .u8 kind] 5)).drew.heap.size (Z.alloc (.cells #[.int .u8 kind] 5)).drew w') : Ints w' w'.heap.size .u8 (some ⟨Z.heap.size, 0, none⟩) 1 1 [kind] := by
  have h := u8lit Z Z.heap.size rfl 1 [kind] rfl (by simp [maxLen]) (Z.heap.size + 1) (by omega)
  have e : (Z.alloc (.cells #[.int .u8 kind] 5)).drew.heap.size = Z.heap.size + 1 := by simp
  have h2 : Ints (Z.alloc (.cells #[.int .u8 kind] 5)).drew (Z.heap.size + 1) .u8 (some ⟨Z.heap.size, 0, none⟩) 1 1 [kind] := h
  have h3 := h2.below (hb.mono (Nat.le_of_eq e.symm))
  exact h3.more (by rw [← e]; exact hb.size)
theorem lit_ii {W : World} {kind : Int} : Ints (W.alloc (.cells #[.int .u8 kind] 5)) (W.alloc (.cells #[.int .u8 kind] 5)).heap.size .u8 (some ⟨W.heap.size, 0, none⟩) 1 1 [kind] := by
  have h := u8lit W W.heap.size rfl 1 [kind] rfl (by simp [maxLen]) (W.alloc (.cells #[.int .u8 kind] 5)).heap.size (by simp)
  exact h
/-- the two cells of a field's box -/
theorem T2.of {N : Nat} {a0 a1 : Value} {V W : World} (hN : N < V.heap.size) (p0 : V.cell? ⟨N, 0, none⟩ = some a0) (p1 : V.cell? ⟨N, 1, none⟩ = some a1) (hb : Below V.heap.size V W) :
    W.cell? ⟨N, 0, none⟩ = some a0 ∧ W.cell? ⟨N, 1, none⟩ = some a1 ∧ Hid (Below V.heap.size V W) :=
  ⟨(hb.cell (p := ⟨N, 0, none⟩) hN).trans p0, (hb.cell (p := ⟨N, 1, none⟩) hN).trans p1, hb⟩
theorem T2.b {N : Nat} {a0 a1 : Value} {V W : World} (h : W.cell? ⟨N, 0, none⟩ = some a0 ∧ W.cell? ⟨N, 1, none⟩ = some a1 ∧ Hid (Below V.heap.size V W)) : Below V.heap.size V W := h.2.2.out
set_option maxRecDepth 100000 in
set_option maxHeartbeats 4000000 in
theorem putTlv_any (A V : Option Addr) (n c vn vc : Nat) (kind : Int) (xs vs : List Int) (w : World) (hx : Ints w w.heap.size .u8 A n c xs) (hn : n ≤ 140737488351232) (hv : Ints w w.heap.size .u8 V vn vc vs) :
    Calls Tryd.prog 24 #[.slice A n c, .agg #[.int .i64 kind, .slice V vn vc]] w (GivesPB (putR xs kind vs) w) := by
  have HVL := hv.len
  by_cases h0 : kind < 0
  · have d : decide (kind < 0) = true := by simp [h0]
    have HF : Hid (putR xs kind vs = ([], 5)) := by show _ = _; unfold putR; rw [if_pos (.inl h0)]
    have HB := Lib.hid (belowA w (.cells #[.int .i64 kind, .slice V vn vc] 43))
    clear h0 hx hv HVL
    go_enter Tryd.func24, Tryd.ntmps24
    go_wp2
    go_ret2
    rw [HF.out]
    exact ⟨none, 0, 0, rfl, Own.nil _ _ _ _, HB.out⟩
  have d0 : decide (kind < 0) = false := by simp; omega
  by_cases h1 : 255 < kind
  · have d : decide (kind > 255) = true := by simp [h1]
    have HF : Hid (putR xs kind vs = ([], 5)) := by show _ = _; unfold putR; rw [if_pos (.inr h1)]
    have HB := Lib.hid (belowA w (.cells #[.int .i64 kind, .slice V vn vc] 43))
    clear h0 h1 hx hv HVL
    go_enter Tryd.func24, Tryd.ntmps24
    go_wp2
    go_ret2
    rw [HF.out]
    exact ⟨none, 0, 0, rfl, Own.nil _ _ _ _, HB.out⟩
  have d1 : decide (kind > 255) = false := by simp; omega
  by_cases h2 : 65535 < vn
  · have d : decide ((vn : Int) > 65535) = true := by simp; omega
    have HF : Hid (putR xs kind vs = ([], 4)) := by show _ = _; unfold putR; rw [if_neg (by omega), if_pos (by omega)]
    have HB := Lib.hid (belowA w (.cells #[.int .i64 kind, .slice V vn vc] 43))
    clear h0 h1 h2 hx hv HVL
    go_enter Tryd.func24, Tryd.ntmps24
    go_wp2
    go_ret2
    rw [HF.out]
    exact ⟨none, 0, 0, rfl, Own.nil _ _ _ _, HB.out⟩
  have d2 : decide ((vn : Int) > 65535) = false := by simp; omega
  have HF : Hid (putR xs kind vs = (xs ++ ([kind] ++ (pb vn 2 ++ vs)), 0)) := by show _ = _; unfold putR; rw [if_neg (by omega), if_neg (by omega), HVL]
  have hk8 : IntKind.u8.wrap kind = kind := by rw [IntKind.wrap_u8]; omega
  have hv64 : IntKind.u64.wrap (vn : Int) = (vn : Int) := by rw [IntKind.wrap_u64]; omega
  have HX := Lib.hid hx
  have HV := Lib.hid hv
  obtain ⟨Z, hZ⟩ : ∃ Z, w.alloc (.cells #[.int .i64 kind, .slice V vn vc] 43) = Z := ⟨_, rfl⟩
  have HB0 : Hid (Below w.heap.size w Z) := by subst hZ; exact belowA _ _
  have hzs : w.heap.size < Z.heap.size := by subst hZ; simp
  have p0 : Z.cell? ⟨w.heap.size, 0, none⟩ = some (.int .i64 kind) := by subst hZ; go_simp
  have p1 : Z.cell? ⟨w.heap.size, 1, none⟩ = some (.slice V vn vc) := by subst hZ; go_simp
  have HXZ : Hid (∀ W, Below Z.heap.size Z W → Ints W W.heap.size .u8 A n c xs) := fun W h => (HX.out.below (HB0.out.trans (h.mono HB0.out.size))).more (HB0.out.trans (h.mono HB0.out.size)).size
  have HVZ : Hid (∀ W, Below Z.heap.size Z W → Ints W W.heap.size .u8 V vn vc vs) := fun W h => (HV.out.below (HB0.out.trans (h.mono HB0.out.size))).more (HB0.out.trans (h.mono HB0.out.size)).size
  have NU : Hid (∀ W, Calls Tryd.prog 31 #[.int .i64 2, .int .u64 vn] W (GivesInts 5 .u8 2 (pb vn 2) W)) := fun W => number_any 2 vn W (by omega) (by omega) (by omega)
  clear h0 h1 hx hv HVL
  go_enter Tryd.func24, Tryd.ntmps24
  go_upto_region 5 with fail
  go_region_held3 (fun w' => w'.cell? ⟨w.heap.size, 0, none⟩ = some (.int .i64 kind) ∧ w'.cell? ⟨w.heap.size, 1, none⟩ = some (.slice V vn vc) ∧ Hid (Below Z.heap.size Z w'))
    (first | exact T2.of hzs p0 p1 (by repeat (first | exact hs.2.2.out | exact (Below.refl _ _).drew | exact Below.refl _ _ | refine Below.alloc ?_ (by (try simp) <;> omega) _ | refine Below.drew ?_)))
    (first
      | (go_at_call 31; (with_reducible refine (NU.out _).mono ?_); rintro e w' ⟨A3, c3, rfl, ho, hb⟩; have hs := T2.of hzs p0 p1 (below3 (T2.b (by assumption)) hb); have hsz := hb.size; (try simp at hsz); have hsw := hs.2.2.out.size; have HI3 := Lib.hid ho.ints; have HBN := Lib.hid hb; clear hb ho)
      | (go_at_call 30; have t2 := lit_i HBN.out; have t1 := HXZ.out _ hs.2.2.out; have t3 := HVZ.out _ hs.2.2.out; have t4 : n + (1 + (2 + vn)) ≤ 281474976710656 := (by omega); have t5 := join4 (B := w'.heap.size) rfl t1 t2 HI3.out t3 (Nat.le_refl _) t4; (with_reducible refine t5.mono ?_); clear t1 t2 t3 t5; rintro e w4 ⟨A5, c5, rfl, ho5, hb5⟩; have HO5 := Lib.hid (own_mono ho5 (Nat.le_trans HB0.out.size hsw)); have HB5 := Lib.hid (below3 HB0.out (below3 hs.2.2.out hb5)); have hs := T2.of hzs p0 p1 (below3 hs.2.2.out hb5); clear ho5 hb5)
      | (go_at_call 30; have hbz := hs.2.2.out.alloc hsw (.cells #[.int .u8 kind] 5); have t1 := HXZ.out _ hbz; have t3 := HVZ.out _ hbz; have t2 := ((HI3.out.below (belowA w' (.cells #[.int .u8 kind] 5))).more (belowA w' (.cells #[.int .u8 kind] 5)).size); have t4 : n + (1 + (2 + vn)) ≤ 281474976710656 := (by omega); have t5 := join4 (N := w'.heap.size + 1) (by simp) t1 lit_ii t2 t3 (Nat.le_refl _) t4; (with_reducible refine t5.mono ?_); clear t1 t2 t3 t5; rintro e w4 ⟨A5, c5, rfl, ho5, hb5⟩; have HO5 := Lib.hid (own_mono ho5 (Nat.le_trans HB0.out.size hbz.size)); have HB5 := Lib.hid (below3 HB0.out (below3 hbz hb5)); have hs := T2.of hzs p0 p1 (below3 hbz hb5); clear ho5 hb5 hbz))
  all_goals
    go_wp2
    go_ret2
    rw [HF.out]
    exact ⟨_, _, _, rfl, HO5.out, HB5.out⟩
end Go.Proofs.YtonckpcbehobhaaDoor
