/- Attrs: the walk. -/
import Derived.Test.YtojgohgeagbkbaaAtrR
import Derived.BigRegion
import Derived.Deep.DeepCutAuto
import Derived.Deep.CutBlock
namespace Go.Proofs.Ytojgohgeagbkbaa
open Go.RowKit

set_option linter.unusedVariables false
/-- behind the switch: the box holds the attributes b, the result's block is as it was made -/
def AtSw (N B : Nat) (w : World) (r : Att × Int) (ev : Value) (W : World) : Prop :=
  ∃ (pA cA kA uA : Option Addr) (pn pc cn cc kn kc un uc : Nat), ev = .int .i64 r.2 ∧ Hid (Blk W B 40 (attCells r.1 pA cA kA uA pn pc cn cc kn kc un uc)) ∧ Hid (Blk W (N + 2) 40 [.int .i64 0, .slice none 0 0, .int .u32 0, .bool false, .int .i64 0, .bool false, .int .i64 0, .bool false, .bool false, .int .i64 0, .int .u32 0, .slice none 0 0, .bool false, .int .u32 0, .slice none 0 0, .slice none 0 0]) ∧
    Hid (∀ V, Save (N + 2) W V → Lists V V.heap.size pA cA kA uA pn pc cn cc kn kc un uc r.1.path r.1.comm r.1.clus r.1.unk) ∧ Hid (Below N w W)
theorem atSw_end {N B : Nat} {w w6 W : World} {r : Att × Int} {pA cA kA uA : Option Addr} {pn pc cn cc kn kc un uc : Nat} {ev : Value} (hbz : Blk w6 (N + 2) 40 [.int .i64 0, .slice none 0 0, .int .u32 0, .bool false, .int .i64 0, .bool false, .int .i64 0, .bool false, .bool false, .int .i64 0, .int .u32 0, .slice none 0 0, .bool false, .int .u32 0, .slice none 0 0, .slice none 0 0]) (hz : N + 2 < B) (hB6 : Below N w w6) (hbw : Below B w6 W)
    (hblk : Blk W B 40 (attCells r.1 pA cA kA uA pn pc cn cc kn kc un uc)) (hl : ∀ V, Save (N + 2) W V → Lists V V.heap.size pA cA kA uA pn pc cn cc kn kc un uc r.1.path r.1.comm r.1.clus r.1.unk) (he : ev = .int .i64 r.2) : AtSw N B w r ev W :=
  ⟨pA, cA, kA, uA, pn, pc, cn, cc, kn, kc, un, uc, he, hblk, hbz.below hbw hz, hl, hB6.trans (hbw.mono (by omega))⟩
/-- from block g on all is kept -/
def Over (g : Nat) (w V : World) : Prop := w.heap.size ≤ V.heap.size ∧ ∀ k, g ≤ k → k < w.heap.size → V.heap[k]? = w.heap[k]?
theorem Over.of_save {g b : Nat} {w V : World} (h : Save b w V) (hb : b < g) : Over g w V := ⟨h.size, fun k hk hw => h.block k hw (by omega)⟩
theorem Over.trans {g : Nat} {a b c : World} (h : Over g a b) (k : Over g b c) : Over g a c := ⟨Nat.le_trans h.1 k.1, fun i hi hw => (k.2 i hi (Nat.lt_of_lt_of_le hw h.1)).trans (h.2 i hi hw)⟩
theorem cells_over {g size n c : Nat} {A : Option Addr} {w V : World} {vs : List Value} (h : Cells w w.heap.size size A n c vs) (hv : Over g w V) (ha : 0 < n → ∀ ad, A = some ad → g ≤ ad.block) : Cells V V.heap.size size A n c vs := by
  refine ⟨h.1, h.2.1, h.2.2.1, fun hn => ?_⟩
  obtain ⟨b, o, e, hb, hc⟩ := h.2.2.2 hn
  refine ⟨b, o, e, Nat.lt_of_lt_of_le hb hv.1, fun j hj => ?_⟩
  rw [← hc j hj]
  simp only [World.cell?, hv.2 b (ha hn _ e) hb]
theorem SOut.over {w V : World} {base lo m c g : Nat} {A : Option Addr} {ts : Path} (h : SOut w base lo (.slice A m c) m ts) (hs : Over g w V) (hg : g ≤ base) (hg2 : g ≤ lo) : Segs V V.heap.size A m c ts := by
  obtain ⟨fs, h1, h2, h3, h4⟩ := h
  refine ⟨fs, ⟨cells_over (Cells.of_own h1) hs fun hn ad e => ?_, h2⟩, h3, fun t ht => cells_over (h4 t ht).1 hs fun hn ad e => ?_⟩
  · exact Nat.le_trans hg (World.ownsRow.lt h1 ad.block (by rw [e]; rfl)).1
  · exact Nat.le_trans hg2 ((h4 t ht).2 hn ad e).1
set_option linter.unusedSimpArgs false in
set_option maxRecDepth 100000 in
set_option maxHeartbeats 8000000 in
theorem attrs_any (asn cfd rtr clt : Int) (QA na g0 g1 g2 g3 : Option Addr) (qn qc nn nc m0 c0 m1 c1 m2 c2 m3 c3 : Nat) (d0 d1 d2 d3 mul : Int) (rpa rpl : Int) (og hop med pref aas aad ori : Int) (hm hp atm ha ho : Bool) (pA cA kA uA : Option Addr) (pn pc cn cc kn kc un uc : Nat) (p us : Path) (cm cl : List Int) (rpeer rkind rrtr : Int) (stale : Bool) (ti : Int) (ps : List PeerV) (w : World) (hQ : Peers w w.heap.size QA qn qc ps) (hL : Lists w w.heap.size pA cA kA uA pn pc cn cc kn kc un uc p cm cl us) (hs : Sm p) (hu : (flat us).length ≤ 1000000) (hk : kn ≤ 1000000) :
    Calls Try.prog 24 #[.agg #[.int .i64 asn, .int .i64 cfd, .int .u32 rtr, .int .u32 clt, .slice QA qn qc, .slice na nn nc, .slice g0 m0 c0, .slice g1 m1 c1, .slice g2 m2 c2, .slice g3 m3 c3, .int .i64 d0, .int .i64 d1, .int .i64 d2, .int .i64 d3, .int .i64 mul], .agg #[.int .u32 rpa, .int .i64 rpl, .int .i64 og, .slice pA pn pc, .int .u32 hop, .bool hm, .int .i64 med, .bool hp, .int .i64 pref, .bool atm, .bool ha, .int .i64 aas, .int .u32 aad, .slice cA cn cc, .bool ho, .int .u32 ori, .slice kA kn kc, .slice uA un uc, .int .i64 rpeer, .int .i64 rkind, .int .u32 rrtr, .bool stale], .int .i64 ti] w (GivesAtt (attrsR ti ps asn cfd rtr clt rpeer rkind rrtr ⟨og, p, hop, hm, med, hp, pref, atm, ha, aas, aad, cm, ho, ori, cl, us⟩) w) := by
  have HQ := Lib.hid hQ
  have HL := Lib.hid hL
  have HQL := Lib.hid hQ.len
  have HSM := Lib.hid hs
  obtain ⟨w1, hw1⟩ : ∃ w1, ((w.alloc (.cells #[.int .i64 asn, .int .i64 cfd, .int .u32 rtr, .int .u32 clt, .slice QA qn qc, .slice na nn nc, .slice g0 m0 c0, .slice g1 m1 c1, .slice g2 m2 c2, .slice g3 m3 c3, .int .i64 d0, .int .i64 d1, .int .i64 d2, .int .i64 d3, .int .i64 mul] 34)).alloc (.cells #[.int .u32 rpa, .int .i64 rpl, .int .i64 og, .slice pA pn pc, .int .u32 hop, .bool hm, .int .i64 med, .bool hp, .int .i64 pref, .bool atm, .bool ha, .int .i64 aas, .int .u32 aad, .slice cA cn cc, .bool ho, .int .u32 ori, .slice kA kn kc, .slice uA un uc, .int .i64 rpeer, .int .i64 rkind, .int .u32 rrtr, .bool stale] 49)).alloc (.cells #[.int .i64 0, .slice none 0 0, .int .u32 0, .bool false, .int .i64 0, .bool false, .int .i64 0, .bool false, .bool false, .int .i64 0, .int .u32 0, .slice none 0 0, .bool false, .int .u32 0, .slice none 0 0, .slice none 0 0] 40) = w1 := ⟨_, rfl⟩
  have hbC : Blk w1 w.heap.size 34 [.int .i64 asn, .int .i64 cfd, .int .u32 rtr, .int .u32 clt, .slice QA qn qc, .slice na nn nc, .slice g0 m0 c0, .slice g1 m1 c1, .slice g2 m2 c2, .slice g3 m3 c3, .int .i64 d0, .int .i64 d1, .int .i64 d2, .int .i64 d3, .int .i64 mul] := by rw [← hw1]; exact ((Blk.new w _ _).keep (belowA _ _)).keep (belowA _ _)
  have hbA : Blk w1 (w.heap.size + 1) 49 [.int .u32 rpa, .int .i64 rpl, .int .i64 og, .slice pA pn pc, .int .u32 hop, .bool hm, .int .i64 med, .bool hp, .int .i64 pref, .bool atm, .bool ha, .int .i64 aas, .int .u32 aad, .slice cA cn cc, .bool ho, .int .u32 ori, .slice kA kn kc, .slice uA un uc, .int .i64 rpeer, .int .i64 rkind, .int .u32 rrtr, .bool stale] := by rw [← hw1]; exact (Blk.new2 w _ _ _).keep (belowA _ _)
  have hbZ : Blk w1 (w.heap.size + 2) 40 [.int .i64 0, .slice none 0 0, .int .u32 0, .bool false, .int .i64 0, .bool false, .int .i64 0, .bool false, .bool false, .int .i64 0, .int .u32 0, .slice none 0 0, .bool false, .int .u32 0, .slice none 0 0, .slice none 0 0] := by
    rw [← hw1]
    have := Blk.new2 (w.alloc (.cells #[.int .i64 asn, .int .i64 cfd, .int .u32 rtr, .int .u32 clt, .slice QA qn qc, .slice na nn nc, .slice g0 m0 c0, .slice g1 m1 c1, .slice g2 m2 c2, .slice g3 m3 c3, .int .i64 d0, .int .i64 d1, .int .i64 d2, .int .i64 d3, .int .i64 mul] 34)) (.cells #[.int .u32 rpa, .int .i64 rpl, .int .i64 og, .slice pA pn pc, .int .u32 hop, .bool hm, .int .i64 med, .bool hp, .int .i64 pref, .bool atm, .bool ha, .int .i64 aas, .int .u32 aad, .slice cA cn cc, .bool ho, .int .u32 ori, .slice kA kn kc, .slice uA un uc, .int .i64 rpeer, .int .i64 rkind, .int .u32 rrtr, .bool stale] 49) 40 #[.int .i64 0, .slice none 0 0, .int .u32 0, .bool false, .int .i64 0, .bool false, .int .i64 0, .bool false, .bool false, .int .i64 0, .int .u32 0, .slice none 0 0, .bool false, .int .u32 0, .slice none 0 0, .slice none 0 0]
    rw [World.size_alloc] at this
    exact this
  have hb1 : Below w.heap.size w w1 := by rw [← hw1]; exact below3 (below3 (belowA _ _) (belowA _ _)) (belowA _ _)
  have hz1 : w.heap.size + 3 ≤ w1.heap.size := by rw [← hw1]; simp
  have HB1 := Lib.hid hb1
  have HKC := Lib.hid hbC
  have HKA := Lib.hid hbA
  have HKZ := Lib.hid hbZ
  have hlt : w.heap.size < w1.heap.size := by omega
  have HC := Lib.hid (has41_any asn cfd rtr clt QA na g0 g1 g2 g3 qn qc nn nc m0 c0 m1 c1 m2 c2 m3 c3 d0 d1 d2 d3 mul ti w1)
  clear hQ hL hs hbC hbA hbZ hb1
  go_enter Try.func24, Try.ntmps24
  go_wp2_with (first | (rw [hw1]; refine wpList_load_blk rfl 34 _ rfl w.heap.size rfl HKC.out _ Try.underlying34 rfl (by kernel_rfl) ?_) | (refine wpList_load_blk rfl 34 _ rfl w.heap.size rfl HKC.out _ Try.underlying34 rfl (by kernel_rfl) ?_))
  refine HC.out.mono ?_
  rintro e w2 ⟨rfl, hb⟩
  have HKC2 := Lib.hid (HKC.out.keep hb)
  have HKA2 := Lib.hid (HKA.out.keep hb)
  have HKZ2 := Lib.hid (HKZ.out.keep hb)
  have HB2 := Lib.hid (HB1.out.trans (hb.mono HB1.out.size))
  have hlt2 : w.heap.size < w2.heap.size := HKC2.out.lt
  clear hb HKC HKA HKZ HB1 hlt hw1 HC
  obtain ⟨hh, hhe⟩ : ∃ b, hasB ti qn = b := ⟨_, rfl⟩
  rw [hhe]
  cases hh
  case false =>
    have HF : Hid (attrsR ti ps asn cfd rtr clt rpeer rkind rrtr ⟨og, p, hop, hm, med, hp, pref, atm, ha, aas, aad, cm, ho, ori, cl, us⟩ = (zeroAtt, 5)) := by show _ = _; unfold attrsR; rw [HQL.out, hhe]; rfl
    obtain ⟨wz, hwz⟩ : ∃ wz, w2.setRow (w.heap.size + 2) #[.int .i64 0, .slice none 0 0, .int .u32 0, .bool false, .int .i64 0, .bool false, .int .i64 0, .bool false, .bool false, .int .i64 0, .int .u32 0, .slice none 0 0, .bool false, .int .u32 0, .slice none 0 0, .slice none 0 0] = wz := ⟨_, rfl⟩
    have HKZ3 : Hid (Blk wz (w.heap.size + 2) 40 [.int .i64 0, .slice none 0 0, .int .u32 0, .bool false, .int .i64 0, .bool false, .int .i64 0, .bool false, .bool false, .int .i64 0, .int .u32 0, .slice none 0 0, .bool false, .int .u32 0, .slice none 0 0, .slice none 0 0]) := by show Blk _ _ _ _; rw [← hwz]; exact HKZ2.out.row _
    have HB3 : Hid (Below w.heap.size w wz) := by show Below _ _ _; rw [← hwz]; exact HB2.out.trans ((Save.row (w.heap.size + 2) w2 _).below (by omega) HB2.out.size)
    clear hhe
    go_wp2_with (refine wpList_store_blk rfl 40 _ _ rfl (w.heap.size + 2) rfl rfl HKZ2.out (by kernel_rfl) rfl (by kernel_rfl) ?_)
    refine bodyPost_ret (results_cell_row2 rfl _ (w.heap.size + 2) _ rfl HKZ3.out Try.underlying40 rfl (by kernel_rfl)) rfl ?_
    rw [HF.out]
    exact ⟨none, none, none, none, 0, 0, 0, 0, 0, 0, 0, 0, rfl, lists_zero _ _, HB3.out⟩
  obtain ⟨j, rfl, hj⟩ := hasB_nat hhe
  have HHE := Lib.hid hhe
  clear hhe
  have hji : (0 : Int) ≤ (j : Int) := by omega
  have hji2 : (j : Int) < (qn : Int) := by omega
  have HC := Lib.hid (may_any asn cfd rtr clt QA na g0 g1 g2 g3 qn qc nn nc m0 c0 m1 c1 m2 c2 m3 c3 d0 d1 d2 d3 mul rpa rpl og hop med pref aas aad ori hm hp atm ha ho pA cA kA uA pn pc cn cc kn kc un uc p us cm cl rpeer rkind rrtr stale (j : Int) ps w2 (Recs.more (Recs.below HQ.out HB2.out) HB2.out.size) (HL.out.grow HB2.out (Nat.le_refl _)))
  go_wp2_with (first | (refine wpList_load_blk rfl 34 _ rfl w.heap.size rfl HKC2.out _ Try.underlying34 rfl (by kernel_rfl) ?_) | (refine wpList_load_blk rfl 49 _ rfl (w.heap.size + 1) rfl HKA2.out _ Try.underlying49 rfl (by kernel_rfl) ?_))
  refine HC.out.mono ?_
  rintro e w3 ⟨rfl, hb⟩
  have HKC3 := Lib.hid (HKC2.out.keep hb)
  have HKA3 := Lib.hid (HKA2.out.keep hb)
  have HKZ3 := Lib.hid (HKZ2.out.keep hb)
  have HB3 := Lib.hid (HB2.out.trans (hb.mono HB2.out.size))
  have hlt3 : w.heap.size < w3.heap.size := HKC3.out.lt
  clear hb HKC2 HKA2 HKZ2 HB2 hlt2 HC
  obtain ⟨hh, hhe⟩ : ∃ b, mayR (j : Int) ps rpeer rkind cm = b := ⟨_, rfl⟩
  rw [hhe]
  cases hh
  case false =>
    have HF : Hid (attrsR (j : Int) ps asn cfd rtr clt rpeer rkind rrtr ⟨og, p, hop, hm, med, hp, pref, atm, ha, aas, aad, cm, ho, ori, cl, us⟩ = (zeroAtt, 18)) := by
      show _ = _
      unfold attrsR
      rw [HQL.out, HHE.out, if_neg (by simp), if_pos hhe]
    obtain ⟨wz, hwz⟩ : ∃ wz, w3.setRow (w.heap.size + 2) #[.int .i64 0, .slice none 0 0, .int .u32 0, .bool false, .int .i64 0, .bool false, .int .i64 0, .bool false, .bool false, .int .i64 0, .int .u32 0, .slice none 0 0, .bool false, .int .u32 0, .slice none 0 0, .slice none 0 0] = wz := ⟨_, rfl⟩
    have HKZ4 : Hid (Blk wz (w.heap.size + 2) 40 [.int .i64 0, .slice none 0 0, .int .u32 0, .bool false, .int .i64 0, .bool false, .int .i64 0, .bool false, .bool false, .int .i64 0, .int .u32 0, .slice none 0 0, .bool false, .int .u32 0, .slice none 0 0, .slice none 0 0]) := by show Blk _ _ _ _; rw [← hwz]; exact HKZ3.out.row _
    have HB4 : Hid (Below w.heap.size w wz) := by show Below _ _ _; rw [← hwz]; exact HB3.out.trans ((Save.row (w.heap.size + 2) w3 _).below (by omega) HB3.out.size)
    clear hhe
    go_wp2_with (refine wpList_store_blk rfl 40 _ _ rfl (w.heap.size + 2) rfl rfl HKZ3.out (by kernel_rfl) rfl (by kernel_rfl) ?_)
    refine bodyPost_ret (results_cell_row2 rfl _ (w.heap.size + 2) _ rfl HKZ4.out Try.underlying40 rfl (by kernel_rfl)) rfl ?_
    rw [HF.out]
    exact ⟨none, none, none, none, 0, 0, 0, 0, 0, 0, 0, 0, rfl, lists_zero _ _, HB4.out⟩
  obtain ⟨qb, qo, q, rfl, hqb, hq, q0, q1, q2, q3, q4, q5, q6, q7, q8, q9, q10⟩ := Peers.get (HQ.out.below HB3.out) hj
  have HF : Hid (attrsR (j : Int) ps asn cfd rtr clt rpeer rkind rrtr ⟨og, p, hop, hm, med, hp, pref, atm, ha, aas, aad, cm, ho, ori, cl, us⟩ = endR (chgR asn cfd rtr clt rpeer rkind rrtr q ⟨og, p, hop, hm, med, hp, pref, atm, ha, aas, aad, cm, ho, ori, cl, us⟩)) := by
    show _ = _
    unfold attrsR
    rw [HQL.out, HHE.out, if_neg (by simp), if_neg (by rw [hhe]; simp), Int.toNat_natCast, hq.out]
  obtain ⟨pk, pas, padr, ploc, pcli, phold, prest, pimp, pexp, pself, pdamp⟩ := q
  dsimp only at q0 q1 q2 q3 q4 q5 q6 q7 q8 q9 q10
  have hqb3 : qb < w3.heap.size := by have := HB3.out.size; omega
  have hlt31 : w.heap.size + 1 < w3.heap.size := HKA3.out.lt
  have r18 := HKA3.out.cell 18
  have cf4 := HKC3.out.cell 4
  simp only [List.getElem?_cons_zero, List.getElem?_cons_succ] at r18 cf4
  clear hhe hq
  obtain ⟨own, hown⟩ : ∃ b, (rpeer == -1) = b := ⟨_, rfl⟩
  go_upto_region 5 with fail
  go_cut [8, 9] (fun p q wx => ∃ b8 b9 : Nat, p = .pointer (some ⟨b8, 0, none⟩) ∧ q = .pointer (some ⟨b9, 0, none⟩) ∧ w3.heap.size ≤ b8 ∧ w3.heap.size ≤ b9 ∧ b8 ≠ b9 ∧ Hid (Blk wx b8 66 [.int .i64 pk, .int .i64 pas, .int .u32 padr, .int .u32 ploc, .bool pcli, .int .i64 phold, .int .i64 prest, .string pimp, .string pexp, .bool pself, .bool pdamp]) ∧ Hid (Blk wx b9 4 [.bool own]) ∧ Below w3.heap.size w3 wx)
  case first =>
    go_region
    all_goals
      go_wp2
      go_meet
    case rel =>
      have h := two_blks w3 66 4 #[.int .i64 pk, .int .i64 pas, .int .u32 padr, .int .u32 ploc, .bool pcli, .int .i64 phold, .int .i64 prest, .string pimp, .string pexp, .bool pself, .bool pdamp] #[.bool own]
      exact ⟨_, _, rfl, rfl, Nat.le_refl _, Nat.le_succ _, by omega, h.1, h.2.1, h.2.2⟩
    case rel =>
      have h := two_blks w3 4 66 #[.bool own] #[.int .i64 pk, .int .i64 pas, .int .u32 padr, .int .u32 ploc, .bool pcli, .int .i64 phold, .int .i64 prest, .string pimp, .string pexp, .bool pself, .bool pdamp]
      exact ⟨_, _, rfl, rfl, Nat.le_succ _, Nat.le_refl _, by omega, h.2.1, h.1, h.2.2⟩
  case rest =>
    obtain ⟨b8, b9, rfl, rfl, hb8, hb9, hb89, HP4, HO4, hb4⟩ := hcut
    have HKC4 := Lib.hid (HKC3.out.keep hb4)
    have HKA4 := Lib.hid (HKA3.out.keep hb4)
    have HKZ4 := Lib.hid (HKZ3.out.keep hb4)
    have HB4 := Lib.hid (HB3.out.trans (hb4.mono HB3.out.size))
    have hlt4 : w.heap.size < wc.heap.size := HKC4.out.lt
    have hzz : w.heap.size + 2 < w3.heap.size := HKZ3.out.lt
    clear HKC3 HKA3 HKZ3 HB3 hlt3 hlt31 hb4 q0 q1 q2 q3 q4 q5 q6 q7 q8 q9 q10 r18 cf4 hqb3
    have hlt41 : w.heap.size + 1 < wc.heap.size := HKA4.out.lt
    have r0 := HKA4.out.cell 0
    have r1 := HKA4.out.cell 1
    have r2 := HKA4.out.cell 2
    have r3 := HKA4.out.cell 3
    have r4 := HKA4.out.cell 4
    have r5 := HKA4.out.cell 5
    have r6 := HKA4.out.cell 6
    have r7 := HKA4.out.cell 7
    have r8 := HKA4.out.cell 8
    have r9 := HKA4.out.cell 9
    have r10 := HKA4.out.cell 10
    have r11 := HKA4.out.cell 11
    have r12 := HKA4.out.cell 12
    have r13 := HKA4.out.cell 13
    have r14 := HKA4.out.cell 14
    have r15 := HKA4.out.cell 15
    have r16 := HKA4.out.cell 16
    have r17 := HKA4.out.cell 17
    have r18 := HKA4.out.cell 18
    have r19 := HKA4.out.cell 19
    have r20 := HKA4.out.cell 20
    have r21 := HKA4.out.cell 21
    simp only [List.getElem?_cons_zero, List.getElem?_cons_succ] at r0 r1 r2 r3 r4 r5 r6 r7 r8 r9 r10 r11 r12 r13 r14 r15 r16 r17 r18 r19 r20 r21
    have HC := Lib.hid (pvcopy_any og hop med pref aas aad ori hm hp atm ha ho pA cA kA uA pn pc cn cc kn kc un uc p us cm cl w.heap.size wc (HL.out.below HB4.out) HB4.out.size (by have := HSM.out; unfold Sm at this; omega) hu)
    go_wp2_with fail
    refine HC.out.mono ?_
    rintro e w5 ⟨pA', cA', kA', uA', pc', cc', kc', uc', rfl, hL5, hb5⟩
    clear r0 r1 r2 r3 r4 r5 r6 r7 r8 r9 r10 r11 r12 r13 r14 r15 r16 r17 r18 r19 r20 r21 HC
    have HZ0 : Hid (Blk (w5.alloc (.cells #[.int .i64 0, .slice none 0 0, .int .u32 0, .bool false, .int .i64 0, .bool false, .int .i64 0, .bool false, .bool false, .int .i64 0, .int .u32 0, .slice none 0 0, .bool false, .int .u32 0, .slice none 0 0, .slice none 0 0] 40)) w5.heap.size 40 [.int .i64 0, .slice none 0 0, .int .u32 0, .bool false, .int .i64 0, .bool false, .int .i64 0, .bool false, .bool false, .int .i64 0, .int .u32 0, .slice none 0 0, .bool false, .int .u32 0, .slice none 0 0, .slice none 0 0]) := Blk.new w5 _ _
    obtain ⟨w6, hw6⟩ : ∃ w6, (w5.alloc (.cells #[.int .i64 0, .slice none 0 0, .int .u32 0, .bool false, .int .i64 0, .bool false, .int .i64 0, .bool false, .bool false, .int .i64 0, .int .u32 0, .slice none 0 0, .bool false, .int .u32 0, .slice none 0 0, .slice none 0 0] 40)).setRow w5.heap.size #[.int .i64 og, .slice pA' pn pc', .int .u32 hop, .bool hm, .int .i64 med, .bool hp, .int .i64 pref, .bool atm, .bool ha, .int .i64 aas, .int .u32 aad, .slice cA' cn cc', .bool ho, .int .u32 ori, .slice kA' kn kc', .slice uA' un uc'] = w6 := ⟨_, rfl⟩
    have hbB : Blk w6 w5.heap.size 40 [.int .i64 og, .slice pA' pn pc', .int .u32 hop, .bool hm, .int .i64 med, .bool hp, .int .i64 pref, .bool atm, .bool ha, .int .i64 aas, .int .u32 aad, .slice cA' cn cc', .bool ho, .int .u32 ori, .slice kA' kn kc', .slice uA' un uc'] := by rw [← hw6]; exact HZ0.out.row _
    have hb6 : Below w5.heap.size w5 w6 := by rw [← hw6]; exact (belowA _ _).trans ((Save.row w5.heap.size _ _).below (Nat.le_refl _) (belowA _ _).size)
    have HBX := Lib.hid hbB
    have h46 := hb5.trans (hb6.mono hb5.size)
    have HKC6 := Lib.hid (HKC4.out.keep h46)
    have HKA6 := Lib.hid (HKA4.out.keep h46)
    have HKZ6 := Lib.hid (HKZ4.out.keep h46)
    have HP6 := Lib.hid (HP4.out.keep h46)
    have HO6 := Lib.hid (HO4.out.keep h46)
    have HB6 := Lib.hid (HB4.out.trans (h46.mono HB4.out.size))
    have hzh : w.heap.size + 2 < wc.heap.size + 2 := by have := HKZ4.out.lt; omega
    obtain ⟨H6, hH6⟩ : ∃ H6, wc.heap.size + 2 = H6 := ⟨_, rfl⟩
    rw [hH6] at hL5 hzh
    clear hH6
    have HL6 : Hid (∀ V, Gap w5.heap.size w.heap.size H6 w6 V → Lists V w5.heap.size pA' cA' kA' uA' pn pc' cn cc' kn kc' un uc' p cm cl us) := fun V hV => (hL5.gap ((Gap.of_below hb6).trans hV)).lists
    have HL6N := Lib.hid (HL6.out w6 (Gap.refl _ _ _ _))
    have hz5 : w.heap.size + 2 < w5.heap.size := by have := hb5.size; have := HKZ4.out.lt; omega
    have hB8 : b8 < w5.heap.size := by have := hb5.size; have := HP4.out.lt; omega
    have hB9 : b9 < w5.heap.size := by have := hb5.size; have := HO4.out.lt; omega
    clear hbB hb6 h46 HKC4 HKA4 HKZ4 HP4 HO4 HB4 hL5 hb5 hlt4 hlt41 HL HQ
    have p0 := HP6.out.cell 0
    simp only [List.getElem?_cons_zero, List.getElem?_cons_succ] at p0
    go_upto_block 0 with (refine wpList_store_blk rfl 40 _ _ rfl w5.heap.size rfl rfl HZ0.out (by kernel_rfl) rfl (by kernel_rfl) ?_)
    clear hw6 HZ0
    go_cut [11] (fun ev wx => AtSw w.heap.size w5.heap.size w (chgR asn cfd rtr clt rpeer rkind rrtr ⟨pk, pas, padr, ploc, pcli, phold, prest, pimp, pexp, pself, pdamp⟩ ⟨og, p, hop, hm, med, hp, pref, atm, ha, aas, aad, cm, ho, ori, cl, us⟩) ev wx)
    case first =>
      have hltB : w5.heap.size < w6.heap.size := HBX.out.lt
      have hlt8 : b8 < w6.heap.size := HP6.out.lt
      have hlt9 : b9 < w6.heap.size := HO6.out.lt
      have hz6 : w.heap.size + 2 < w6.heap.size := HKZ6.out.lt
      cases hk1 : (pk == 1)
      case true =>
        have HG : Hid (chgR asn cfd rtr clt rpeer rkind rrtr ⟨pk, pas, padr, ploc, pcli, phold, prest, pimp, pexp, pself, pdamp⟩ ⟨og, p, hop, hm, med, hp, pref, atm, ha, aas, aad, cm, ho, ori, cl, us⟩ = extR asn cfd rpeer ⟨pk, pas, padr, ploc, pcli, phold, prest, pimp, pexp, pself, pdamp⟩ ⟨og, p, hop, hm, med, hp, pref, atm, ha, aas, aad, cm, ho, ori, cl, us⟩) := by
          show _ = _
          unfold chgR
          rw [if_pos hk1]
        have cf0 := HKC6.out.cell 0
        have cf1 := HKC6.out.cell 1
        have a1 := HBX.out.cell 1
        simp only [List.getElem?_cons_zero, List.getElem?_cons_succ] at cf0 cf1 a1
        have HC := Lib.hid (strip_any pA' pn pc' w5.heap.size p w6 HL6N.out.path (by omega) HSM.out)
        cases hc0 : (cfd == 0)
        case' true =>
          obtain ⟨r8, hr8⟩ : ∃ r8, prependR (stripR p) 2 asn 1 = r8 := ⟨_, rfl⟩
          have HXR : Hid ((extR asn cfd rpeer ⟨pk, pas, padr, ploc, pcli, phold, prest, pimp, pexp, pself, pdamp⟩ ⟨og, p, hop, hm, med, hp, pref, atm, ha, aas, aad, cm, ho, ori, cl, us⟩).1.path = r8.1 ∧ (extR asn cfd rpeer ⟨pk, pas, padr, ploc, pcli, phold, prest, pimp, pexp, pself, pdamp⟩ ⟨og, p, hop, hm, med, hp, pref, atm, ha, aas, aad, cm, ho, ori, cl, us⟩).2 = r8.2) := by show _ ∧ _; unfold extR; dsimp only; rw [if_pos (by simpa using hc0), hr8]; exact ⟨rfl, rfl⟩
        case' false =>
          obtain ⟨r8, hr8⟩ : ∃ r8, prependR (stripR p) 2 cfd 1 = r8 := ⟨_, rfl⟩
          have HXR : Hid ((extR asn cfd rpeer ⟨pk, pas, padr, ploc, pcli, phold, prest, pimp, pexp, pself, pdamp⟩ ⟨og, p, hop, hm, med, hp, pref, atm, ha, aas, aad, cm, ho, ori, cl, us⟩).1.path = r8.1 ∧ (extR asn cfd rpeer ⟨pk, pas, padr, ploc, pcli, phold, prest, pimp, pexp, pself, pdamp⟩ ⟨og, p, hop, hm, med, hp, pref, atm, ha, aas, aad, cm, ho, ori, cl, us⟩).2 = r8.2) := by show _ ∧ _; unfold extR; dsimp only; rw [if_neg (by simpa using hc0), hr8]; exact ⟨rfl, rfl⟩
        all_goals
          have HR8 := Lib.hid hr8
          clear hr8
          go_wp2_with fail
          refine HC.out.mono ?_
          rintro e w7 ⟨S7, m7, k7, rfl, hS7, hb7⟩
          have h7 := hb7.size
          go_wp2_with fail
          with_reducible refine (prepend_any S7 m7 k7 _ 2 _ 1 w7 hS7.segs (sm_strip HSM.out)).mono ?_
          rintro e w8 ⟨S8, m8, k8, rfl, hS8, hb8x⟩
          have hml : m8 ≤ 64 := by have h2 := hS8.len; have h3 := prepend_len (stripR p) 2 asn 1; have h4 := prepend_len (stripR p) 2 cfd 1; omega
          rw [HR8.out] at hS8 ⊢
          clear HC cf0 cf1 a1
          have h68 := hb7.trans (hb8x.mono hb7.size)
          have hB8x := HBX.out.keep h68
          have HS8 := Lib.hid hS8
          have H68 := Lib.hid h68
          have HM8 := Lib.hid hml
          have HBY := Lib.hid hB8x
          have a1 := hB8x.cell 1
          have a2 := hB8x.cell 2
          have a3 := hB8x.cell 3
          have a4 := hB8x.cell 4
          have a5 := hB8x.cell 5
          have a6 := hB8x.cell 6
          have f1 := hB8x.frozen 1
          have f2 := hB8x.frozen 2
          have f3 := hB8x.frozen 3
          have f4 := hB8x.frozen 4
          have f5 := hB8x.frozen 5
          have f6 := hB8x.frozen 6
          have p3 := (HP6.out.keep h68).cell 3
          have o0 := (HO6.out.keep h68).cell 0
          simp only [List.getElem?_cons_zero, List.getElem?_cons_succ] at a1 a2 a3 a4 a5 a6 p3 o0
          have l8 : w5.heap.size < w8.heap.size := hB8x.lt
          have l88 : b8 < w8.heap.size := by have := h68.size; omega
          have l89 : b9 < w8.heap.size := by have := h68.size; omega
          have n8 : b8 ≠ w5.heap.size := by omega
          have n9 : b9 ≠ w5.heap.size := by omega
          have h78 := hb8x.size
          clear hS8 h68 hml hB8x hS7 hb7 hb8x
          cases own
          case' true =>
            obtain ⟨w9, hw9⟩ : ∃ w9, (((w8.setCell ⟨w5.heap.size, 1, none⟩ (.slice S8 m8 k8)).setCell ⟨w5.heap.size, 2, none⟩ (.int .u32 ploc)).setCell ⟨w5.heap.size, 5, none⟩ (.bool false)).setCell ⟨w5.heap.size, 6, none⟩ (.int .i64 0) = w9 := ⟨_, rfl⟩
            have HS9 : Hid (Save w5.heap.size w8 w9) := by show Save _ _ _; rw [← hw9]; exact ((Save.set.trans Save.set).trans Save.set).trans Save.set
            have HB9 : Hid (Blk w9 w5.heap.size 40 [.int .i64 og, .slice S8 m8 k8, .int .u32 ploc, .bool hm, .int .i64 med, .bool false, .int .i64 0, .bool atm, .bool ha, .int .i64 aas, .int .u32 aad, .slice cA' cn cc', .bool ho, .int .u32 ori, .slice kA' kn kc', .slice uA' un uc']) := by
              show Blk _ _ _ _
              rw [← hw9]
              exact (((HBY.out.set 1 _).set 2 _).set 5 _).set 6 _
            have HFIN : Hid (∀ W kk, Blk W w5.heap.size 40 [.int .i64 og, .slice S8 m8 k8, .int .u32 ploc, .bool hm, .int .i64 med, .bool false, .int .i64 0, .bool atm, .bool ha, .int .i64 aas, .int .u32 aad, .slice cA' cn cc', .bool false, .int .u32 0, .slice none 0 kk, .slice uA' un uc'] → Blk W w5.heap.size 40 (attCells (extR asn cfd rpeer ⟨pk, pas, padr, ploc, pcli, phold, prest, pimp, pexp, pself, pdamp⟩ ⟨og, p, hop, hm, med, hp, pref, atm, ha, aas, aad, cm, ho, ori, cl, us⟩).1 S8 cA' none uA' m8 k8 cn cc' 0 kk un uc')) := fun W kk h => by
              unfold attCells extR
              dsimp only
              rw [hown, if_pos rfl, if_pos rfl]
              exact h
          case' false =>
            obtain ⟨w9, hw9⟩ : ∃ w9, (((((w8.setCell ⟨w5.heap.size, 1, none⟩ (.slice S8 m8 k8)).setCell ⟨w5.heap.size, 2, none⟩ (.int .u32 ploc)).setCell ⟨w5.heap.size, 3, none⟩ (.bool false)).setCell ⟨w5.heap.size, 4, none⟩ (.int .i64 0)).setCell ⟨w5.heap.size, 5, none⟩ (.bool false)).setCell ⟨w5.heap.size, 6, none⟩ (.int .i64 0) = w9 := ⟨_, rfl⟩
            have HS9 : Hid (Save w5.heap.size w8 w9) := by show Save _ _ _; rw [← hw9]; exact ((((Save.set.trans Save.set).trans Save.set).trans Save.set).trans Save.set).trans Save.set
            have HB9 : Hid (Blk w9 w5.heap.size 40 [.int .i64 og, .slice S8 m8 k8, .int .u32 ploc, .bool false, .int .i64 0, .bool false, .int .i64 0, .bool atm, .bool ha, .int .i64 aas, .int .u32 aad, .slice cA' cn cc', .bool ho, .int .u32 ori, .slice kA' kn kc', .slice uA' un uc']) := by
              show Blk _ _ _ _
              rw [← hw9]
              exact (((((HBY.out.set 1 _).set 2 _).set 3 _).set 4 _).set 5 _).set 6 _
            have HFIN : Hid (∀ W kk, Blk W w5.heap.size 40 [.int .i64 og, .slice S8 m8 k8, .int .u32 ploc, .bool false, .int .i64 0, .bool false, .int .i64 0, .bool atm, .bool ha, .int .i64 aas, .int .u32 aad, .slice cA' cn cc', .bool false, .int .u32 0, .slice none 0 kk, .slice uA' un uc'] → Blk W w5.heap.size 40 (attCells (extR asn cfd rpeer ⟨pk, pas, padr, ploc, pcli, phold, prest, pimp, pexp, pself, pdamp⟩ ⟨og, p, hop, hm, med, hp, pref, atm, ha, aas, aad, cm, ho, ori, cl, us⟩).1 S8 cA' none uA' m8 k8 cn cc' 0 kk un uc')) := fun W kk h => by
              unfold attCells extR
              dsimp only
              rw [hown, if_neg (by simp), if_neg (by simp)]
              exact h
          all_goals
            go_wp2_with fail
            with_reducible refine (outside_any _ _ _ _ _ _ _ _ _ _ _ _ _ _ _ _ _ _ _ _ _ _ _ _ p us cm cl w5.heap.size w9 HB9.out).mono ?_
            rintro e w10 ⟨rfl, hb10, hs10⟩
            have hsv := HS9.out.trans hs10
            have hbw : Below w5.heap.size w6 w10 := (H68.out.mono (Nat.le_of_lt hltB)).trans (hsv.below (Nat.le_refl _) (Nat.le_of_lt l8))
            have HEND := Lib.hid (atSw_end (r := extR asn cfd rpeer ⟨pk, pas, padr, ploc, pcli, phold, prest, pimp, pexp, pself, pdamp⟩ ⟨og, p, hop, hm, med, hp, pref, atm, ha, aas, aad, cm, ho, ori, cl, us⟩) (ev := .int .i64 r8.2) HKZ6.out hz5 HB6.out hbw (HFIN.out _ _ hb10)
              (fun V hV => ⟨by rw [HXR.out.1]; exact HS8.out.over (g := w7.heap.size) ((Over.of_save hsv (by omega)).trans (Over.of_save hV (by omega))) (Nat.le_refl _) (Nat.le_refl _), (HL6.out V ((Gap.of_below hbw).trans (Gap.of_save hV ⟨by omega, hzh⟩ (Nat.le_trans (Nat.le_of_lt l8) hsv.size)))).comm.more (Nat.le_trans (Nat.le_trans (Nat.le_of_lt l8) hsv.size) hV.size), Ints.nil _ _ _, (HL6.out V ((Gap.of_below hbw).trans (Gap.of_save hV ⟨by omega, hzh⟩ (Nat.le_trans (Nat.le_of_lt l8) hsv.size)))).unk.more (Nat.le_trans (Nat.le_trans (Nat.le_of_lt l8) hsv.size) hV.size), by have := HM8.out; omega, HL6N.out.small.2.1, by omega, HL6N.out.small.2.2.2⟩) (by rw [HXR.out.2]))
            clear hb10 hs10 hsv hbw HS9 HB9 HFIN
            go_wp2_with fail
            go_meet
            rw [HG.out]
            exact HEND.out
      cases hk2 : (pk == 2)
      case true =>
        have HG : Hid (chgR asn cfd rtr clt rpeer rkind rrtr ⟨pk, pas, padr, ploc, pcli, phold, prest, pimp, pexp, pself, pdamp⟩ ⟨og, p, hop, hm, med, hp, pref, atm, ha, aas, aad, cm, ho, ori, cl, us⟩ = confR asn rpeer ⟨pk, pas, padr, ploc, pcli, phold, prest, pimp, pexp, pself, pdamp⟩ ⟨og, p, hop, hm, med, hp, pref, atm, ha, aas, aad, cm, ho, ori, cl, us⟩) := by
          show _ = _
          unfold chgR
          rw [if_neg (by rw [hk1]; simp), if_pos hk2]
        obtain ⟨r8, hr8⟩ : ∃ r8, prependR p 3 asn 1 = r8 := ⟨_, rfl⟩
        have HR8 := Lib.hid hr8
        have cf0 := HKC6.out.cell 0
        have a1 := HBX.out.cell 1
        simp only [List.getElem?_cons_zero, List.getElem?_cons_succ] at cf0 a1
        clear hr8
        go_wp2_with fail
        with_reducible refine (prepend_any pA' pn pc' p 3 asn 1 w6 (HL6N.out.path.more (Nat.le_of_lt hltB)) HSM.out).mono ?_
        rintro e w8 ⟨S8, m8, k8, rfl, hS8, h68⟩
        have hml : m8 ≤ 64 := by have h2 := hS8.len; have h3 := prepend_len p 3 asn 1; omega
        rw [HR8.out] at hS8 ⊢
        clear cf0 a1
        have hB8x := HBX.out.keep h68
        have HS8 := Lib.hid hS8
        have H68 := Lib.hid h68
        have HM8 := Lib.hid hml
        have a1 := hB8x.cell 1
        have f1 := hB8x.frozen 1
        simp only [List.getElem?_cons_zero, List.getElem?_cons_succ] at a1
        have l8 : w5.heap.size < w8.heap.size := hB8x.lt
        have n8 : b8 ≠ w5.heap.size := by omega
        have n9 : b9 ≠ w5.heap.size := by omega
        obtain ⟨w9, hw9⟩ : ∃ w9, w8.setCell ⟨w5.heap.size, 1, none⟩ (.slice S8 m8 k8) = w9 := ⟨_, rfl⟩
        have hs9 : Save w5.heap.size w8 w9 := by rw [← hw9]; exact Save.set
        have HS9 := Lib.hid hs9
        have HB9 : Hid (Blk w9 w5.heap.size 40 [.int .i64 og, .slice S8 m8 k8, .int .u32 hop, .bool hm, .int .i64 med, .bool hp, .int .i64 pref, .bool atm, .bool ha, .int .i64 aas, .int .u32 aad, .slice cA' cn cc', .bool ho, .int .u32 ori, .slice kA' kn kc', .slice uA' un uc']) := by
          show Blk _ _ _ _
          rw [← hw9]
          exact hB8x.set 1 _
        have HP9 := Lib.hid ((HP6.out.keep h68).save hs9 n8)
        have HO9 := Lib.hid ((HO6.out.keep h68).save hs9 n9)
        clear hS8 h68 hml hB8x hs9
        go_wp2_with fail
        with_reducible refine (self_any _ _ _ _ _ _ _ _ _ _ _ _ _ _ _ _ _ _ _ _ _ _ _ _ p us cm cl pk pas padr ploc pcli phold prest pimp pexp pself pdamp own b8 b9 w5.heap.size w9 HB9.out HP9.out HO9.out).mono ?_
        rintro e w10 ⟨rfl, hb10, hs10⟩
        clear a1 f1 hw9
        go_wp2_with fail
        with_reducible refine (preferred_any _ _ _ _ _ _ _ _ _ _ _ _ _ _ _ _ _ _ _ _ _ _ _ _ p us cm cl w5.heap.size w10 hb10).mono ?_
        rintro e w11 ⟨rfl, hb11, hs11⟩
        go_wp2_with fail
        with_reducible refine (outside_any _ _ _ _ _ _ _ _ _ _ _ _ _ _ _ _ _ _ _ _ _ _ _ _ p us cm cl w5.heap.size w11 hb11).mono ?_
        rintro e w12 ⟨rfl, hb12, hs12⟩
        have hsv := ((HS9.out.trans hs10).trans hs11).trans hs12
        have hbw : Below w5.heap.size w6 w12 := (H68.out.mono (Nat.le_of_lt hltB)).trans (hsv.below (Nat.le_refl _) (Nat.le_of_lt l8))
        have HFIN : Hid (Blk w12 w5.heap.size 40 (attCells (confR asn rpeer ⟨pk, pas, padr, ploc, pcli, phold, prest, pimp, pexp, pself, pdamp⟩ ⟨og, p, hop, hm, med, hp, pref, atm, ha, aas, aad, cm, ho, ori, cl, us⟩).1 S8 cA' none uA' m8 k8 cn cc' 0 0 un uc')) := by
          show Blk _ _ _ _
          unfold attCells confR
          dsimp only
          rw [hown]
          exact hb12
        have HEND := Lib.hid (atSw_end (r := confR asn rpeer ⟨pk, pas, padr, ploc, pcli, phold, prest, pimp, pexp, pself, pdamp⟩ ⟨og, p, hop, hm, med, hp, pref, atm, ha, aas, aad, cm, ho, ori, cl, us⟩) (ev := .int .i64 r8.2) HKZ6.out hz5 HB6.out hbw HFIN.out
          (fun V hV => ⟨by unfold confR; dsimp only; rw [HR8.out]; exact HS8.out.over (g := w6.heap.size) ((Over.of_save hsv (by omega)).trans (Over.of_save hV (by omega))) (Nat.le_refl _) (Nat.le_refl _), (HL6.out V ((Gap.of_below hbw).trans (Gap.of_save hV ⟨by omega, hzh⟩ (Nat.le_trans (Nat.le_of_lt l8) hsv.size)))).comm.more (Nat.le_trans (Nat.le_trans (Nat.le_of_lt l8) hsv.size) hV.size), Ints.nil _ _ _, (HL6.out V ((Gap.of_below hbw).trans (Gap.of_save hV ⟨by omega, hzh⟩ (Nat.le_trans (Nat.le_of_lt l8) hsv.size)))).unk.more (Nat.le_trans (Nat.le_trans (Nat.le_of_lt l8) hsv.size) hV.size), by have := HM8.out; omega, HL6N.out.small.2.1, by omega, HL6N.out.small.2.2.2⟩) (by unfold confR; dsimp only; rw [HR8.out]))
        clear hb10 hs10 hb11 hs11 hb12 hs12 hsv hbw HS9 HB9 HFIN HP9 HO9
        go_wp2_with fail
        go_meet
        rw [HG.out]
        exact HEND.out
      have HCR := Lib.hid (reflected_any rpa rpl og hop med pref aas aad ori hm hp atm ha ho pA cA kA uA pn pc cn cc kn kc un uc p us cm cl rpeer rkind rrtr stale pk pas padr ploc pcli phold prest pimp pexp pself pdamp w6)
      go_wp2_with (first | (refine wpList_load_blk rfl 49 _ rfl (w.heap.size + 1) rfl HKA6.out _ Try.underlying49 rfl (by kernel_rfl) ?_) | (refine wpList_load_blk rfl 66 _ rfl b8 rfl HP6.out _ Try.underlying66 rfl (by kernel_rfl) ?_))
      refine HCR.out.mono ?_
      rintro e w7 ⟨rfl, h67⟩
      clear HCR p0
      have HB7 := Lib.hid (HBX.out.keep h67)
      have HP7 := Lib.hid (HP6.out.keep h67)
      have HO7 := Lib.hid (HO6.out.keep h67)
      have H67 := Lib.hid h67
      have l7 : w5.heap.size < w7.heap.size := HB7.out.lt
      have l78 : b8 < w7.heap.size := HP7.out.lt
      have p0 := HP7.out.cell 0
      simp only [List.getElem?_cons_zero, List.getElem?_cons_succ] at p0
      obtain ⟨rb, hrb⟩ : ∃ b, reflB rkind pk = b := ⟨_, rfl⟩
      rw [hrb]
      cases rb
      case false =>
        cases hk3 : (pk == 3)
        case true =>
          have HG : Hid (chgR asn cfd rtr clt rpeer rkind rrtr ⟨pk, pas, padr, ploc, pcli, phold, prest, pimp, pexp, pself, pdamp⟩ ⟨og, p, hop, hm, med, hp, pref, atm, ha, aas, aad, cm, ho, ori, cl, us⟩ = intrR rpeer ⟨pk, pas, padr, ploc, pcli, phold, prest, pimp, pexp, pself, pdamp⟩ ⟨og, p, hop, hm, med, hp, pref, atm, ha, aas, aad, cm, ho, ori, cl, us⟩) := by
            show _ = _
            unfold chgR
            rw [if_neg (by rw [hk1]; simp), if_neg (by rw [hk2]; simp), if_neg (by rw [hrb]; simp), if_pos hk3]
          clear h67
          go_wp2_with fail
          with_reducible refine (preferred_any _ _ _ _ _ _ _ _ _ _ _ _ _ _ _ _ _ _ _ _ _ _ _ _ p us cm cl w5.heap.size w7 HB7.out).mono ?_
          rintro e w9 ⟨rfl, hb9x, hs9⟩
          have HP9 := Lib.hid (HP7.out.save hs9 (by omega))
          have HO9 := Lib.hid (HO7.out.save hs9 (by omega))
          clear p0
          go_wp2_with fail
          with_reducible refine (self_any _ _ _ _ _ _ _ _ _ _ _ _ _ _ _ _ _ _ _ _ _ _ _ _ p us cm cl pk pas padr ploc pcli phold prest pimp pexp pself pdamp own b8 b9 w5.heap.size w9 hb9x HP9.out HO9.out).mono ?_
          rintro e w10 ⟨rfl, hb10, hs10⟩
          go_wp2_with fail
          with_reducible refine (outside_any _ _ _ _ _ _ _ _ _ _ _ _ _ _ _ _ _ _ _ _ _ _ _ _ p us cm cl w5.heap.size w10 hb10).mono ?_
          rintro e w12 ⟨rfl, hb12, hs12⟩
          have hsv := (hs9.trans hs10).trans hs12
          have hbw : Below w5.heap.size w6 w12 := (H67.out.mono (Nat.le_of_lt hltB)).trans (hsv.below (Nat.le_refl _) (Nat.le_of_lt l7))
          have HFIN : Hid (Blk w12 w5.heap.size 40 (attCells (intrR rpeer ⟨pk, pas, padr, ploc, pcli, phold, prest, pimp, pexp, pself, pdamp⟩ ⟨og, p, hop, hm, med, hp, pref, atm, ha, aas, aad, cm, ho, ori, cl, us⟩).1 pA' cA' none uA' pn pc' cn cc' 0 0 un uc')) := by
            show Blk _ _ _ _
            unfold attCells intrR
            dsimp only
            rw [hown]
            exact hb12
          have HLW := fun V (hV : Save (w.heap.size + 2) w12 V) => HL6.out V ((Gap.of_below hbw).trans (Gap.of_save hV ⟨by omega, hzh⟩ (Nat.le_trans (Nat.le_of_lt l7) hsv.size)))
          have hmo : w5.heap.size ≤ w12.heap.size := Nat.le_trans (Nat.le_of_lt l7) hsv.size
          have HEND := Lib.hid (atSw_end (r := intrR rpeer ⟨pk, pas, padr, ploc, pcli, phold, prest, pimp, pexp, pself, pdamp⟩ ⟨og, p, hop, hm, med, hp, pref, atm, ha, aas, aad, cm, ho, ori, cl, us⟩) (ev := .int .i64 0) HKZ6.out hz5 HB6.out hbw HFIN.out
            (fun V hV => ⟨(HLW V hV).path.more (Nat.le_trans hmo hV.size), (HLW V hV).comm.more (Nat.le_trans hmo hV.size), Ints.nil _ _ _, (HLW V hV).unk.more (Nat.le_trans hmo hV.size), HL6N.out.small.1, HL6N.out.small.2.1, by omega, HL6N.out.small.2.2.2⟩) rfl)
          clear hb9x hs9 hb10 hs10 hb12 hs12 hsv hbw HFIN HP9 HO9 HLW hmo
          go_wp2_with fail
          go_meet
          rw [HG.out]
          exact HEND.out
        have HG : Hid (chgR asn cfd rtr clt rpeer rkind rrtr ⟨pk, pas, padr, ploc, pcli, phold, prest, pimp, pexp, pself, pdamp⟩ ⟨og, p, hop, hm, med, hp, pref, atm, ha, aas, aad, cm, ho, ori, cl, us⟩ = (⟨og, p, hop, hm, med, hp, pref, atm, ha, aas, aad, cm, ho, ori, cl, us⟩, 0)) := by
          show _ = _
          unfold chgR
          rw [if_neg (by rw [hk1]; simp), if_neg (by rw [hk2]; simp), if_neg (by rw [hrb]; simp), if_neg (by rw [hk3]; simp)]
        have HLW := fun V (hV : Save (w.heap.size + 2) w7 V) => HL6.out V ((Gap.of_below (h67.mono (Nat.le_of_lt hltB))).trans (Gap.of_save hV ⟨by omega, hzh⟩ (Nat.le_of_lt l7)))
        have HEND := Lib.hid (atSw_end (r := (⟨og, p, hop, hm, med, hp, pref, atm, ha, aas, aad, cm, ho, ori, cl, us⟩, 0)) (ev := .int .i64 0) HKZ6.out hz5 HB6.out (h67.mono (Nat.le_of_lt hltB)) HB7.out (fun V hV => (HLW V hV).more (Nat.le_trans (Nat.le_of_lt l7) hV.size)) rfl)
        clear HLW h67
        go_wp2_with fail
        go_meet
        rw [HG.out]
        exact HEND.out
      case true =>
        have HG : Hid (chgR asn cfd rtr clt rpeer rkind rrtr ⟨pk, pas, padr, ploc, pcli, phold, prest, pimp, pexp, pself, pdamp⟩ ⟨og, p, hop, hm, med, hp, pref, atm, ha, aas, aad, cm, ho, ori, cl, us⟩ = reflR rtr clt rrtr ⟨og, p, hop, hm, med, hp, pref, atm, ha, aas, aad, cm, ho, ori, cl, us⟩) := by
          show _ = _
          unfold chgR
          rw [if_neg (by rw [hk1]; simp), if_neg (by rw [hk2]; simp), if_pos hrb]
        have HKA7 := Lib.hid (HKA6.out.keep h67)
        have HKC7 := Lib.hid (HKC6.out.keep h67)
        clear h67
        go_wp2_with fail
        with_reducible refine (preferred_any _ _ _ _ _ _ _ _ _ _ _ _ _ _ _ _ _ _ _ _ _ _ _ _ p us cm cl w5.heap.size w7 HB7.out).mono ?_
        rintro e w8 ⟨rfl, hb8x, hs8⟩
        have HKA8 := Lib.hid (HKA7.out.save hs8 (by omega))
        have HKC8 := Lib.hid (HKC7.out.save hs8 (by omega))
        have HS8 := Lib.hid hs8
        have HB8 := Lib.hid hb8x
        have a12 := hb8x.cell 12
        have a13 := hb8x.cell 13
        have f12 := hb8x.frozen 12
        have f13 := hb8x.frozen 13
        have r20 := HKA8.out.cell 20
        simp only [List.getElem?_cons_zero, List.getElem?_cons_succ] at a12 a13 r20
        have l8 : w5.heap.size < w8.heap.size := hb8x.lt
        have l8A : w.heap.size + 1 < w8.heap.size := HKA8.out.lt
        have nA : w.heap.size + 1 ≠ w5.heap.size := by omega
        clear p0 hb8x hs8
        go_upto_if 98 with fail
        go_cut [] (fun wx => ∃ ory, Hid ((if ho = true then ori else rrtr) = ory) ∧ Hid (Blk wx w5.heap.size 40 [.int .i64 og, .slice pA' pn pc', .int .u32 hop, .bool hm, .int .i64 med, .bool true, .int .i64 (if hp = true then pref else 100), .bool atm, .bool ha, .int .i64 aas, .int .u32 aad, .slice cA' cn cc', .bool true, .int .u32 ory, .slice kA' kn kc', .slice uA' un uc']) ∧ Hid (Save w5.heap.size w8 wx))
        case first =>
          cases ho
          case true =>
            go_wp2
            go_meet
            exact ⟨ori, rfl, HB8, Save.refl _ _⟩
          case false =>
            go_upto_region 28 with fail
            go_region
            all_goals
              go_wp2
              go_meet
            all_goals first
              | exact ⟨rrtr, rfl, (HB8.out.set 12 _).set 13 _, (Save.set.trans Save.set).trans Save.drew⟩
              | exact ⟨rrtr, rfl, (HB8.out.set 13 _).set 12 _, (Save.set.trans Save.set).trans Save.drew⟩
        case rest =>
          obtain ⟨ory, HORY, HB9, HS9⟩ := hcut
          have l9 : w5.heap.size < wc.heap.size := HB9.out.lt
          have hsv := HS8.out.trans HS9.out
          have HKC9 := Lib.hid (HKC8.out.save HS9.out (by omega))
          have HB69 : Hid (Below w5.heap.size w6 wc) := (H67.out.mono (Nat.le_of_lt hltB)).trans (hsv.below (Nat.le_refl _) (Nat.le_of_lt l7))
          have HCL : Hid (Ints wc w5.heap.size .u32 kA' kn kc' cl) := (HL6.out wc (Gap.of_below HB69.out)).clus
          have HB14 : Hid (∀ V, Below wc.heap.size wc V → V.cell? ⟨w5.heap.size, 14, none⟩ = some (.slice kA' kn kc')) := fun V h => (HB9.out.keep h).cell 14
          have HS : Hid (∀ V, Below wc.heap.size wc V → V.cell? ⟨w.heap.size, 0, none⟩ = some (.int .i64 asn) ∧ V.cell? ⟨w.heap.size, 1, none⟩ = some (.int .i64 cfd) ∧ V.cell? ⟨w.heap.size, 2, none⟩ = some (.int .u32 rtr) ∧ V.cell? ⟨w.heap.size, 3, none⟩ = some (.int .u32 clt) ∧ V.cell? ⟨w.heap.size, 4, none⟩ = some (.slice (some ⟨qb, qo, none⟩) qn qc) ∧ V.cell? ⟨w.heap.size, 5, none⟩ = some (.slice na nn nc) ∧ V.cell? ⟨w.heap.size, 6, none⟩ = some (.slice g0 m0 c0) ∧ V.cell? ⟨w.heap.size, 7, none⟩ = some (.slice g1 m1 c1) ∧ V.cell? ⟨w.heap.size, 8, none⟩ = some (.slice g2 m2 c2) ∧ V.cell? ⟨w.heap.size, 9, none⟩ = some (.slice g3 m3 c3) ∧ V.cell? ⟨w.heap.size, 10, none⟩ = some (.int .i64 d0) ∧ V.cell? ⟨w.heap.size, 11, none⟩ = some (.int .i64 d1) ∧ V.cell? ⟨w.heap.size, 12, none⟩ = some (.int .i64 d2) ∧ V.cell? ⟨w.heap.size, 13, none⟩ = some (.int .i64 d3) ∧ V.cell? ⟨w.heap.size, 14, none⟩ = some (.int .i64 mul)) := fun V h => by
            have hk := HKC9.out.keep h
            exact ⟨hk.cell 0, hk.cell 1, hk.cell 2, hk.cell 3, hk.cell 4, hk.cell 5, hk.cell 6, hk.cell 7, hk.cell 8, hk.cell 9, hk.cell 10, hk.cell 11, hk.cell 12, hk.cell 13, hk.cell 14⟩
          have HCUR : Hid (Below wc.heap.size wc wc.drew) := (Below.refl _ _).drew
          clear a12 a13 f12 f13 r20 l8A nA hsv HKC6 HKC7 HKC8 HKA7 HKA8 HKA6 HBX HB7 HB8
          go_upto_region 29 with fail
          refine wp_region_noPanic ?_
          refine wp_region_held_drew (S := fun V => V.cell? ⟨w.heap.size, 0, none⟩ = some (.int .i64 asn) ∧ V.cell? ⟨w.heap.size, 1, none⟩ = some (.int .i64 cfd) ∧ V.cell? ⟨w.heap.size, 2, none⟩ = some (.int .u32 rtr) ∧ V.cell? ⟨w.heap.size, 3, none⟩ = some (.int .u32 clt) ∧ V.cell? ⟨w.heap.size, 4, none⟩ = some (.slice (some ⟨qb, qo, none⟩) qn qc) ∧ V.cell? ⟨w.heap.size, 5, none⟩ = some (.slice na nn nc) ∧ V.cell? ⟨w.heap.size, 6, none⟩ = some (.slice g0 m0 c0) ∧ V.cell? ⟨w.heap.size, 7, none⟩ = some (.slice g1 m1 c1) ∧ V.cell? ⟨w.heap.size, 8, none⟩ = some (.slice g2 m2 c2) ∧ V.cell? ⟨w.heap.size, 9, none⟩ = some (.slice g3 m3 c3) ∧ V.cell? ⟨w.heap.size, 10, none⟩ = some (.int .i64 d0) ∧ V.cell? ⟨w.heap.size, 11, none⟩ = some (.int .i64 d1) ∧ V.cell? ⟨w.heap.size, 12, none⟩ = some (.int .i64 d2) ∧ V.cell? ⟨w.heap.size, 13, none⟩ = some (.int .i64 d3) ∧ V.cell? ⟨w.heap.size, 14, none⟩ = some (.int .i64 mul)) (by kernel_rfl) (HS.out _ HCUR.out) (fun hHeld => ?_)
          refine take_in (i := 0) _ (some 103) (by kernel_rfl) (by kernel_rfl) (by kernel_rfl) (by kernel_rfl) (fun _ _ _ h => h) (by rfl) (fun o ho w hSw => by cases ho; (try dsimp only at hSw); (try go_split_ands); go_simp; (try with_reducible rfl)) hHeld ?_
          try simp only [Act.put, List.setIfInBounds_toArray, List.set_cons_zero, List.set_cons_succ]
          refine take_in (i := 2) _ (some 105) (by kernel_rfl) (by kernel_rfl) (by kernel_rfl) (by kernel_rfl) (fun _ _ _ h => h) (by rfl) (fun o ho w hSw => by cases ho; (try dsimp only at hSw); (try go_split_ands); go_simp; (try with_reducible rfl)) hHeld ?_
          try simp only [Act.put, List.setIfInBounds_toArray, List.set_cons_zero, List.set_cons_succ]
          refine wpAnyH_ready (rs := [1, 3]) (by kernel_rfl) (by simp) ?_
          refine AllReadyH.cons (o := _) rfl (fun K hK => ?_) (AllReadyH.cons (o := _) rfl (fun K hK => ?_) AllReadyH.nil)
          · have a14 := HB14.out _ HCUR.out
            go_simp
            clear a14
            refine hK.out _ _ (HS.out _ HCUR.out) (fun hHeld => ?_)
            clear hK K
            try simp only [Act.put, List.setIfInBounds_toArray, List.set_cons_zero, List.set_cons_succ]
            refine wpAnyH_ready (rs := [3]) (by kernel_rfl) (by simp) ?_
            refine AllReadyH.cons (o := _) rfl (fun K hK => ?_) AllReadyH.nil
            go_simp
            go_at_call 36
            with_reducible refine (cluster_any asn cfd rtr clt (some ⟨qb, qo, none⟩) na g0 g1 g2 g3 qn qc nn nc m0 c0 m1 c1 m2 c2 m3 c3 d0 d1 d2 d3 mul _).mono ?_
            rintro e wX ⟨rfl, hbX⟩
            have HCUR2 := Lib.hid (below3 HCUR.out hbX)
            clear hbX HCUR
            have HCUR := HCUR2
            clear HCUR2
            refine hK.out _ _ (HS.out _ HCUR.out) (fun hHeld => ?_)
            clear hK K
            try simp only [Act.put, List.setIfInBounds_toArray, List.set_cons_zero, List.set_cons_succ]
            refine wpAnyH_ready (rs := [4]) (by kernel_rfl) (by simp) ?_
            refine AllReadyH.cons (o := _) rfl (fun K hK => ?_) AllReadyH.nil
            go_simp
            have HCX := HCUR
            have HF1 : Hid (Ints (wX.alloc (.cells #[.int .u32 (clusterR clt rtr)] 22)) (wX.alloc (.cells #[.int .u32 (clusterR clt rtr)] 22)).heap.size .u32 (some ⟨wX.heap.size, 0, none⟩) 1 1 [clusterR clt rtr]) := ints_lit wX 22 .u32 1 [clusterR clt rtr] rfl (by simp [maxLen]) _ (by simp)
            have HCUR2 := Lib.hid (below3 HCUR.out (belowA wX (.cells #[.int .u32 (clusterR clt rtr)] 22)))
            clear HCUR
            have HCUR := HCUR2
            clear HCUR2
            refine hK.out _ _ (HS.out _ HCUR.out) (fun hHeld => ?_)
            clear hK K
            try simp only [Act.put, List.setIfInBounds_toArray, List.set_cons_zero, List.set_cons_succ]
            refine wpAnyH_ready (rs := [5]) (by kernel_rfl) (by simp) ?_
            refine AllReadyH.cons (o := _) rfl (fun K hK => ?_) AllReadyH.nil
            go_simp
            go_at_call 44
            with_reducible refine (dupl_any kA' _ kn kc' 1 1 _ cl _ _ ((HCL.out.below (HCUR.out.mono (Nat.le_of_lt l9))).more (Nat.le_trans (Nat.le_of_lt l9) HCUR.out.size)) HF1.out (Nat.le_refl _) (by omega) (by omega)).mono ?_
            rintro e wY ⟨D5, d5, rfl, hi5, hab5, hb5⟩
            have hcy := below3 HCUR.out hb5
            have HKY := HB9.out.keep hcy
            have fz := HKY.frozen 14
            have a14 := HKY.cell 14
            simp only [List.getElem?_cons_zero, List.getElem?_cons_succ] at a14
            have lY : w5.heap.size < wY.heap.size := HKY.lt
            obtain ⟨wZ, hwZ⟩ : ∃ wZ, wY.setCell ⟨w5.heap.size, 14, none⟩ (.slice D5 (1 + kn) d5) = wZ := ⟨_, rfl⟩
            have hsZ : Save w5.heap.size wY wZ := by rw [← hwZ]; exact Save.set
            have HBZ : Hid (Blk wZ w5.heap.size 40 [.int .i64 og, .slice pA' pn pc', .int .u32 hop, .bool hm, .int .i64 med, .bool true, .int .i64 (if hp = true then pref else 100), .bool atm, .bool ha, .int .i64 aas, .int .u32 aad, .slice cA' cn cc', .bool true, .int .u32 ory, .slice D5 (1 + kn) d5, .slice uA' un uc']) := by
              show Blk _ _ _ _
              rw [← hwZ]
              exact HKY.set 14 _
            have HI5 : Hid (∀ V, Over (w5.heap.size + 1) wZ V → Ints V V.heap.size .u32 D5 (1 + kn) d5 (clusterR clt rtr :: cl)) := fun V hV => cells_over hi5 ((Over.of_save hsZ (Nat.lt_succ_self _)).trans hV) fun hn ad e => by have h1 := hab5 hn ad e; have h2 := HCUR.out.size; omega
            have HBWZ : Hid (Below w5.heap.size w6 wZ) := (HB69.out.trans (hcy.mono (Nat.le_of_lt l9))).trans (hsZ.below (Nat.le_refl _) (Nat.le_of_lt lY))
            have HSC := Lib.hid (HS.out _ hcy)
            have HSZ : Hid (wZ.cell? ⟨w.heap.size, 0, none⟩ = some (.int .i64 asn) ∧ wZ.cell? ⟨w.heap.size, 1, none⟩ = some (.int .i64 cfd) ∧ wZ.cell? ⟨w.heap.size, 2, none⟩ = some (.int .u32 rtr) ∧ wZ.cell? ⟨w.heap.size, 3, none⟩ = some (.int .u32 clt) ∧ wZ.cell? ⟨w.heap.size, 4, none⟩ = some (.slice (some ⟨qb, qo, none⟩) qn qc) ∧ wZ.cell? ⟨w.heap.size, 5, none⟩ = some (.slice na nn nc) ∧ wZ.cell? ⟨w.heap.size, 6, none⟩ = some (.slice g0 m0 c0) ∧ wZ.cell? ⟨w.heap.size, 7, none⟩ = some (.slice g1 m1 c1) ∧ wZ.cell? ⟨w.heap.size, 8, none⟩ = some (.slice g2 m2 c2) ∧ wZ.cell? ⟨w.heap.size, 9, none⟩ = some (.slice g3 m3 c3) ∧ wZ.cell? ⟨w.heap.size, 10, none⟩ = some (.int .i64 d0) ∧ wZ.cell? ⟨w.heap.size, 11, none⟩ = some (.int .i64 d1) ∧ wZ.cell? ⟨w.heap.size, 12, none⟩ = some (.int .i64 d2) ∧ wZ.cell? ⟨w.heap.size, 13, none⟩ = some (.int .i64 d3) ∧ wZ.cell? ⟨w.heap.size, 14, none⟩ = some (.int .i64 mul)) := by
              show wZ.cell? ⟨w.heap.size, 0, none⟩ = some (.int .i64 asn) ∧ wZ.cell? ⟨w.heap.size, 1, none⟩ = some (.int .i64 cfd) ∧ wZ.cell? ⟨w.heap.size, 2, none⟩ = some (.int .u32 rtr) ∧ wZ.cell? ⟨w.heap.size, 3, none⟩ = some (.int .u32 clt) ∧ wZ.cell? ⟨w.heap.size, 4, none⟩ = some (.slice (some ⟨qb, qo, none⟩) qn qc) ∧ wZ.cell? ⟨w.heap.size, 5, none⟩ = some (.slice na nn nc) ∧ wZ.cell? ⟨w.heap.size, 6, none⟩ = some (.slice g0 m0 c0) ∧ wZ.cell? ⟨w.heap.size, 7, none⟩ = some (.slice g1 m1 c1) ∧ wZ.cell? ⟨w.heap.size, 8, none⟩ = some (.slice g2 m2 c2) ∧ wZ.cell? ⟨w.heap.size, 9, none⟩ = some (.slice g3 m3 c3) ∧ wZ.cell? ⟨w.heap.size, 10, none⟩ = some (.int .i64 d0) ∧ wZ.cell? ⟨w.heap.size, 11, none⟩ = some (.int .i64 d1) ∧ wZ.cell? ⟨w.heap.size, 12, none⟩ = some (.int .i64 d2) ∧ wZ.cell? ⟨w.heap.size, 13, none⟩ = some (.int .i64 d3) ∧ wZ.cell? ⟨w.heap.size, 14, none⟩ = some (.int .i64 mul)
              have hk := ((HKC9.out.keep hcy).save hsZ (by omega))
              exact ⟨hk.cell 0, hk.cell 1, hk.cell 2, hk.cell 3, hk.cell 4, hk.cell 5, hk.cell 6, hk.cell 7, hk.cell 8, hk.cell 9, hk.cell 10, hk.cell 11, hk.cell 12, hk.cell 13, hk.cell 14⟩
            clear hi5 hab5 hb5 HKY hsZ hcy
            refine hK.out _ _ HSC.out (fun hHeld => ?_)
            clear hK K
            try simp only [Act.put, List.setIfInBounds_toArray, List.set_cons_zero, List.set_cons_succ]
            refine take_in (i := 6) _ (some 109) (by kernel_rfl) (by kernel_rfl) (by kernel_rfl) (by kernel_rfl) (fun _ _ _ h => h) (by rfl) (fun o ho w hSw => by cases ho; (try dsimp only at hSw); (try go_split_ands); go_simp; (try with_reducible rfl)) hHeld ?_
            try simp only [Act.put, List.setIfInBounds_toArray, List.set_cons_zero, List.set_cons_succ]
            refine wpAnyH_ready (rs := [7]) (by kernel_rfl) (by simp) ?_
            refine AllReadyH.cons (o := _) rfl (fun K hK => ?_) AllReadyH.nil
            go_simp
            refine hK.out _ _ HSZ.out (fun hHeld => ?_)
            clear hK K
            try simp only [Act.put, List.setIfInBounds_toArray, List.set_cons_zero, List.set_cons_succ]
            refine wpAnyH_done (by kernel_rfl) ?_ _
            refine NoPanic.normal ?_
            have hmo : w5.heap.size ≤ wZ.heap.size := Nat.le_of_lt HBZ.out.lt
            have HLW := fun V (hV : Save (w.heap.size + 2) wZ V) => HL6.out V ((Gap.of_below HBWZ.out).trans (Gap.of_save hV ⟨by omega, hzh⟩ hmo))
            have HFIN : Hid (Blk wZ w5.heap.size 40 (attCells (reflR rtr clt rrtr ⟨og, p, hop, hm, med, hp, pref, atm, ha, aas, aad, cm, ho, ori, cl, us⟩).1 pA' cA' D5 uA' pn pc' cn cc' (1 + kn) d5 un uc')) := by
              show Blk _ _ _ _
              unfold attCells reflR
              dsimp only
              rw [HORY.out]
              exact HBZ.out
            have HEND := Lib.hid (atSw_end (r := reflR rtr clt rrtr ⟨og, p, hop, hm, med, hp, pref, atm, ha, aas, aad, cm, ho, ori, cl, us⟩) (ev := .int .i64 0) HKZ6.out hz5 HB6.out HBWZ.out HFIN.out (fun V hV => ⟨(HLW V hV).path.more (Nat.le_trans hmo hV.size), (HLW V hV).comm.more (Nat.le_trans hmo hV.size), (HI5.out V (Over.of_save hV (by omega))), (HLW V hV).unk.more (Nat.le_trans hmo hV.size), HL6N.out.small.1, HL6N.out.small.2.1, by omega, HL6N.out.small.2.2.2⟩) rfl)
            clear HLW hmo HFIN HBZ HI5 HBWZ HSC HSZ hwZ fz a14
            go_wp2_with fail
            go_meet
            rw [HG.out]
            exact HEND.out
          · go_simp
            go_at_call 36
            with_reducible refine (cluster_any asn cfd rtr clt (some ⟨qb, qo, none⟩) na g0 g1 g2 g3 qn qc nn nc m0 c0 m1 c1 m2 c2 m3 c3 d0 d1 d2 d3 mul _).mono ?_
            rintro e wX ⟨rfl, hbX⟩
            have HCUR2 := Lib.hid (below3 HCUR.out hbX)
            clear hbX HCUR
            have HCUR := HCUR2
            clear HCUR2
            refine hK.out _ _ (HS.out _ HCUR.out) (fun hHeld => ?_)
            clear hK K
            try simp only [Act.put, List.setIfInBounds_toArray, List.set_cons_zero, List.set_cons_succ]
            refine wpAnyH_ready (rs := [1, 4]) (by kernel_rfl) (by simp) ?_
            refine AllReadyH.cons (o := _) rfl (fun K hK => ?_) (AllReadyH.cons (o := _) rfl (fun K hK => ?_) AllReadyH.nil)
            · have a14 := HB14.out _ HCUR.out
              go_simp
              clear a14
              refine hK.out _ _ (HS.out _ HCUR.out) (fun hHeld => ?_)
              clear hK K
              try simp only [Act.put, List.setIfInBounds_toArray, List.set_cons_zero, List.set_cons_succ]
              refine wpAnyH_ready (rs := [4]) (by kernel_rfl) (by simp) ?_
              refine AllReadyH.cons (o := _) rfl (fun K hK => ?_) AllReadyH.nil
              go_simp
              have HCX := HCUR
              have HF1 : Hid (Ints (wX.alloc (.cells #[.int .u32 (clusterR clt rtr)] 22)) (wX.alloc (.cells #[.int .u32 (clusterR clt rtr)] 22)).heap.size .u32 (some ⟨wX.heap.size, 0, none⟩) 1 1 [clusterR clt rtr]) := ints_lit wX 22 .u32 1 [clusterR clt rtr] rfl (by simp [maxLen]) _ (by simp)
              have HCUR2 := Lib.hid (below3 HCUR.out (belowA wX (.cells #[.int .u32 (clusterR clt rtr)] 22)))
              clear HCUR
              have HCUR := HCUR2
              clear HCUR2
              refine hK.out _ _ (HS.out _ HCUR.out) (fun hHeld => ?_)
              clear hK K
              try simp only [Act.put, List.setIfInBounds_toArray, List.set_cons_zero, List.set_cons_succ]
              refine wpAnyH_ready (rs := [5]) (by kernel_rfl) (by simp) ?_
              refine AllReadyH.cons (o := _) rfl (fun K hK => ?_) AllReadyH.nil
              go_simp
              go_at_call 44
              with_reducible refine (dupl_any kA' _ kn kc' 1 1 _ cl _ _ ((HCL.out.below (HCUR.out.mono (Nat.le_of_lt l9))).more (Nat.le_trans (Nat.le_of_lt l9) HCUR.out.size)) HF1.out (Nat.le_refl _) (by omega) (by omega)).mono ?_
              rintro e wY ⟨D5, d5, rfl, hi5, hab5, hb5⟩
              have hcy := below3 HCUR.out hb5
              have HKY := HB9.out.keep hcy
              have fz := HKY.frozen 14
              have a14 := HKY.cell 14
              simp only [List.getElem?_cons_zero, List.getElem?_cons_succ] at a14
              have lY : w5.heap.size < wY.heap.size := HKY.lt
              obtain ⟨wZ, hwZ⟩ : ∃ wZ, wY.setCell ⟨w5.heap.size, 14, none⟩ (.slice D5 (1 + kn) d5) = wZ := ⟨_, rfl⟩
              have hsZ : Save w5.heap.size wY wZ := by rw [← hwZ]; exact Save.set
              have HBZ : Hid (Blk wZ w5.heap.size 40 [.int .i64 og, .slice pA' pn pc', .int .u32 hop, .bool hm, .int .i64 med, .bool true, .int .i64 (if hp = true then pref else 100), .bool atm, .bool ha, .int .i64 aas, .int .u32 aad, .slice cA' cn cc', .bool true, .int .u32 ory, .slice D5 (1 + kn) d5, .slice uA' un uc']) := by
                show Blk _ _ _ _
                rw [← hwZ]
                exact HKY.set 14 _
              have HI5 : Hid (∀ V, Over (w5.heap.size + 1) wZ V → Ints V V.heap.size .u32 D5 (1 + kn) d5 (clusterR clt rtr :: cl)) := fun V hV => cells_over hi5 ((Over.of_save hsZ (Nat.lt_succ_self _)).trans hV) fun hn ad e => by have h1 := hab5 hn ad e; have h2 := HCUR.out.size; omega
              have HBWZ : Hid (Below w5.heap.size w6 wZ) := (HB69.out.trans (hcy.mono (Nat.le_of_lt l9))).trans (hsZ.below (Nat.le_refl _) (Nat.le_of_lt lY))
              have HSC := Lib.hid (HS.out _ hcy)
              have HSZ : Hid (wZ.cell? ⟨w.heap.size, 0, none⟩ = some (.int .i64 asn) ∧ wZ.cell? ⟨w.heap.size, 1, none⟩ = some (.int .i64 cfd) ∧ wZ.cell? ⟨w.heap.size, 2, none⟩ = some (.int .u32 rtr) ∧ wZ.cell? ⟨w.heap.size, 3, none⟩ = some (.int .u32 clt) ∧ wZ.cell? ⟨w.heap.size, 4, none⟩ = some (.slice (some ⟨qb, qo, none⟩) qn qc) ∧ wZ.cell? ⟨w.heap.size, 5, none⟩ = some (.slice na nn nc) ∧ wZ.cell? ⟨w.heap.size, 6, none⟩ = some (.slice g0 m0 c0) ∧ wZ.cell? ⟨w.heap.size, 7, none⟩ = some (.slice g1 m1 c1) ∧ wZ.cell? ⟨w.heap.size, 8, none⟩ = some (.slice g2 m2 c2) ∧ wZ.cell? ⟨w.heap.size, 9, none⟩ = some (.slice g3 m3 c3) ∧ wZ.cell? ⟨w.heap.size, 10, none⟩ = some (.int .i64 d0) ∧ wZ.cell? ⟨w.heap.size, 11, none⟩ = some (.int .i64 d1) ∧ wZ.cell? ⟨w.heap.size, 12, none⟩ = some (.int .i64 d2) ∧ wZ.cell? ⟨w.heap.size, 13, none⟩ = some (.int .i64 d3) ∧ wZ.cell? ⟨w.heap.size, 14, none⟩ = some (.int .i64 mul)) := by
                show wZ.cell? ⟨w.heap.size, 0, none⟩ = some (.int .i64 asn) ∧ wZ.cell? ⟨w.heap.size, 1, none⟩ = some (.int .i64 cfd) ∧ wZ.cell? ⟨w.heap.size, 2, none⟩ = some (.int .u32 rtr) ∧ wZ.cell? ⟨w.heap.size, 3, none⟩ = some (.int .u32 clt) ∧ wZ.cell? ⟨w.heap.size, 4, none⟩ = some (.slice (some ⟨qb, qo, none⟩) qn qc) ∧ wZ.cell? ⟨w.heap.size, 5, none⟩ = some (.slice na nn nc) ∧ wZ.cell? ⟨w.heap.size, 6, none⟩ = some (.slice g0 m0 c0) ∧ wZ.cell? ⟨w.heap.size, 7, none⟩ = some (.slice g1 m1 c1) ∧ wZ.cell? ⟨w.heap.size, 8, none⟩ = some (.slice g2 m2 c2) ∧ wZ.cell? ⟨w.heap.size, 9, none⟩ = some (.slice g3 m3 c3) ∧ wZ.cell? ⟨w.heap.size, 10, none⟩ = some (.int .i64 d0) ∧ wZ.cell? ⟨w.heap.size, 11, none⟩ = some (.int .i64 d1) ∧ wZ.cell? ⟨w.heap.size, 12, none⟩ = some (.int .i64 d2) ∧ wZ.cell? ⟨w.heap.size, 13, none⟩ = some (.int .i64 d3) ∧ wZ.cell? ⟨w.heap.size, 14, none⟩ = some (.int .i64 mul)
                have hk := ((HKC9.out.keep hcy).save hsZ (by omega))
                exact ⟨hk.cell 0, hk.cell 1, hk.cell 2, hk.cell 3, hk.cell 4, hk.cell 5, hk.cell 6, hk.cell 7, hk.cell 8, hk.cell 9, hk.cell 10, hk.cell 11, hk.cell 12, hk.cell 13, hk.cell 14⟩
              clear hi5 hab5 hb5 HKY hsZ hcy
              refine hK.out _ _ HSC.out (fun hHeld => ?_)
              clear hK K
              try simp only [Act.put, List.setIfInBounds_toArray, List.set_cons_zero, List.set_cons_succ]
              refine take_in (i := 6) _ (some 109) (by kernel_rfl) (by kernel_rfl) (by kernel_rfl) (by kernel_rfl) (fun _ _ _ h => h) (by rfl) (fun o ho w hSw => by cases ho; (try dsimp only at hSw); (try go_split_ands); go_simp; (try with_reducible rfl)) hHeld ?_
              try simp only [Act.put, List.setIfInBounds_toArray, List.set_cons_zero, List.set_cons_succ]
              refine wpAnyH_ready (rs := [7]) (by kernel_rfl) (by simp) ?_
              refine AllReadyH.cons (o := _) rfl (fun K hK => ?_) AllReadyH.nil
              go_simp
              refine hK.out _ _ HSZ.out (fun hHeld => ?_)
              clear hK K
              try simp only [Act.put, List.setIfInBounds_toArray, List.set_cons_zero, List.set_cons_succ]
              refine wpAnyH_done (by kernel_rfl) ?_ _
              refine NoPanic.normal ?_
              have hmo : w5.heap.size ≤ wZ.heap.size := Nat.le_of_lt HBZ.out.lt
              have HLW := fun V (hV : Save (w.heap.size + 2) wZ V) => HL6.out V ((Gap.of_below HBWZ.out).trans (Gap.of_save hV ⟨by omega, hzh⟩ hmo))
              have HFIN : Hid (Blk wZ w5.heap.size 40 (attCells (reflR rtr clt rrtr ⟨og, p, hop, hm, med, hp, pref, atm, ha, aas, aad, cm, ho, ori, cl, us⟩).1 pA' cA' D5 uA' pn pc' cn cc' (1 + kn) d5 un uc')) := by
                show Blk _ _ _ _
                unfold attCells reflR
                dsimp only
                rw [HORY.out]
                exact HBZ.out
              have HEND := Lib.hid (atSw_end (r := reflR rtr clt rrtr ⟨og, p, hop, hm, med, hp, pref, atm, ha, aas, aad, cm, ho, ori, cl, us⟩) (ev := .int .i64 0) HKZ6.out hz5 HB6.out HBWZ.out HFIN.out (fun V hV => ⟨(HLW V hV).path.more (Nat.le_trans hmo hV.size), (HLW V hV).comm.more (Nat.le_trans hmo hV.size), (HI5.out V (Over.of_save hV (by omega))), (HLW V hV).unk.more (Nat.le_trans hmo hV.size), HL6N.out.small.1, HL6N.out.small.2.1, by omega, HL6N.out.small.2.2.2⟩) rfl)
              clear HLW hmo HFIN HBZ HI5 HBWZ HSC HSZ hwZ fz a14
              go_wp2_with fail
              go_meet
              rw [HG.out]
              exact HEND.out
            · go_simp
              have HCX := HCUR
              have HF1 : Hid (Ints (wX.alloc (.cells #[.int .u32 (clusterR clt rtr)] 22)) (wX.alloc (.cells #[.int .u32 (clusterR clt rtr)] 22)).heap.size .u32 (some ⟨wX.heap.size, 0, none⟩) 1 1 [clusterR clt rtr]) := ints_lit wX 22 .u32 1 [clusterR clt rtr] rfl (by simp [maxLen]) _ (by simp)
              have HCUR2 := Lib.hid (below3 HCUR.out (belowA wX (.cells #[.int .u32 (clusterR clt rtr)] 22)))
              clear HCUR
              have HCUR := HCUR2
              clear HCUR2
              refine hK.out _ _ (HS.out _ HCUR.out) (fun hHeld => ?_)
              clear hK K
              try simp only [Act.put, List.setIfInBounds_toArray, List.set_cons_zero, List.set_cons_succ]
              refine wpAnyH_ready (rs := [1]) (by kernel_rfl) (by simp) ?_
              refine AllReadyH.cons (o := _) rfl (fun K hK => ?_) AllReadyH.nil
              have a14 := HB14.out _ HCUR.out
              go_simp
              clear a14
              refine hK.out _ _ (HS.out _ HCUR.out) (fun hHeld => ?_)
              clear hK K
              try simp only [Act.put, List.setIfInBounds_toArray, List.set_cons_zero, List.set_cons_succ]
              refine wpAnyH_ready (rs := [5]) (by kernel_rfl) (by simp) ?_
              refine AllReadyH.cons (o := _) rfl (fun K hK => ?_) AllReadyH.nil
              go_simp
              go_at_call 44
              with_reducible refine (dupl_any kA' _ kn kc' 1 1 _ cl _ _ ((HCL.out.below (HCUR.out.mono (Nat.le_of_lt l9))).more (Nat.le_trans (Nat.le_of_lt l9) HCUR.out.size)) HF1.out (Nat.le_refl _) (by omega) (by omega)).mono ?_
              rintro e wY ⟨D5, d5, rfl, hi5, hab5, hb5⟩
              have hcy := below3 HCUR.out hb5
              have HKY := HB9.out.keep hcy
              have fz := HKY.frozen 14
              have a14 := HKY.cell 14
              simp only [List.getElem?_cons_zero, List.getElem?_cons_succ] at a14
              have lY : w5.heap.size < wY.heap.size := HKY.lt
              obtain ⟨wZ, hwZ⟩ : ∃ wZ, wY.setCell ⟨w5.heap.size, 14, none⟩ (.slice D5 (1 + kn) d5) = wZ := ⟨_, rfl⟩
              have hsZ : Save w5.heap.size wY wZ := by rw [← hwZ]; exact Save.set
              have HBZ : Hid (Blk wZ w5.heap.size 40 [.int .i64 og, .slice pA' pn pc', .int .u32 hop, .bool hm, .int .i64 med, .bool true, .int .i64 (if hp = true then pref else 100), .bool atm, .bool ha, .int .i64 aas, .int .u32 aad, .slice cA' cn cc', .bool true, .int .u32 ory, .slice D5 (1 + kn) d5, .slice uA' un uc']) := by
                show Blk _ _ _ _
                rw [← hwZ]
                exact HKY.set 14 _
              have HI5 : Hid (∀ V, Over (w5.heap.size + 1) wZ V → Ints V V.heap.size .u32 D5 (1 + kn) d5 (clusterR clt rtr :: cl)) := fun V hV => cells_over hi5 ((Over.of_save hsZ (Nat.lt_succ_self _)).trans hV) fun hn ad e => by have h1 := hab5 hn ad e; have h2 := HCUR.out.size; omega
              have HBWZ : Hid (Below w5.heap.size w6 wZ) := (HB69.out.trans (hcy.mono (Nat.le_of_lt l9))).trans (hsZ.below (Nat.le_refl _) (Nat.le_of_lt lY))
              have HSC := Lib.hid (HS.out _ hcy)
              have HSZ : Hid (wZ.cell? ⟨w.heap.size, 0, none⟩ = some (.int .i64 asn) ∧ wZ.cell? ⟨w.heap.size, 1, none⟩ = some (.int .i64 cfd) ∧ wZ.cell? ⟨w.heap.size, 2, none⟩ = some (.int .u32 rtr) ∧ wZ.cell? ⟨w.heap.size, 3, none⟩ = some (.int .u32 clt) ∧ wZ.cell? ⟨w.heap.size, 4, none⟩ = some (.slice (some ⟨qb, qo, none⟩) qn qc) ∧ wZ.cell? ⟨w.heap.size, 5, none⟩ = some (.slice na nn nc) ∧ wZ.cell? ⟨w.heap.size, 6, none⟩ = some (.slice g0 m0 c0) ∧ wZ.cell? ⟨w.heap.size, 7, none⟩ = some (.slice g1 m1 c1) ∧ wZ.cell? ⟨w.heap.size, 8, none⟩ = some (.slice g2 m2 c2) ∧ wZ.cell? ⟨w.heap.size, 9, none⟩ = some (.slice g3 m3 c3) ∧ wZ.cell? ⟨w.heap.size, 10, none⟩ = some (.int .i64 d0) ∧ wZ.cell? ⟨w.heap.size, 11, none⟩ = some (.int .i64 d1) ∧ wZ.cell? ⟨w.heap.size, 12, none⟩ = some (.int .i64 d2) ∧ wZ.cell? ⟨w.heap.size, 13, none⟩ = some (.int .i64 d3) ∧ wZ.cell? ⟨w.heap.size, 14, none⟩ = some (.int .i64 mul)) := by
                show wZ.cell? ⟨w.heap.size, 0, none⟩ = some (.int .i64 asn) ∧ wZ.cell? ⟨w.heap.size, 1, none⟩ = some (.int .i64 cfd) ∧ wZ.cell? ⟨w.heap.size, 2, none⟩ = some (.int .u32 rtr) ∧ wZ.cell? ⟨w.heap.size, 3, none⟩ = some (.int .u32 clt) ∧ wZ.cell? ⟨w.heap.size, 4, none⟩ = some (.slice (some ⟨qb, qo, none⟩) qn qc) ∧ wZ.cell? ⟨w.heap.size, 5, none⟩ = some (.slice na nn nc) ∧ wZ.cell? ⟨w.heap.size, 6, none⟩ = some (.slice g0 m0 c0) ∧ wZ.cell? ⟨w.heap.size, 7, none⟩ = some (.slice g1 m1 c1) ∧ wZ.cell? ⟨w.heap.size, 8, none⟩ = some (.slice g2 m2 c2) ∧ wZ.cell? ⟨w.heap.size, 9, none⟩ = some (.slice g3 m3 c3) ∧ wZ.cell? ⟨w.heap.size, 10, none⟩ = some (.int .i64 d0) ∧ wZ.cell? ⟨w.heap.size, 11, none⟩ = some (.int .i64 d1) ∧ wZ.cell? ⟨w.heap.size, 12, none⟩ = some (.int .i64 d2) ∧ wZ.cell? ⟨w.heap.size, 13, none⟩ = some (.int .i64 d3) ∧ wZ.cell? ⟨w.heap.size, 14, none⟩ = some (.int .i64 mul)
                have hk := ((HKC9.out.keep hcy).save hsZ (by omega))
                exact ⟨hk.cell 0, hk.cell 1, hk.cell 2, hk.cell 3, hk.cell 4, hk.cell 5, hk.cell 6, hk.cell 7, hk.cell 8, hk.cell 9, hk.cell 10, hk.cell 11, hk.cell 12, hk.cell 13, hk.cell 14⟩
              clear hi5 hab5 hb5 HKY hsZ hcy
              refine hK.out _ _ HSC.out (fun hHeld => ?_)
              clear hK K
              try simp only [Act.put, List.setIfInBounds_toArray, List.set_cons_zero, List.set_cons_succ]
              refine take_in (i := 6) _ (some 109) (by kernel_rfl) (by kernel_rfl) (by kernel_rfl) (by kernel_rfl) (fun _ _ _ h => h) (by rfl) (fun o ho w hSw => by cases ho; (try dsimp only at hSw); (try go_split_ands); go_simp; (try with_reducible rfl)) hHeld ?_
              try simp only [Act.put, List.setIfInBounds_toArray, List.set_cons_zero, List.set_cons_succ]
              refine wpAnyH_ready (rs := [7]) (by kernel_rfl) (by simp) ?_
              refine AllReadyH.cons (o := _) rfl (fun K hK => ?_) AllReadyH.nil
              go_simp
              refine hK.out _ _ HSZ.out (fun hHeld => ?_)
              clear hK K
              try simp only [Act.put, List.setIfInBounds_toArray, List.set_cons_zero, List.set_cons_succ]
              refine wpAnyH_done (by kernel_rfl) ?_ _
              refine NoPanic.normal ?_
              have hmo : w5.heap.size ≤ wZ.heap.size := Nat.le_of_lt HBZ.out.lt
              have HLW := fun V (hV : Save (w.heap.size + 2) wZ V) => HL6.out V ((Gap.of_below HBWZ.out).trans (Gap.of_save hV ⟨by omega, hzh⟩ hmo))
              have HFIN : Hid (Blk wZ w5.heap.size 40 (attCells (reflR rtr clt rrtr ⟨og, p, hop, hm, med, hp, pref, atm, ha, aas, aad, cm, ho, ori, cl, us⟩).1 pA' cA' D5 uA' pn pc' cn cc' (1 + kn) d5 un uc')) := by
                show Blk _ _ _ _
                unfold attCells reflR
                dsimp only
                rw [HORY.out]
                exact HBZ.out
              have HEND := Lib.hid (atSw_end (r := reflR rtr clt rrtr ⟨og, p, hop, hm, med, hp, pref, atm, ha, aas, aad, cm, ho, ori, cl, us⟩) (ev := .int .i64 0) HKZ6.out hz5 HB6.out HBWZ.out HFIN.out (fun V hV => ⟨(HLW V hV).path.more (Nat.le_trans hmo hV.size), (HLW V hV).comm.more (Nat.le_trans hmo hV.size), (HI5.out V (Over.of_save hV (by omega))), (HLW V hV).unk.more (Nat.le_trans hmo hV.size), HL6N.out.small.1, HL6N.out.small.2.1, by omega, HL6N.out.small.2.2.2⟩) rfl)
              clear HLW hmo HFIN HBZ HI5 HBWZ HSC HSZ hwZ fz a14
              go_wp2_with fail
              go_meet
              rw [HG.out]
              exact HEND.out
    case rest =>
      obtain ⟨r, hr⟩ : ∃ r, chgR asn cfd rtr clt rpeer rkind rrtr ⟨pk, pas, padr, ploc, pcli, phold, prest, pimp, pexp, pself, pdamp⟩ ⟨og, p, hop, hm, med, hp, pref, atm, ha, aas, aad, cm, ho, ori, cl, us⟩ = r := ⟨_, rfl⟩
      rw [hr] at hcut HF
      clear hr
      obtain ⟨⟨bo, bp, bh, bhm, bm, bhp, bpr, bat, bha, baa, bad, bcm, bho, bor, bcl, bus⟩, e8⟩ := r
      obtain ⟨pA2, cA2, kA2, uA2, pn2, pc2, cn2, cc2, kn2, kc2, un2, uc2, rfl, hBB, HZZ, hLL, HBW⟩ := hcut
      have HBB : Hid (Blk wc w5.heap.size 40 [.int .i64 bo, .slice pA2 pn2 pc2, .int .u32 bh, .bool bhm, .int .i64 bm, .bool bhp, .int .i64 bpr, .bool bat, .bool bha, .int .i64 baa, .int .u32 bad, .slice cA2 cn2 cc2, .bool bho, .int .u32 bor, .slice kA2 kn2 kc2, .slice uA2 un2 uc2]) := hBB
      have HLV : Hid (∀ V, Save (w.heap.size + 2) wc V → Lists V V.heap.size pA2 cA2 kA2 uA2 pn2 pc2 cn2 cc2 kn2 kc2 un2 uc2 bp bcm bcl bus) := hLL
      have HLL := Lib.hid (HLV.out wc (Save.refl _ _))
      have hkl : bcl.length = kn2 := HLL.out.clus.len
      have hks : kn2 ≤ 1000000000 := HLL.out.small.2.2.1
      have lB : w5.heap.size < wc.heap.size := HBB.out.lt
      have a14 := HBB.out.cell 14
      simp only [List.getElem?_cons_zero, List.getElem?_cons_succ] at a14
      clear hBB hLL HKC6 HKA6 HKZ6 HP6 HO6 HB6 HL6 HL6N HBX p0
      unfold endR at HF
      dsimp only at HF
      rw [hkl] at HF
      dsimp only
      cases he : (e8 == 0)
      case false =>
        rw [he, if_neg (by simp)] at HF
        have hne : (e8 != 0) = true := by simpa using he
        obtain ⟨wz, hwz⟩ : ∃ wz, wc.setRow (w.heap.size + 2) #[.int .i64 0, .slice none 0 0, .int .u32 0, .bool false, .int .i64 0, .bool false, .int .i64 0, .bool false, .bool false, .int .i64 0, .int .u32 0, .slice none 0 0, .bool false, .int .u32 0, .slice none 0 0, .slice none 0 0] = wz := ⟨_, rfl⟩
        have HKZ9 : Hid (Blk wz (w.heap.size + 2) 40 [.int .i64 0, .slice none 0 0, .int .u32 0, .bool false, .int .i64 0, .bool false, .int .i64 0, .bool false, .bool false, .int .i64 0, .int .u32 0, .slice none 0 0, .bool false, .int .u32 0, .slice none 0 0, .slice none 0 0]) := by show Blk _ _ _ _; rw [← hwz]; exact HZZ.out.row _
        have HB9 : Hid (Below w.heap.size w wz) := by show Below _ _ _; rw [← hwz]; exact HBW.out.trans ((Save.row (w.heap.size + 2) wc _).below (by omega) HBW.out.size)
        go_wp2_with (refine wpList_store_blk rfl 40 _ _ rfl (w.heap.size + 2) rfl rfl HZZ.out (by kernel_rfl) rfl (by kernel_rfl) ?_)
        refine bodyPost_ret (results_cell_row2 rfl _ (w.heap.size + 2) _ rfl HKZ9.out Try.underlying40 rfl (by kernel_rfl)) rfl ?_
        rw [HF.out]
        exact ⟨none, none, none, none, 0, 0, 0, 0, 0, 0, 0, 0, rfl, lists_zero _ _, HB9.out⟩
      obtain rfl : e8 = 0 := by simpa using he
      rw [he, if_pos rfl] at HF
      by_cases hk64 : 64 < kn2
      case pos =>
        have d64 : decide ((kn2 : Int) > 64) = true := by simp; omega
        rw [if_pos (by simpa using hk64)] at HF
        clear hk64 hkl
        obtain ⟨wz, hwz⟩ : ∃ wz, wc.setRow (w.heap.size + 2) #[.int .i64 0, .slice none 0 0, .int .u32 0, .bool false, .int .i64 0, .bool false, .int .i64 0, .bool false, .bool false, .int .i64 0, .int .u32 0, .slice none 0 0, .bool false, .int .u32 0, .slice none 0 0, .slice none 0 0] = wz := ⟨_, rfl⟩
        have HKZ9 : Hid (Blk wz (w.heap.size + 2) 40 [.int .i64 0, .slice none 0 0, .int .u32 0, .bool false, .int .i64 0, .bool false, .int .i64 0, .bool false, .bool false, .int .i64 0, .int .u32 0, .slice none 0 0, .bool false, .int .u32 0, .slice none 0 0, .slice none 0 0]) := by show Blk _ _ _ _; rw [← hwz]; exact HZZ.out.row _
        have HB9 : Hid (Below w.heap.size w wz) := by show Below _ _ _; rw [← hwz]; exact HBW.out.trans ((Save.row (w.heap.size + 2) wc _).below (by omega) HBW.out.size)
        go_wp2_with (refine wpList_store_blk rfl 40 _ _ rfl (w.heap.size + 2) rfl rfl HZZ.out (by kernel_rfl) rfl (by kernel_rfl) ?_)
        refine bodyPost_ret (results_cell_row2 rfl _ (w.heap.size + 2) _ rfl HKZ9.out Try.underlying40 rfl (by kernel_rfl)) rfl ?_
        rw [HF.out]
        exact ⟨none, none, none, none, 0, 0, 0, 0, 0, 0, 0, 0, rfl, lists_zero _ _, HB9.out⟩
      have d64 : decide ((kn2 : Int) > 64) = false := by simp; omega
      rw [if_neg (by simpa using hk64)] at HF
      clear hk64 hkl he
      have HC := Lib.hid (attCheck_any bo bh bm bpr baa bad bor bhm bhp bat bha bho pA2 cA2 kA2 uA2 pn2 pc2 cn2 cc2 kn2 kc2 un2 uc2 bp bus bcm bcl wc HLL.out)
      go_wp2_with (refine wpList_load_blk rfl 40 _ rfl w5.heap.size rfl HBB.out _ Try.underlying40 rfl (by kernel_rfl) ?_)
      refine HC.out.mono ?_
      rintro e w9 ⟨rfl, hb9x⟩
      clear HC a14
      obtain ⟨ae, hae⟩ : ∃ ae, attErr ⟨bo, bp, bh, bhm, bm, bhp, bpr, bat, bha, baa, bad, bcm, bho, bor, bcl, bus⟩ = ae := ⟨_, rfl⟩
      rw [hae] at HF ⊢
      clear hae
      have HZ9 := Lib.hid (HZZ.out.keep hb9x)
      have HBB9 := Lib.hid (HBB.out.keep hb9x)
      have HLL9 : Hid (∀ V, Save (w.heap.size + 2) w9 V → Lists V V.heap.size pA2 cA2 kA2 uA2 pn2 pc2 cn2 cc2 kn2 kc2 un2 uc2 bp bcm bcl bus) := fun V hV => HLV.out V ((Save.of hb9x).trans hV)
      have HBW9 := Lib.hid (HBW.out.trans (hb9x.mono HBW.out.size))
      clear HZZ HBB HLL HLV HBW hb9x
      cases hea : (ae == 0)
      case false =>
        rw [hea, if_neg (by simp)] at HF
        have hne : (ae != 0) = true := by simpa using hea
        obtain ⟨wz, hwz⟩ : ∃ wz, w9.setRow (w.heap.size + 2) #[.int .i64 0, .slice none 0 0, .int .u32 0, .bool false, .int .i64 0, .bool false, .int .i64 0, .bool false, .bool false, .int .i64 0, .int .u32 0, .slice none 0 0, .bool false, .int .u32 0, .slice none 0 0, .slice none 0 0] = wz := ⟨_, rfl⟩
        have HKZ9 : Hid (Blk wz (w.heap.size + 2) 40 [.int .i64 0, .slice none 0 0, .int .u32 0, .bool false, .int .i64 0, .bool false, .int .i64 0, .bool false, .bool false, .int .i64 0, .int .u32 0, .slice none 0 0, .bool false, .int .u32 0, .slice none 0 0, .slice none 0 0]) := by show Blk _ _ _ _; rw [← hwz]; exact HZ9.out.row _
        have HB9 : Hid (Below w.heap.size w wz) := by show Below _ _ _; rw [← hwz]; exact HBW9.out.trans ((Save.row (w.heap.size + 2) w9 _).below (by omega) HBW9.out.size)
        go_wp2_with (refine wpList_store_blk rfl 40 _ _ rfl (w.heap.size + 2) rfl rfl HZ9.out (by kernel_rfl) rfl (by kernel_rfl) ?_)
        refine bodyPost_ret (results_cell_row2 rfl _ (w.heap.size + 2) _ rfl HKZ9.out Try.underlying40 rfl (by kernel_rfl)) rfl ?_
        rw [HF.out]
        exact ⟨none, none, none, none, 0, 0, 0, 0, 0, 0, 0, 0, rfl, lists_zero _ _, HB9.out⟩
      obtain rfl : ae = 0 := by simpa using hea
      rw [hea, if_pos rfl] at HF
      clear hea
      obtain ⟨wz, hwz⟩ : ∃ wz, w9.setRow (w.heap.size + 2) #[.int .i64 bo, .slice pA2 pn2 pc2, .int .u32 bh, .bool bhm, .int .i64 bm, .bool bhp, .int .i64 bpr, .bool bat, .bool bha, .int .i64 baa, .int .u32 bad, .slice cA2 cn2 cc2, .bool bho, .int .u32 bor, .slice kA2 kn2 kc2, .slice uA2 un2 uc2] = wz := ⟨_, rfl⟩
      have hsz : Save (w.heap.size + 2) w9 wz := by rw [← hwz]; exact Save.row _ _ _
      have HKZ9 : Hid (Blk wz (w.heap.size + 2) 40 [.int .i64 bo, .slice pA2 pn2 pc2, .int .u32 bh, .bool bhm, .int .i64 bm, .bool bhp, .int .i64 bpr, .bool bat, .bool bha, .int .i64 baa, .int .u32 bad, .slice cA2 cn2 cc2, .bool bho, .int .u32 bor, .slice kA2 kn2 kc2, .slice uA2 un2 uc2]) := by show Blk _ _ _ _; rw [← hwz]; exact HZ9.out.row _
      have HB9 : Hid (Below w.heap.size w wz) := HBW9.out.trans (hsz.below (by omega) HBW9.out.size)
      have HLZ : Hid (Lists wz wz.heap.size pA2 cA2 kA2 uA2 pn2 pc2 cn2 cc2 kn2 kc2 un2 uc2 bp bcm bcl bus) := HLL9.out wz hsz
      go_wp2_with (first | (refine wpList_load_blk rfl 40 _ rfl w5.heap.size rfl HBB9.out _ Try.underlying40 rfl (by kernel_rfl) ?_) | (refine wpList_store_blk rfl 40 _ _ rfl (w.heap.size + 2) rfl rfl HZ9.out (by kernel_rfl) rfl (by kernel_rfl) ?_))
      refine bodyPost_ret (results_cell_row2 rfl _ (w.heap.size + 2) _ rfl HKZ9.out Try.underlying40 rfl (by kernel_rfl)) rfl ?_
      rw [HF.out]
      exact ⟨pA2, cA2, kA2, uA2, pn2, pc2, cn2, cc2, kn2, kc2, un2, uc2, rfl, HLZ.out, HB9.out⟩
end Go.Proofs.Ytojgohgeagbkbaa
