/- group: the walk (printed by gen_fgrpw.py from FGrpW.base). -/
import Derived.Test.YtplppbgkkfjknaaGreatDoorG17
namespace Go.Proofs.YtplppbgkkfjknaaGreatDoor
open Go.RowKit

set_option linter.unusedVariables false
set_option linter.unusedSimpArgs false
theorem PRow.base {w : World} {base base' n : Nat} {v : Value} {ps : List PV} (h : PRow w base v n ps) (hb : base' ≤ base) : PRow w base' v n ps := by
  refine ⟨?_, h.len, fun p hp => ⟨(h.labs p hp).1, fun hn ad e => ⟨by have := ((h.labs p hp).2 hn ad e).1; omega, ((h.labs p hp).2 hn ad e).2⟩⟩⟩
  obtain ⟨h1, h2⟩ := h.row
  refine ⟨h1, ?_⟩
  rcases h2 with h2 | ⟨g', cap, cur, hv, hg, hh, r⟩
  · exact .inl h2
  · exact .inr ⟨g', cap, cur, hv, by omega, hh, r⟩
theorem grp_next_none {bs : List BK} {os : List LO} {hs : List XH} {k : Nat} {h : XH} (hh : hs[k]? = some h) (hb : backR h.va h.vl h.router bs = none) : grpTo bs os hs (k + 1) = grpTo bs os hs k := by
  rw [grpTo]
  unfold addBack hopAtX
  rw [hh]
  dsimp only [Option.getD]
  rw [hb]
theorem grp_next_full {bs : List BK} {os : List LO} {hs : List XH} {k : Nat} {h : XH} (hl : 64 ≤ (grpTo bs os hs k).length) : grpTo bs os hs (k + 1) = grpTo bs os hs k := by
  rw [grpTo]
  unfold addBack
  split
  · rw [if_pos hl]
  · rfl
theorem grp_next_add {bs : List BK} {os : List LO} {hs : List XH} {k : Nat} {h : XH} {x p : PV} (hh : hs[k]? = some h) (hb : backR h.va h.vl h.router bs = some x) (hl : ¬ 64 ≤ (grpTo bs os hs k).length) (hp : (grpTo bs os hs k)[k]? = some p) :
    grpTo bs os hs (k + 1) = (grpTo bs os hs k).set k { p with backup := (grpTo bs os hs k).length } ++ [backOf os h x] := by
  rw [grpTo]
  unfold addBack hopAtX
  rw [hh]
  dsimp only [Option.getD]
  rw [hb]
  dsimp only
  rw [if_neg hl, hp]
/-- the second loop of group -/
def Grp2 (w : World) (rv : List Value) (rn : Nat) (bs : List BK) (os : List LO) (hs : List XH) (iv : Value) (W : World) : Prop :=
  ∃ (k n : Nat) (A : Option Addr) (c : Nat) (ps : List PV), k ≤ rn ∧ iv = .int .i64 k ∧ Hid (Blk W w.heap.size 68 rv) ∧ Hid (Blk W (w.heap.size + 1) 47 [.int .i64 0, .slice none 0 0]) ∧ Hid (Blk W (w.heap.size + 1 + 1) 47 [.int .i64 rn, .slice A n c]) ∧ Hid (PRow W (w.heap.size + 1 + 1 + 1) (.slice A n c) n ps) ∧ Hid (ps.map PV.dat = grpTo bs os hs k) ∧ Hid (Below w.heap.size w W)
theorem hop_s {V : World} {H xv : Nat} {xa xi xr xw xl : Int} (h : Blk V H 73 [.int .u32 xa, .int .i64 xi, .int .u32 xr, .int .i64 xw, .int .u32 xv, .int .i64 xl]) :
    V.cell? ⟨H, 0, none⟩ = some (.int .u32 xa) ∧ V.cell? ⟨H, 1, none⟩ = some (.int .i64 xi) ∧ V.cell? ⟨H, 2, none⟩ = some (.int .u32 xr) ∧ V.cell? ⟨H, 3, none⟩ = some (.int .i64 xw) ∧ V.cell? ⟨H, 4, none⟩ = some (.int .u32 xv) ∧ V.cell? ⟨H, 5, none⟩ = some (.int .i64 xl) :=
  ⟨h.cell 0, h.cell 1, h.cell 2, h.cell 3, h.cell 4, h.cell 5⟩
theorem hop_path_s {V : World} {H P2 xv : Nat} {xa xi xr xw xl : Int} {zi za zr zw zb : Int} {zA : Option Addr} {zn zc : Nat} (h : Blk V H 73 [.int .u32 xa, .int .i64 xi, .int .u32 xr, .int .i64 xw, .int .u32 xv, .int .i64 xl]) (k : Blk V P2 57 [.int .i64 zi, .int .u32 za, .int .u32 zr, .int .i64 zw, .slice zA zn zc, .int .i64 zb]) :
    V.cell? ⟨H, 3, none⟩ = some (.int .i64 xw) ∧ V.cell? ⟨H, 4, none⟩ = some (.int .u32 xv) ∧ V.cell? ⟨H, 5, none⟩ = some (.int .i64 xl) ∧ V.cell? ⟨P2, 0, none⟩ = some (.int .i64 zi) ∧ V.cell? ⟨P2, 1, none⟩ = some (.int .u32 za) ∧ V.cell? ⟨P2, 2, none⟩ = some (.int .u32 zr) :=
  ⟨h.cell 3, h.cell 4, h.cell 5, k.cell 0, k.cell 1, k.cell 2⟩
def GivesGrp (act : Int) (ds : List PV) (w : World) (e : Ending) (w' : World) : Prop :=
  ∃ A c ps, e = .returned (.agg #[.int .i64 act, .slice A ds.length c]) ∧ PRow w' w.heap.size (.slice A ds.length c) ds.length ps ∧ ps.map PV.dat = ds ∧ Below w.heap.size w w'
/-- the first loop of group: box of the route at N, the result's at N + 1, the group's at N + 2 -/
def Grp1 (w : World) (rv : List Value) (rn : Nat) (ds : List PV) (iv : Value) (W : World) : Prop :=
  ∃ (k : Nat) (A : Option Addr) (c : Nat) (ps : List PV), k ≤ rn ∧ iv = .int .i64 k ∧ Hid (Blk W w.heap.size 68 rv) ∧ Hid (Blk W (w.heap.size + 1) 47 [.int .i64 0, .slice none 0 0]) ∧ Hid (Blk W (w.heap.size + 1 + 1) 47 [.int .i64 rn, .slice A k c]) ∧ Hid (PRow W (w.heap.size + 1 + 1 + 1) (.slice A k c) k ps) ∧ Hid (ps.map PV.dat = ds.take k) ∧ Hid (Below w.heap.size w W)
set_option maxRecDepth 100000 in
set_option maxHeartbeats 8000000 in
theorem group_fib_any (bb : Nat) (kA oA : Option Addr) (kn kc on oc B : Nat) (bs : List BK) (os : List LO) (r : RT) (w : World) (hk : Recs w B 9 kA kn kc BK.vals bs) (ho : Outs w B oA on oc os) (hr : XHops w B r.A r.n r.c r.hs) (hB : B ≤ w.heap.size) (hkn : kn ≤ 140737488355328) (hon : on ≤ 140737488355328) (hrn : r.n ≤ 100000) (hbb : bb < w.heap.size)
    (hb0 : w.cell? ⟨bb, 0, none⟩ = some (.slice kA kn kc)) (hb1 : w.cell? ⟨bb, 1, none⟩ = some (.slice oA on oc)) :
    Calls Tryz.prog 58 #[.pointer (some ⟨bb, 0, none⟩), .agg #[.int .u32 r.a, .int .i64 r.l, .int .i64 r.proto, .int .i64 r.dist, .int .i64 r.met, .int .i64 r.tag, .slice r.A r.n r.c]] w (GivesGrp r.n (groupR bs os r.hs) w) := by
  obtain ⟨ra, rl, rp, rd, rm, rt, rA, rn, rc, hs⟩ := r
  dsimp only at hr hrn ⊢
  obtain ⟨w1, hw1⟩ : ∃ w1, ((w.alloc (.cells #[.int .u32 ra, .int .i64 rl, .int .i64 rp, .int .i64 rd, .int .i64 rm, .int .i64 rt, .slice rA rn rc] 68)).alloc (.cells #[.int .i64 0, .slice none 0 0] 47)).alloc (.cells #[.int .i64 0, .slice none 0 0] 47) = w1 := ⟨_, rfl⟩
  have HR1 : Hid (Blk w1 w.heap.size 68 [.int .u32 ra, .int .i64 rl, .int .i64 rp, .int .i64 rd, .int .i64 rm, .int .i64 rt, .slice rA rn rc]) := by show Blk _ _ _ _; rw [← hw1]; exact ((Blk.new w _ _).keep (belowA _ _)).keep (belowA _ _)
  have HP1 : Hid (Blk w1 (w.heap.size + 1) 47 [.int .i64 0, .slice none 0 0]) := by show Blk _ _ _ _; rw [← hw1]; exact (Blk.new2 w _ _ _).keep (belowA _ _)
  have HG0 : Hid (Blk w1 (w.heap.size + 1 + 1) 47 [.int .i64 0, .slice none 0 0]) := by show Blk _ _ _ _; rw [← hw1]; have h := Blk.new2 (w.alloc (.cells #[.int .u32 ra, .int .i64 rl, .int .i64 rp, .int .i64 rd, .int .i64 rm, .int .i64 rt, .slice rA rn rc] 68)) (.cells #[.int .i64 0, .slice none 0 0] 47) 47 #[.int .i64 0, .slice none 0 0]; simpa using h
  have HB1 : Hid (Below w.heap.size w w1) := by show Below _ _ _; rw [← hw1]; exact below3 (below3 (belowA _ _) (belowA _ _)) (belowA _ _)
  obtain ⟨w2, hw2⟩ : ∃ w2, w1.setRow (w.heap.size + 1 + 1) #[.int .i64 rn, .slice none 0 0] = w2 := ⟨_, rfl⟩
  have hsv : Save (w.heap.size + 1 + 1) w1 w2 := by rw [← hw2]; exact Save.row _ _ _
  have HR2 := Lib.hid (HR1.out.save hsv (by omega))
  have HP2 := Lib.hid (HP1.out.save hsv (by omega))
  have HG2 : Hid (Blk w2 (w.heap.size + 1 + 1) 47 [.int .i64 rn, .slice none 0 0]) := by show Blk _ _ _ _; rw [← hw2]; exact HG0.out.row _
  have HB2 := Lib.hid (HB1.out.trans (hsv.below (by omega) HB1.out.size))
  have HI0 : Hid (Grp1 w [.int .u32 ra, .int .i64 rl, .int .i64 rp, .int .i64 rd, .int .i64 rm, .int .i64 rt, .slice rA rn rc] rn (hs.map (pathOf os)) (.int .i64 (0 : Nat)) w2) := ⟨0, none, 0, [], Nat.zero_le _, rfl, HR2, HP2, HG2, Lib.hid (PRow.nil _ _), Lib.hid rfl, HB2⟩
  have HOW : Hid (∀ W, Below w.heap.size w W → Outs W B oA on oc os) := fun W h => ho.below (h.mono hB)
  have HKW : Hid (∀ W, Below w.heap.size w W → Recs W B 9 kA kn kc BK.vals bs) := fun W h => hk.below (h.mono hB)
  have HRW : Hid (∀ W, Below w.heap.size w W → XHops W B rA rn rc hs) := fun W h => Recs.below hr (h.mono hB)
  have HCW : Hid (∀ W, Below w.heap.size w W → W.cell? ⟨bb, 0, none⟩ = some (.slice kA kn kc) ∧ W.cell? ⟨bb, 1, none⟩ = some (.slice oA on oc)) := fun W h => ⟨(h.cell (p := ⟨bb, 0, none⟩) hbb).trans hb0, (h.cell (p := ⟨bb, 1, none⟩) hbb).trans hb1⟩
  have HHL : Hid (hs.length = rn) := hr.2
  have r6 := HR1.out.cell 6
  have s6 := HR2.out.cell 6
  simp only [List.getElem?_cons_zero, List.getElem?_cons_succ] at r6 s6
  have hlt1 := HG0.out.lt
  have hlt2 := HG2.out.lt
  have hN : w.heap.size < w1.heap.size := by omega
  have hN2 : w.heap.size < w2.heap.size := by omega
  clear hsv hk ho hr hb0 hb1
  go_enter Tryz.func58, Tryz.ntmps58
  go_wp2_with (refine wpList_store_blk rfl 47 _ _ rfl (w.heap.size + 1 + 1) rfl rfl HG0.out (by kernel_rfl) rfl (by kernel_rfl) ?_)
  try rw [hw2]
  go_wp2
  go_loopw [19] (fun iv wr => Grp1 w [.int .u32 ra, .int .i64 rl, .int .i64 rp, .int .i64 rd, .int .i64 rm, .int .i64 rt, .slice rA rn rc] rn (hs.map (pathOf os)) iv wr) (fun iv _ => rn - (intOf iv).toNat)
  case atStart => exact HI0.out
  case round =>
    obtain ⟨k, A, c, ps, hk, rfl, hR, hP, hG, hW, hD, hB2⟩ := hrel
    clear HI0 r6 s6 hN hN2 hlt1 hlt2 hw1 hw2 HR1 HP1 HG0 HB1 HR2 HP2 HG2 HB2
    by_cases hlt : k < rn
    case neg =>
      obtain rfl : rn = k := by omega
      have HD2 : Hid (ps.map PV.dat = grpTo bs os hs 0) := by
        show _ = _
        rw [hD.out, List.take_of_length_le (by rw [List.length_map, HHL.out]; omega)]
        rfl
      have HI2 : Hid (Grp2 w [.int .u32 ra, .int .i64 rl, .int .i64 rp, .int .i64 rd, .int .i64 rm, .int .i64 rt, .slice rA rn rc] rn bs os hs (.int .i64 (0 : Nat)) wr) := ⟨0, rn, A, c, ps, Nat.zero_le _, rfl, hR, hP, hG, hW, HD2, hB2⟩
      have t6 := hR.out.cell 6
      simp only [List.getElem?_cons_zero, List.getElem?_cons_succ] at t6
      have hlr := hR.out.lt
      clear HD2
      obtain ⟨wq, rfl⟩ : ∃ wq, wq = wr := ⟨_, rfl⟩
      go_wp2
      go_loopw [47] (fun iv wr => Grp2 w [.int .u32 ra, .int .i64 rl, .int .i64 rp, .int .i64 rd, .int .i64 rm, .int .i64 rt, .slice rA rn rc] rn bs os hs iv wr) (fun iv _ => rn - (intOf iv).toNat)
      case atStart => exact HI2.out
      case round =>
        clear HI2 t6 hlr hR hP hG hW hD hB2
        obtain ⟨j, n, A, c, ps, hk, rfl, hR, hP, hG, hW, hD, hB2⟩ := hrel
        by_cases hltj : j < rn
        case neg =>
          obtain rfl : rn = j := by omega
          have HLEN : Hid ((groupR bs os hs).length = n) := by
            show _ = _
            unfold groupR
            rw [HHL.out, ← hD.out, List.length_map, hW.out.len]
          have HDD : Hid (ps.map PV.dat = groupR bs os hs) := by
            show _ = _
            unfold groupR
            rw [HHL.out]
            exact hD.out
          obtain ⟨w6, hw6⟩ : ∃ w6, wr.setRow (w.heap.size + 1) #[.int .i64 rn, .slice A n c] = w6 := ⟨_, rfl⟩
          have hsv : Save (w.heap.size + 1) wr w6 := by rw [← hw6]; exact Save.row _ _ _
          have HB6 : Hid (Blk w6 (w.heap.size + 1) 47 [.int .i64 rn, .slice A n c]) := by show Blk _ _ _ _; rw [← hw6]; exact hP.out.row _
          have HL6 : Hid (Below w.heap.size w w6) := hB2.out.trans (hsv.below (by omega) hB2.out.size)
          have HP6 : Hid (PRow w6 (w.heap.size + 1 + 1 + 1) (.slice A n c) n ps) := hW.out.save hsv (by omega)
          have q0 := hG.out.cell 0
          have q1 := hG.out.cell 1
          simp only [List.getElem?_cons_zero, List.getElem?_cons_succ] at q0 q1
          have hlg := hG.out.lt
          clear hsv
          go_wp2_with (refine wpList_store_blk rfl 47 _ _ rfl (w.heap.size + 1) rfl rfl hP.out (by kernel_rfl) rfl (by kernel_rfl) ?_)
          try rw [hw6]
          refine bodyPost_ret (results_cell_row rfl _ _ (w.heap.size + 1) _ _ (0, 0) _ rfl HB6.out Tryz.underlying47 rfl (by kernel_rfl)) rfl ?_
          exact ⟨A, c, ps, by rw [HLEN.out], by rw [HLEN.out]; exact HP6.out.base (by omega), HDD.out, HL6.out⟩
        obtain ⟨b, o, x, rfl, hbB, hxk, c0, c1, c2, c3, c4, c5⟩ := XH.get (HRW.out _ hB2.out) hltj
        have hbw : b < wr.heap.size := by have := hB2.out.size; omega
        have HXK := Lib.hid hxk
        obtain ⟨xa, xi, xr, xw, xv, xl⟩ := x
        dsimp only at c0 c1 c2 c3 c4 c5
        clear hxk
        obtain ⟨wa, hwa⟩ : ∃ wa, wr.alloc (.cells #[.int .u32 xa, .int .i64 xi, .int .u32 xr, .int .i64 xw, .int .u32 xv, .int .i64 xl] 73) = wa := ⟨_, rfl⟩
        have hba : Below wr.heap.size wr wa := by rw [← hwa]; exact belowA _ _
        have HXA : Hid (Blk wa wr.heap.size 73 [.int .u32 xa, .int .i64 xi, .int .u32 xr, .int .i64 xw, .int .u32 xv, .int .i64 xl]) := by show Blk _ _ _ _; rw [← hwa]; exact Blk.new wr _ _
        have HBA := Lib.hid (below3 hB2.out hba)
        have hlx := HXA.out.lt
        have hbba : bb < wa.heap.size := by have := HBA.out.size; omega
        have HC := Lib.hid (backup_fib_any bb kA kn kc B bs ⟨xa, xi, xr, xw, xv, xl⟩ wa (HKW.out _ HBA.out) (by have := HBA.out.size; omega) hkn hbba (HCW.out _ HBA.out).1)
        dsimp only at HC
        obtain ⟨X, hX⟩ : ∃ X, backR xv xl xr bs = X := ⟨_, rfl⟩
        have HX : Hid (backR xv xl xr bs = X) := hX
        rw [hX] at HC
        have HRA := Lib.hid (hR.out.keep hba)
        have HPA := Lib.hid (hP.out.keep hba)
        have HGA := Lib.hid (hG.out.keep hba)
        have HWA := Lib.hid (hW.out.below hba)
        have HVB : Hid (∀ q, (Value.slice A n c).ownBlock = some q → q < wr.heap.size) := fun q e => (World.ownsRow.lt hW.out.row q e).2
        have hy := hop_s HXA.out
        obtain ⟨y0, y1, y2, y3, y4, y5⟩ := hy
        have hlr2 := hR.out.lt
        have hlg2 := hG.out.lt
        clear hba hX
        go_wp2_with fail
        refine HC.out.mono ?_
        rintro e w3 ⟨he, hb3⟩
        have HB3 := Lib.hid (below3 HBA.out hb3)
        have HX3 := Lib.hid (HXA.out.keep hb3)
        have HR3 := Lib.hid (HRA.out.keep hb3)
        have HP3 := Lib.hid (HPA.out.keep hb3)
        have HG3 := Lib.hid (HGA.out.keep hb3)
        have HW3 := Lib.hid (HWA.out.below hb3)
        have hsz3 := hb3.size
        clear HC hb3 HXA HRA HPA HGA HWA HBA y0 y1 y2 y3 y4 y5 c0 c1 c2 c3 c4 c5 hwa
        cases X with
        | none =>
          have he2 : e = .returned (.tuple #[.agg #[.int .i64 0, .int .u32 0, .int .u32 0, .int .i64 0, .slice none 0 0, .int .i64 0], .bool false]) := he
          subst he2
          clear he
          have HN : Hid (ps.map PV.dat = grpTo bs os hs (j + 1)) := by show _ = _; rw [grp_next_none HXK.out HX.out]; exact hD.out
          obtain ⟨w4, hw4⟩ : ∃ w4, w3.alloc (.cells #[.int .i64 0, .int .u32 0, .int .u32 0, .int .i64 0, .slice none 0 0, .int .i64 0] 57) = w4 := ⟨_, rfl⟩
          have hb4 : Below w3.heap.size w3 w4 := by rw [← hw4]; exact belowA _ _
          have HE4 : Hid (Blk w4 w3.heap.size 57 [.int .i64 0, .int .u32 0, .int .u32 0, .int .i64 0, .slice none 0 0, .int .i64 0]) := by show Blk _ _ _ _; rw [← hw4]; exact Blk.new w3 _ _
          obtain ⟨w5, hw5⟩ : ∃ w5, w4.setRow w3.heap.size #[.int .i64 0, .int .u32 0, .int .u32 0, .int .i64 0, .slice none 0 0, .int .i64 0] = w5 := ⟨_, rfl⟩
          have hsr : Save w3.heap.size w4 w5 := by rw [← hw5]; exact Save.row _ _ _
          have hl4 := hb4.size
          have HB4 := below3 HB3.out hb4
          have HB5 := Lib.hid (HB4.trans (hsr.below (by have := HB3.out.size; omega) HB4.size))
          have HR4 := Lib.hid ((HR3.out.keep hb4).save hsr (by omega))
          have HP4 := Lib.hid ((HP3.out.keep hb4).save hsr (by omega))
          have HG4 := Lib.hid ((HG3.out.keep hb4).save hsr (by omega))
          have HW4 : Hid (PRow w5 (w.heap.size + 1 + 1 + 1) (.slice A n c) n ps) := by
            have h1 := HW3.out.below hb4
            refine ⟨row_save h1.row hsr fun e => ?_, h1.len, fun p hp => ⟨?_, (h1.labs p hp).2⟩⟩
            · have := HVB.out _ e
              omega
            · have h2 := HW3.out.labs p hp
              refine ((ints_save ((h2.1).below hb4) hsr (by omega) fun hn ad e => ?_).more (by have := hsr.size; omega))
              obtain ⟨bq, oq, e3, hb3, _⟩ := h2.1.2.2.2 (by omega)
              rw [e] at e3
              injection e3 with e3
              subst e3
              show bq ≠ _
              omega
          clear hb4 hsr
          go_wp2_with (refine wpList_store_blk rfl 57 _ _ rfl w3.heap.size rfl rfl HE4.out (by kernel_rfl) rfl (by kernel_rfl) ?_)
          try rw [hw5]
          go_wp2
          exact ⟨⟨j + 1, n, A, c, ps, by omega, by go_num, HR4, HP4, HG4, HW4, HN, HB5⟩, by simp [intOf]; omega⟩
        | some x =>
          obtain ⟨zi, za, zr, zw, zA, zn, zc, zl, zb⟩ := x
          have he2 : e = .returned (.tuple #[.agg #[.int .i64 zi, .int .u32 za, .int .u32 zr, .int .i64 zw, .slice zA zn zc, .int .i64 zb], .bool true]) := he
          subst he2
          clear he
          obtain ⟨w4, hw4⟩ : ∃ w4, w3.alloc (.cells #[.int .i64 zi, .int .u32 za, .int .u32 zr, .int .i64 zw, .slice zA zn zc, .int .i64 zb] 57) = w4 := ⟨_, rfl⟩
          have hb4 : Below w3.heap.size w3 w4 := by rw [← hw4]; exact belowA _ _
          have HY4 : Hid (Blk w4 w3.heap.size 57 [.int .i64 zi, .int .u32 za, .int .u32 zr, .int .i64 zw, .slice zA zn zc, .int .i64 zb]) := by show Blk _ _ _ _; rw [← hw4]; exact Blk.new w3 _ _
          have HB4 := Lib.hid (below3 HB3.out hb4)
          have HX4 := Lib.hid (HX3.out.keep hb4)
          have HR4 := Lib.hid (HR3.out.keep hb4)
          have HP4 := Lib.hid (HP3.out.keep hb4)
          have HG4 := Lib.hid (HG3.out.keep hb4)
          have HW4 := Lib.hid (HW3.out.below hb4)
          have q1 := HG4.out.cell 1
          simp only [List.getElem?_cons_zero, List.getElem?_cons_succ] at q1
          have hlg4 := HG4.out.lt
          have hly4 := HY4.out.lt
          clear hb4 HX3 HR3 HP3 HG3 HW3
          by_cases hfull : 64 ≤ n
          · have HN : Hid (ps.map PV.dat = grpTo bs os hs (j + 1)) := by
              show _ = _
              rw [grp_next_full (h := ⟨xa, xi, xr, xw, xv, xl⟩) (by rw [← hD.out, List.length_map, hW.out.len]; exact hfull)]
              exact hD.out
            have dfull : decide ((n : Int) ≥ 64) = true := decide_eq_true (by omega)
            have dfull2 : decide (64 ≤ n) = true := decide_eq_true hfull
            have dfull3 : decide ((64 : Int) ≤ (n : Int)) = true := decide_eq_true (by omega)
            clear hfull
            go_wp2
            exact ⟨⟨j + 1, n, A, c, ps, by omega, by go_num, HR4, HP4, HG4, HW4, HN, HB4⟩, by simp [intOf]; omega⟩
          · have dfull : decide ((n : Int) ≥ 64) = false := decide_eq_false (by omega)
            have dfull2 : decide (64 ≤ n) = false := decide_eq_false hfull
            have dfull3 : decide ((64 : Int) ≤ (n : Int)) = false := decide_eq_false (by omega)
            have hn64 : n ≤ 1000 := by omega
            obtain ⟨g, rfl, hg1, hg2⟩ := hW.out.form (by have := (grpTo_len bs os hs j).1; rw [← hD.out, List.length_map, hW.out.len, HHL.out] at this; omega)
            have hnj : j < n := by
              have := (grpTo_len bs os hs j).1
              rw [← hD.out, List.length_map, hW.out.len, HHL.out] at this
              omega
            obtain ⟨p, hp⟩ : ∃ p, ps[j]? = some p := ⟨_, List.getElem?_eq_getElem (by rw [hW.out.len]; exact hnj)⟩
            have hfz := HW4.out.frozen (j * 6 + 5)
            have hcc : w4.cell? ⟨g, j * 6 + 5, none⟩ = some (.int .i64 p.backup) := HW4.out.get hp (k := 5) (by omega)
            have hg4 : g < w4.heap.size := by have := HB4.out.size; omega
            obtain ⟨w5, hw5⟩ : ∃ w5, w4.setCell ⟨g, j * 6 + 5, none⟩ (.int .i64 n) = w5 := ⟨_, rfl⟩
            have hsg : Save g w4 w5 := by rw [← hw5]; exact Save.set
            have HW5 : Hid (PRow w5 (w.heap.size + 1 + 1 + 1) (.slice (some ⟨g, 0, none⟩) n c) n (ps.set j { p with backup := n })) := by
              show PRow _ _ _ _ _
              rw [← hw5]
              exact HW4.out.setBackup hp n
            have HY5 := HY4.out.save hsg (by omega)
            have HX5 := HX4.out.save hsg (by omega)
            have HR5 := HR4.out.save hsg (by omega)
            have HP5 := HP4.out.save hsg (by omega)
            have HG5 := HG4.out.save hsg (by omega)
            have HB5 : Below w.heap.size w w5 := HB4.out.trans (hsg.below (by omega) HB4.out.size)
            obtain ⟨wD, hwD⟩ : ∃ wD, w5.drew = wD := ⟨_, rfl⟩
            have hbD : Below w5.heap.size w5 wD := by rw [← hwD]; exact (Below.refl _ _).drew
            have HXD := Lib.hid (HX5.keep hbD)
            have HYD := Lib.hid (HY5.keep hbD)
            have HRD := Lib.hid (HR5.keep hbD)
            have HZD := Lib.hid (HP5.keep hbD)
            have HGD := Lib.hid (HG5.keep hbD)
            have HPD := Lib.hid (HW5.out.below hbD)
            have HBD := Lib.hid (below3 HB5 hbD)
            have hszD : wr.heap.size ≤ wD.heap.size := by have h1 := hsg.size; have h2 := hbD.size; have h3 := HX4.out.lt; omega
            have hxl := HXD.out.lt
            have hyl := HYD.out.lt
            have HSD := Lib.hid (hop_path_s HXD.out HYD.out)
            have gD := HGD.out.cell 1
            simp only [List.getElem?_cons_zero, List.getElem?_cons_succ] at gD
            have hlD := HGD.out.lt
            have hbbD : bb < wD.heap.size := by have := HBD.out.size; omega
            have HC := Lib.hid (label_fib_any bb oA on oc B os xv xl zr wD (HOW.out _ HBD.out) (by have := HBD.out.size; omega) hon hbbD (HCW.out _ HBD.out).2)
            obtain ⟨LL, hLL⟩ : ∃ LL, labelR xv xl zr os = LL := ⟨_, rfl⟩
            have HLN : Hid ((ps.set j { p with backup := n }).map PV.dat ++ [⟨zi, za, zr, xw, none, LL.length, 0, LL, -1⟩] = grpTo bs os hs (j + 1)) := by
              have hgl : (grpTo bs os hs j).length = n := by rw [← hD.out, List.length_map, hW.out.len]
              show _ = _
              rw [grp_next_add HXK.out HX.out (by rw [hgl]; exact hfull) (p := p.dat) (by rw [← hD.out, List.getElem?_map, hp]; rfl), set_dat hp, hD.out, hgl, ← hLL]
              rfl
            rw [hLL] at HC
            clear hLL hbD HY5 HX5 HR5 HP5 HG5 HB5 hsg hfull hg1
            go_upto_region 13 with fail
            try rw [hw5]
            refine wp_region_noPanic ?_
            refine wp_region_held_drew (S := fun V => V.cell? ⟨wr.heap.size, 3, none⟩ = some (.int .i64 xw) ∧ V.cell? ⟨wr.heap.size, 4, none⟩ = some (.int .u32 xv) ∧ V.cell? ⟨wr.heap.size, 5, none⟩ = some (.int .i64 xl) ∧ V.cell? ⟨w3.heap.size, 0, none⟩ = some (.int .i64 zi) ∧ V.cell? ⟨w3.heap.size, 1, none⟩ = some (.int .u32 za) ∧ V.cell? ⟨w3.heap.size, 2, none⟩ = some (.int .u32 zr)) (by kernel_rfl) (by rw [hwD]; exact HSD.out) (fun hHeld => ?_)
            rw [hwD] at hHeld ⊢
            clear hw5 hwD
            refine take_in (i := 0) _ (some 74) (by kernel_rfl) (by kernel_rfl) (by kernel_rfl) (by kernel_rfl) (fun _ _ _ h => h) (by rfl) (fun o ho w hSw => by cases ho; (try dsimp only at hSw); (try go_split_ands); go_simp; (try with_reducible rfl)) hHeld ?_
            try simp only [Act.put, List.setIfInBounds_toArray, List.set_cons_zero, List.set_cons_succ]
            refine take_in (i := 2) _ (some 76) (by kernel_rfl) (by kernel_rfl) (by kernel_rfl) (by kernel_rfl) (fun _ _ _ h => h) (by rfl) (fun o ho w hSw => by cases ho; (try dsimp only at hSw); (try go_split_ands); go_simp; (try with_reducible rfl)) hHeld ?_
            try simp only [Act.put, List.setIfInBounds_toArray, List.set_cons_zero, List.set_cons_succ]
            refine take_in (i := 3) _ (some 77) (by kernel_rfl) (by kernel_rfl) (by kernel_rfl) (by kernel_rfl) (fun _ _ _ h => h) (by rfl) (fun o ho w hSw => by cases ho; (try dsimp only at hSw); (try go_split_ands); go_simp; (try with_reducible rfl)) hHeld ?_
            try simp only [Act.put, List.setIfInBounds_toArray, List.set_cons_zero, List.set_cons_succ]
            refine take_in (i := 4) _ (some 78) (by kernel_rfl) (by kernel_rfl) (by kernel_rfl) (by kernel_rfl) (fun _ _ _ h => h) (by rfl) (fun o ho w hSw => by cases ho; (try dsimp only at hSw); (try go_split_ands); go_simp; (try with_reducible rfl)) hHeld ?_
            try simp only [Act.put, List.setIfInBounds_toArray, List.set_cons_zero, List.set_cons_succ]
            refine take_in (i := 5) _ (some 79) (by kernel_rfl) (by kernel_rfl) (by kernel_rfl) (by kernel_rfl) (fun _ _ _ h => h) (by rfl) (fun o ho w hSw => by cases ho; (try dsimp only at hSw); (try go_split_ands); go_simp; (try with_reducible rfl)) hHeld ?_
            try simp only [Act.put, List.setIfInBounds_toArray, List.set_cons_zero, List.set_cons_succ]
            refine take_in (i := 6) _ (some 80) (by kernel_rfl) (by kernel_rfl) (by kernel_rfl) (by kernel_rfl) (fun _ _ _ h => h) (by rfl) (fun o ho w hSw => by cases ho; (try dsimp only at hSw); (try go_split_ands); go_simp; (try with_reducible rfl)) hHeld ?_
            try simp only [Act.put, List.setIfInBounds_toArray, List.set_cons_zero, List.set_cons_succ]
            refine take_in (i := 7) _ (some 81) (by kernel_rfl) (by kernel_rfl) (by kernel_rfl) (by kernel_rfl) (fun _ _ _ h => h) (by rfl) (fun o ho w hSw => by cases ho; (try dsimp only at hSw); (try go_split_ands); go_simp; (try with_reducible rfl)) hHeld ?_
            try simp only [Act.put, List.setIfInBounds_toArray, List.set_cons_zero, List.set_cons_succ]
            refine take_in (i := 8) _ (some 82) (by kernel_rfl) (by kernel_rfl) (by kernel_rfl) (by kernel_rfl) (fun _ _ _ h => h) (by rfl) (fun o ho w hSw => by cases ho; (try dsimp only at hSw); (try go_split_ands); go_simp; (try with_reducible rfl)) hHeld ?_
            try simp only [Act.put, List.setIfInBounds_toArray, List.set_cons_zero, List.set_cons_succ]
            refine take_in (i := 9) _ (some 83) (by kernel_rfl) (by kernel_rfl) (by kernel_rfl) (by kernel_rfl) (fun _ _ _ h => h) (by rfl) (fun o ho w hSw => by cases ho; (try dsimp only at hSw); (try go_split_ands); go_simp; (try with_reducible rfl)) hHeld ?_
            try simp only [Act.put, List.setIfInBounds_toArray, List.set_cons_zero, List.set_cons_succ]
            refine take_in (i := 10) _ (some 84) (by kernel_rfl) (by kernel_rfl) (by kernel_rfl) (by kernel_rfl) (fun _ _ _ h => h) (by rfl) (fun o ho w hSw => by cases ho; (try dsimp only at hSw); (try go_split_ands); go_simp; (try with_reducible rfl)) hHeld ?_
            try simp only [Act.put, List.setIfInBounds_toArray, List.set_cons_zero, List.set_cons_succ]
            refine take_in (i := 11) _ (some 85) (by kernel_rfl) (by kernel_rfl) (by kernel_rfl) (by kernel_rfl) (fun _ _ _ h => h) (by rfl) (fun o ho w hSw => by cases ho; (try dsimp only at hSw); (try go_split_ands); go_simp; (try with_reducible rfl)) hHeld ?_
            try simp only [Act.put, List.setIfInBounds_toArray, List.set_cons_zero, List.set_cons_succ]
            refine take_in (i := 12) _ (some 86) (by kernel_rfl) (by kernel_rfl) (by kernel_rfl) (by kernel_rfl) (fun _ _ _ h => h) (by rfl) (fun o ho w hSw => by cases ho; (try dsimp only at hSw); (try go_split_ands); go_simp; (try with_reducible rfl)) hHeld ?_
            try simp only [Act.put, List.setIfInBounds_toArray, List.set_cons_zero, List.set_cons_succ]
            refine take_in (i := 13) _ (some 87) (by kernel_rfl) (by kernel_rfl) (by kernel_rfl) (by kernel_rfl) (fun _ _ _ h => h) (by rfl) (fun o ho w hSw => by cases ho; (try dsimp only at hSw); (try go_split_ands); go_simp; (try with_reducible rfl)) hHeld ?_
            try simp only [Act.put, List.setIfInBounds_toArray, List.set_cons_zero, List.set_cons_succ]
            refine take_in (i := 14) _ (some 88) (by kernel_rfl) (by kernel_rfl) (by kernel_rfl) (by kernel_rfl) (fun _ _ _ h => h) (by rfl) (fun o ho w hSw => by cases ho; (try dsimp only at hSw); (try go_split_ands); go_simp; (try with_reducible rfl)) hHeld ?_
            try simp only [Act.put, List.setIfInBounds_toArray, List.set_cons_zero, List.set_cons_succ]
            refine wpAnyH_ready (rs := [1, 15]) (by kernel_rfl) (by simp) ?_
            refine AllReadyH.cons (o := _) rfl (fun K hK => ?_) (AllReadyH.cons (o := _) rfl (fun K hK => ?_) AllReadyH.nil)
            · go_simp
              refine hK.out _ _ hHeld (fun hHeld => ?_)
              clear hK K
              try simp only [Act.put, List.setIfInBounds_toArray, List.set_cons_zero, List.set_cons_succ]
              refine wpAnyH_ready (rs := [15]) (by kernel_rfl) (by simp) ?_
              refine AllReadyH.cons (o := _) rfl (fun K hK => ?_) AllReadyH.nil
              go_simp
              go_at_call 91
              with_reducible refine HC.out.mono ?_
              rintro e w7 ⟨A2, c2, rfl, hown, hb7⟩
              have hi7 := hown.ints
              have hA2 : ∀ ad, A2 = some ad → wD.heap.size ≤ ad.block := fun ad e => (World.ownsRow.lt hown ad.block (by rw [e]; rfl)).1
              have hsz7 := hb7.size
              obtain ⟨A', c', w8, hr8, hp8, hb8, hfar⟩ := path_push (HPD.out.below hb7) ⟨zi, za, zr, xw, A2, LL.length, c2, LL, -1⟩ hi7 (fun hn ad e => ⟨by have := hA2 ad e; omega, fun e2 => by have := hA2 ad e; have := HVB.out _ e2; omega⟩) rfl (by omega) (by omega)
              dsimp only at hr8
              have HR := Lib.hid hr8
              obtain ⟨wB, hwB⟩ : ∃ wB, w7.alloc (.cells #[.int .i64 zi, .int .u32 za, .int .u32 zr, .int .i64 xw, .slice A2 LL.length c2, .int .i64 (-1)] 57) = wB := ⟨_, rfl⟩
              rw [hwB] at HR
              have hbB : Below w7.heap.size w7 wB := by rw [← hwB]; exact belowA _ _
              have HX7 := HXD.out.keep hb7
              have HY7 := HYD.out.keep hb7
              have HS3 := Lib.hid (hop_path_s HX7 HY7)
              have HSB := Lib.hid (hop_path_s (HX7.keep hbB) (HY7.keep hbB))
              have HX8 : Blk w8 wr.heap.size 73 [.int .u32 xa, .int .i64 xi, .int .u32 xr, .int .i64 xw, .int .u32 xv, .int .i64 xl] := by
                unfold Blk at HX7 ⊢
                rw [hfar _ (by omega) (fun e => by have := HVB.out _ e; omega)]
                exact HX7
              have HY8 : Blk w8 w3.heap.size 57 [.int .i64 zi, .int .u32 za, .int .u32 zr, .int .i64 zw, .slice zA zn zc, .int .i64 zb] := by
                unfold Blk at HY7 ⊢
                rw [hfar _ (by omega) (fun e => by have := HVB.out _ e; omega)]
                exact HY7
              have HS4 := Lib.hid (hop_path_s HX8 HY8)
              have hg7 := HGD.out.keep hb7
              have hgB := hg7.keep hbB
              have hg8 : Blk w8 (w.heap.size + 1 + 1) 47 [.int .i64 rn, .slice (some ⟨g, 0, none⟩) n c] := hg7.below hb8 (by omega)
              have hsv : Save (w.heap.size + 1 + 1) w8 (w8.setCell ⟨w.heap.size + 1 + 1, 1, none⟩ (.slice A' (n + 1) c')) := Save.set
              have HS5 := Lib.hid (hop_path_s (HX8.save hsv (by omega)) (HY8.save hsv (by omega)))
              have g7 := hg7.cell 1
              have gB := hgB.cell 1
              have g8 := hg8.cell 1
              have f8 := hg8.frozen 1
              simp only [List.getElem?_cons_zero, List.getElem?_cons_succ] at g7 gB g8
              have hl7 := hg7.lt
              have hlB := hgB.lt
              have hl8 := hg8.lt
              have HF : Hid (Grp2 w [.int .u32 ra, .int .i64 rl, .int .i64 rp, .int .i64 rd, .int .i64 rm, .int .i64 rt, .slice (some ⟨b, o, none⟩) rn rc] rn bs os hs (.int .i64 ((j + 1 : Nat) : Int)) (w8.setCell ⟨w.heap.size + 1 + 1, 1, none⟩ (.slice A' (n + 1) c'))) := by
                refine ⟨j + 1, n + 1, A', c', (ps.set j { p with backup := n }) ++ [⟨zi, za, zr, xw, A2, LL.length, c2, LL, -1⟩], by omega, rfl, ?_, ?_, ?_, ?_, ?_, ?_⟩
                · exact ((HRD.out.keep hb7).below hb8 (by omega)).save hsv (by omega)
                · exact ((HZD.out.keep hb7).below hb8 (by omega)).save hsv (by omega)
                · exact hg8.set 1 _
                · exact hp8.save hsv (by omega)
                · show _ = _
                  rw [List.map_append, ← HLN.out]
                  rfl
                · have h1 := below3 HBD.out hb7
                  exact (h1.trans (hb8.mono (by omega))).trans (hsv.below (by omega) (by have := h1.size; omega))
              clear hi7 hA2 hr8 hp8 hb8 hfar hown hb7 hbB HX7 HX8 HY7 HY8 hg7 hgB hg8 hsv
              refine hK.out _ _ HS3.out (fun hHeld => ?_)
              clear hK K
              try simp only [Act.put, List.setIfInBounds_toArray, List.set_cons_zero, List.set_cons_succ]
              refine take_in (i := 16) _ (some 90) (by kernel_rfl) (by kernel_rfl) (by kernel_rfl) (by kernel_rfl) (fun _ _ _ h => h) (by rfl) (fun o ho w hSw => by cases ho; (try dsimp only at hSw); (try go_split_ands); go_simp; (try with_reducible rfl)) hHeld ?_
              try simp only [Act.put, List.setIfInBounds_toArray, List.set_cons_zero, List.set_cons_succ]
              refine wpAnyH_ready (rs := [17]) (by kernel_rfl) (by simp) ?_
              refine AllReadyH.cons (o := _) rfl (fun K hK => ?_) AllReadyH.nil
              go_simp
              try rw [hwB]
              refine hK.out _ _ HSB.out (fun hHeld => ?_)
              clear hK K
              try simp only [Act.put, List.setIfInBounds_toArray, List.set_cons_zero, List.set_cons_succ]
              refine wpAnyH_ready (rs := [18]) (by kernel_rfl) (by simp) ?_
              refine AllReadyH.cons (o := _) rfl (fun K hK => ?_) AllReadyH.nil
              refine step_append_at (some 92) (by rfl) (by rfl) _ _ _ (by rfl) (by rfl) (by rfl) HR.out ?_
              refine hK.out _ _ HS4.out (fun hHeld => ?_)
              clear hK K
              try simp only [Act.put, List.setIfInBounds_toArray, List.set_cons_zero, List.set_cons_succ]
              refine take_in (i := 19) _ (some 93) (by kernel_rfl) (by kernel_rfl) (by kernel_rfl) (by kernel_rfl) (fun _ _ _ h => h) (by rfl) (fun o ho w hSw => by cases ho; (try dsimp only at hSw); (try go_split_ands); go_simp; (try with_reducible rfl)) hHeld ?_
              try simp only [Act.put, List.setIfInBounds_toArray, List.set_cons_zero, List.set_cons_succ]
              refine wpAnyH_ready (rs := [20]) (by kernel_rfl) (by simp) ?_
              refine AllReadyH.cons (o := _) rfl (fun K hK => ?_) AllReadyH.nil
              go_simp
              refine hK.out _ _ HS5.out (fun hHeld => ?_)
              clear hK K
              try simp only [Act.put, List.setIfInBounds_toArray, List.set_cons_zero, List.set_cons_succ]
              refine wpAnyH_done (by kernel_rfl) ?_ _
              refine NoPanic.normal ?_
              go_wp2
              exact ⟨HF.out, by simp [intOf]; omega⟩
            · go_simp
              go_at_call 91
              with_reducible refine HC.out.mono ?_
              rintro e w7 ⟨A2, c2, rfl, hown, hb7⟩
              have hi7 := hown.ints
              have hA2 : ∀ ad, A2 = some ad → wD.heap.size ≤ ad.block := fun ad e => (World.ownsRow.lt hown ad.block (by rw [e]; rfl)).1
              have hsz7 := hb7.size
              obtain ⟨A', c', w8, hr8, hp8, hb8, hfar⟩ := path_push (HPD.out.below hb7) ⟨zi, za, zr, xw, A2, LL.length, c2, LL, -1⟩ hi7 (fun hn ad e => ⟨by have := hA2 ad e; omega, fun e2 => by have := hA2 ad e; have := HVB.out _ e2; omega⟩) rfl (by omega) (by omega)
              dsimp only at hr8
              have HR := Lib.hid hr8
              obtain ⟨wB, hwB⟩ : ∃ wB, w7.alloc (.cells #[.int .i64 zi, .int .u32 za, .int .u32 zr, .int .i64 xw, .slice A2 LL.length c2, .int .i64 (-1)] 57) = wB := ⟨_, rfl⟩
              rw [hwB] at HR
              have hbB : Below w7.heap.size w7 wB := by rw [← hwB]; exact belowA _ _
              have HX7 := HXD.out.keep hb7
              have HY7 := HYD.out.keep hb7
              have HS3 := Lib.hid (hop_path_s HX7 HY7)
              have HSB := Lib.hid (hop_path_s (HX7.keep hbB) (HY7.keep hbB))
              have HX8 : Blk w8 wr.heap.size 73 [.int .u32 xa, .int .i64 xi, .int .u32 xr, .int .i64 xw, .int .u32 xv, .int .i64 xl] := by
                unfold Blk at HX7 ⊢
                rw [hfar _ (by omega) (fun e => by have := HVB.out _ e; omega)]
                exact HX7
              have HY8 : Blk w8 w3.heap.size 57 [.int .i64 zi, .int .u32 za, .int .u32 zr, .int .i64 zw, .slice zA zn zc, .int .i64 zb] := by
                unfold Blk at HY7 ⊢
                rw [hfar _ (by omega) (fun e => by have := HVB.out _ e; omega)]
                exact HY7
              have HS4 := Lib.hid (hop_path_s HX8 HY8)
              have hg7 := HGD.out.keep hb7
              have hgB := hg7.keep hbB
              have hg8 : Blk w8 (w.heap.size + 1 + 1) 47 [.int .i64 rn, .slice (some ⟨g, 0, none⟩) n c] := hg7.below hb8 (by omega)
              have hsv : Save (w.heap.size + 1 + 1) w8 (w8.setCell ⟨w.heap.size + 1 + 1, 1, none⟩ (.slice A' (n + 1) c')) := Save.set
              have HS5 := Lib.hid (hop_path_s (HX8.save hsv (by omega)) (HY8.save hsv (by omega)))
              have g7 := hg7.cell 1
              have gB := hgB.cell 1
              have g8 := hg8.cell 1
              have f8 := hg8.frozen 1
              simp only [List.getElem?_cons_zero, List.getElem?_cons_succ] at g7 gB g8
              have hl7 := hg7.lt
              have hlB := hgB.lt
              have hl8 := hg8.lt
              have HF : Hid (Grp2 w [.int .u32 ra, .int .i64 rl, .int .i64 rp, .int .i64 rd, .int .i64 rm, .int .i64 rt, .slice (some ⟨b, o, none⟩) rn rc] rn bs os hs (.int .i64 ((j + 1 : Nat) : Int)) (w8.setCell ⟨w.heap.size + 1 + 1, 1, none⟩ (.slice A' (n + 1) c'))) := by
                refine ⟨j + 1, n + 1, A', c', (ps.set j { p with backup := n }) ++ [⟨zi, za, zr, xw, A2, LL.length, c2, LL, -1⟩], by omega, rfl, ?_, ?_, ?_, ?_, ?_, ?_⟩
                · exact ((HRD.out.keep hb7).below hb8 (by omega)).save hsv (by omega)
                · exact ((HZD.out.keep hb7).below hb8 (by omega)).save hsv (by omega)
                · exact hg8.set 1 _
                · exact hp8.save hsv (by omega)
                · show _ = _
                  rw [List.map_append, ← HLN.out]
                  rfl
                · have h1 := below3 HBD.out hb7
                  exact (h1.trans (hb8.mono (by omega))).trans (hsv.below (by omega) (by have := h1.size; omega))
              clear hi7 hA2 hr8 hp8 hb8 hfar hown hb7 hbB HX7 HX8 HY7 HY8 hg7 hgB hg8 hsv
              refine hK.out _ _ HS3.out (fun hHeld => ?_)
              clear hK K
              try simp only [Act.put, List.setIfInBounds_toArray, List.set_cons_zero, List.set_cons_succ]
              refine take_in (i := 16) _ (some 90) (by kernel_rfl) (by kernel_rfl) (by kernel_rfl) (by kernel_rfl) (fun _ _ _ h => h) (by rfl) (fun o ho w hSw => by cases ho; (try dsimp only at hSw); (try go_split_ands); go_simp; (try with_reducible rfl)) hHeld ?_
              try simp only [Act.put, List.setIfInBounds_toArray, List.set_cons_zero, List.set_cons_succ]
              refine wpAnyH_ready (rs := [1, 17]) (by kernel_rfl) (by simp) ?_
              refine AllReadyH.cons (o := _) rfl (fun K hK => ?_) (AllReadyH.cons (o := _) rfl (fun K hK => ?_) AllReadyH.nil)
              · go_simp
                refine hK.out _ _ hHeld (fun hHeld => ?_)
                clear hK K
                try simp only [Act.put, List.setIfInBounds_toArray, List.set_cons_zero, List.set_cons_succ]
                refine wpAnyH_ready (rs := [17]) (by kernel_rfl) (by simp) ?_
                refine AllReadyH.cons (o := _) rfl (fun K hK => ?_) AllReadyH.nil
                go_simp
                try rw [hwB]
                refine hK.out _ _ HSB.out (fun hHeld => ?_)
                clear hK K
                try simp only [Act.put, List.setIfInBounds_toArray, List.set_cons_zero, List.set_cons_succ]
                refine wpAnyH_ready (rs := [18]) (by kernel_rfl) (by simp) ?_
                refine AllReadyH.cons (o := _) rfl (fun K hK => ?_) AllReadyH.nil
                refine step_append_at (some 92) (by rfl) (by rfl) _ _ _ (by rfl) (by rfl) (by rfl) HR.out ?_
                refine hK.out _ _ HS4.out (fun hHeld => ?_)
                clear hK K
                try simp only [Act.put, List.setIfInBounds_toArray, List.set_cons_zero, List.set_cons_succ]
                refine take_in (i := 19) _ (some 93) (by kernel_rfl) (by kernel_rfl) (by kernel_rfl) (by kernel_rfl) (fun _ _ _ h => h) (by rfl) (fun o ho w hSw => by cases ho; (try dsimp only at hSw); (try go_split_ands); go_simp; (try with_reducible rfl)) hHeld ?_
                try simp only [Act.put, List.setIfInBounds_toArray, List.set_cons_zero, List.set_cons_succ]
                refine wpAnyH_ready (rs := [20]) (by kernel_rfl) (by simp) ?_
                refine AllReadyH.cons (o := _) rfl (fun K hK => ?_) AllReadyH.nil
                go_simp
                refine hK.out _ _ HS5.out (fun hHeld => ?_)
                clear hK K
                try simp only [Act.put, List.setIfInBounds_toArray, List.set_cons_zero, List.set_cons_succ]
                refine wpAnyH_done (by kernel_rfl) ?_ _
                refine NoPanic.normal ?_
                go_wp2
                exact ⟨HF.out, by simp [intOf]; omega⟩
              · go_simp
                try rw [hwB]
                refine hK.out _ _ HSB.out (fun hHeld => ?_)
                clear hK K
                try simp only [Act.put, List.setIfInBounds_toArray, List.set_cons_zero, List.set_cons_succ]
                refine wpAnyH_ready (rs := [1]) (by kernel_rfl) (by simp) ?_
                refine AllReadyH.cons (o := _) rfl (fun K hK => ?_) AllReadyH.nil
                go_simp
                refine hK.out _ _ hHeld (fun hHeld => ?_)
                clear hK K
                try simp only [Act.put, List.setIfInBounds_toArray, List.set_cons_zero, List.set_cons_succ]
                refine wpAnyH_ready (rs := [18]) (by kernel_rfl) (by simp) ?_
                refine AllReadyH.cons (o := _) rfl (fun K hK => ?_) AllReadyH.nil
                refine step_append_at (some 92) (by rfl) (by rfl) _ _ _ (by rfl) (by rfl) (by rfl) HR.out ?_
                refine hK.out _ _ HS4.out (fun hHeld => ?_)
                clear hK K
                try simp only [Act.put, List.setIfInBounds_toArray, List.set_cons_zero, List.set_cons_succ]
                refine take_in (i := 19) _ (some 93) (by kernel_rfl) (by kernel_rfl) (by kernel_rfl) (by kernel_rfl) (fun _ _ _ h => h) (by rfl) (fun o ho w hSw => by cases ho; (try dsimp only at hSw); (try go_split_ands); go_simp; (try with_reducible rfl)) hHeld ?_
                try simp only [Act.put, List.setIfInBounds_toArray, List.set_cons_zero, List.set_cons_succ]
                refine wpAnyH_ready (rs := [20]) (by kernel_rfl) (by simp) ?_
                refine AllReadyH.cons (o := _) rfl (fun K hK => ?_) AllReadyH.nil
                go_simp
                refine hK.out _ _ HS5.out (fun hHeld => ?_)
                clear hK K
                try simp only [Act.put, List.setIfInBounds_toArray, List.set_cons_zero, List.set_cons_succ]
                refine wpAnyH_done (by kernel_rfl) ?_ _
                refine NoPanic.normal ?_
                go_wp2
                exact ⟨HF.out, by simp [intOf]; omega⟩
    obtain ⟨b, o, x, rfl, hbB, hxk, c0, c1, c2, c3, c4, c5⟩ := XH.get (HRW.out _ hB2.out) hlt
    have hbw : b < wr.heap.size := by have := hB2.out.size; omega
    have HXK := Lib.hid hxk
    obtain ⟨xa, xi, xr, xw, xv, xl⟩ := x
    dsimp only at c0 c1 c2 c3 c4 c5
    clear hxk
    obtain ⟨wa, hwa⟩ : ∃ wa, wr.alloc (.cells #[.int .u32 xa, .int .i64 xi, .int .u32 xr, .int .i64 xw, .int .u32 xv, .int .i64 xl] 73) = wa := ⟨_, rfl⟩
    have hba : Below wr.heap.size wr wa := by rw [← hwa]; exact belowA _ _
    have HXA : Hid (Blk wa wr.heap.size 73 [.int .u32 xa, .int .i64 xi, .int .u32 xr, .int .i64 xw, .int .u32 xv, .int .i64 xl]) := by show Blk _ _ _ _; rw [← hwa]; exact Blk.new wr _ _
    obtain ⟨wD, hwD⟩ : ∃ wD, wa.drew = wD := ⟨_, rfl⟩
    have hbD : Below wa.heap.size wa wD := by rw [← hwD]; exact (Below.refl _ _).drew
    have hba2 := below3 hba hbD
    have HXD := Lib.hid (HXA.out.keep hbD)
    have HRD := Lib.hid (hR.out.keep hba2)
    have HZD := Lib.hid (hP.out.keep hba2)
    have HGD := Lib.hid (hG.out.keep hba2)
    have HPD := Lib.hid (hW.out.below hba2)
    have HBD := Lib.hid (below3 hB2.out hba2)
    have HVB : Hid (∀ q, (Value.slice A k c).ownBlock = some q → q < wr.heap.size) := fun q e => (World.ownsRow.lt hW.out.row q e).2
    have hxl := HXD.out.lt
    have hglt := hG.out.lt
    have hszD := hba2.size
    have HSD := Lib.hid (hop_s HXD.out)
    have gD := HGD.out.cell 1
    simp only [List.getElem?_cons_zero, List.getElem?_cons_succ] at gD
    have hlD := HGD.out.lt
    have hbbD : bb < wD.heap.size := by have := HBD.out.size; omega
    have HC := Lib.hid (label_fib_any bb oA on oc B os xv xl xr wD (HOW.out _ HBD.out) (by have := HBD.out.size; omega) hon hbbD (HCW.out _ HBD.out).2)
    obtain ⟨LL, hLL⟩ : ∃ LL, labelR xv xl xr os = LL := ⟨_, rfl⟩
    have HLN : Hid ((hs.map (pathOf os)).take k ++ [⟨xi, xa, xr, xw, none, LL.length, 0, LL, -1⟩] = (hs.map (pathOf os)).take (k + 1)) := by
      show _ = _
      rw [List.take_add_one, List.getElem?_map, HXK.out, ← hLL]
      rfl
    rw [hLL] at HC
    clear hLL hba hbD hba2
    go_upto_region 5 with fail
    try rw [hwa]
    refine wp_region_noPanic ?_
    refine wp_region_held_drew (S := fun V => V.cell? ⟨wr.heap.size, 0, none⟩ = some (.int .u32 xa) ∧ V.cell? ⟨wr.heap.size, 1, none⟩ = some (.int .i64 xi) ∧ V.cell? ⟨wr.heap.size, 2, none⟩ = some (.int .u32 xr) ∧ V.cell? ⟨wr.heap.size, 3, none⟩ = some (.int .i64 xw) ∧ V.cell? ⟨wr.heap.size, 4, none⟩ = some (.int .u32 xv) ∧ V.cell? ⟨wr.heap.size, 5, none⟩ = some (.int .i64 xl)) (by kernel_rfl) (by rw [hwD]; exact HSD.out) (fun hHeld => ?_)
    rw [hwD] at hHeld ⊢
    clear hwa hwD c0 c1 c2 c3 c4 c5
    refine take_in (i := 0) _ (some 23) (by kernel_rfl) (by kernel_rfl) (by kernel_rfl) (by kernel_rfl) (fun _ _ _ h => h) (by rfl) (fun o ho w hSw => by cases ho; (try dsimp only at hSw); (try go_split_ands); go_simp; (try with_reducible rfl)) hHeld ?_
    try simp only [Act.put, List.setIfInBounds_toArray, List.set_cons_zero, List.set_cons_succ]
    refine take_in (i := 2) _ (some 25) (by kernel_rfl) (by kernel_rfl) (by kernel_rfl) (by kernel_rfl) (fun _ _ _ h => h) (by rfl) (fun o ho w hSw => by cases ho; (try dsimp only at hSw); (try go_split_ands); go_simp; (try with_reducible rfl)) hHeld ?_
    try simp only [Act.put, List.setIfInBounds_toArray, List.set_cons_zero, List.set_cons_succ]
    refine take_in (i := 3) _ (some 26) (by kernel_rfl) (by kernel_rfl) (by kernel_rfl) (by kernel_rfl) (fun _ _ _ h => h) (by rfl) (fun o ho w hSw => by cases ho; (try dsimp only at hSw); (try go_split_ands); go_simp; (try with_reducible rfl)) hHeld ?_
    try simp only [Act.put, List.setIfInBounds_toArray, List.set_cons_zero, List.set_cons_succ]
    refine take_in (i := 4) _ (some 27) (by kernel_rfl) (by kernel_rfl) (by kernel_rfl) (by kernel_rfl) (fun _ _ _ h => h) (by rfl) (fun o ho w hSw => by cases ho; (try dsimp only at hSw); (try go_split_ands); go_simp; (try with_reducible rfl)) hHeld ?_
    try simp only [Act.put, List.setIfInBounds_toArray, List.set_cons_zero, List.set_cons_succ]
    refine take_in (i := 5) _ (some 28) (by kernel_rfl) (by kernel_rfl) (by kernel_rfl) (by kernel_rfl) (fun _ _ _ h => h) (by rfl) (fun o ho w hSw => by cases ho; (try dsimp only at hSw); (try go_split_ands); go_simp; (try with_reducible rfl)) hHeld ?_
    try simp only [Act.put, List.setIfInBounds_toArray, List.set_cons_zero, List.set_cons_succ]
    refine take_in (i := 6) _ (some 29) (by kernel_rfl) (by kernel_rfl) (by kernel_rfl) (by kernel_rfl) (fun _ _ _ h => h) (by rfl) (fun o ho w hSw => by cases ho; (try dsimp only at hSw); (try go_split_ands); go_simp; (try with_reducible rfl)) hHeld ?_
    try simp only [Act.put, List.setIfInBounds_toArray, List.set_cons_zero, List.set_cons_succ]
    refine take_in (i := 7) _ (some 30) (by kernel_rfl) (by kernel_rfl) (by kernel_rfl) (by kernel_rfl) (fun _ _ _ h => h) (by rfl) (fun o ho w hSw => by cases ho; (try dsimp only at hSw); (try go_split_ands); go_simp; (try with_reducible rfl)) hHeld ?_
    try simp only [Act.put, List.setIfInBounds_toArray, List.set_cons_zero, List.set_cons_succ]
    refine take_in (i := 8) _ (some 31) (by kernel_rfl) (by kernel_rfl) (by kernel_rfl) (by kernel_rfl) (fun _ _ _ h => h) (by rfl) (fun o ho w hSw => by cases ho; (try dsimp only at hSw); (try go_split_ands); go_simp; (try with_reducible rfl)) hHeld ?_
    try simp only [Act.put, List.setIfInBounds_toArray, List.set_cons_zero, List.set_cons_succ]
    refine take_in (i := 9) _ (some 32) (by kernel_rfl) (by kernel_rfl) (by kernel_rfl) (by kernel_rfl) (fun _ _ _ h => h) (by rfl) (fun o ho w hSw => by cases ho; (try dsimp only at hSw); (try go_split_ands); go_simp; (try with_reducible rfl)) hHeld ?_
    try simp only [Act.put, List.setIfInBounds_toArray, List.set_cons_zero, List.set_cons_succ]
    refine take_in (i := 10) _ (some 33) (by kernel_rfl) (by kernel_rfl) (by kernel_rfl) (by kernel_rfl) (fun _ _ _ h => h) (by rfl) (fun o ho w hSw => by cases ho; (try dsimp only at hSw); (try go_split_ands); go_simp; (try with_reducible rfl)) hHeld ?_
    try simp only [Act.put, List.setIfInBounds_toArray, List.set_cons_zero, List.set_cons_succ]
    refine take_in (i := 11) _ (some 34) (by kernel_rfl) (by kernel_rfl) (by kernel_rfl) (by kernel_rfl) (fun _ _ _ h => h) (by rfl) (fun o ho w hSw => by cases ho; (try dsimp only at hSw); (try go_split_ands); go_simp; (try with_reducible rfl)) hHeld ?_
    try simp only [Act.put, List.setIfInBounds_toArray, List.set_cons_zero, List.set_cons_succ]
    refine take_in (i := 12) _ (some 35) (by kernel_rfl) (by kernel_rfl) (by kernel_rfl) (by kernel_rfl) (fun _ _ _ h => h) (by rfl) (fun o ho w hSw => by cases ho; (try dsimp only at hSw); (try go_split_ands); go_simp; (try with_reducible rfl)) hHeld ?_
    try simp only [Act.put, List.setIfInBounds_toArray, List.set_cons_zero, List.set_cons_succ]
    refine take_in (i := 13) _ (some 36) (by kernel_rfl) (by kernel_rfl) (by kernel_rfl) (by kernel_rfl) (fun _ _ _ h => h) (by rfl) (fun o ho w hSw => by cases ho; (try dsimp only at hSw); (try go_split_ands); go_simp; (try with_reducible rfl)) hHeld ?_
    try simp only [Act.put, List.setIfInBounds_toArray, List.set_cons_zero, List.set_cons_succ]
    refine take_in (i := 14) _ (some 37) (by kernel_rfl) (by kernel_rfl) (by kernel_rfl) (by kernel_rfl) (fun _ _ _ h => h) (by rfl) (fun o ho w hSw => by cases ho; (try dsimp only at hSw); (try go_split_ands); go_simp; (try with_reducible rfl)) hHeld ?_
    try simp only [Act.put, List.setIfInBounds_toArray, List.set_cons_zero, List.set_cons_succ]
    refine wpAnyH_ready (rs := [1, 15]) (by kernel_rfl) (by simp) ?_
    refine AllReadyH.cons (o := _) rfl (fun K hK => ?_) (AllReadyH.cons (o := _) rfl (fun K hK => ?_) AllReadyH.nil)
    · go_simp
      refine hK.out _ _ hHeld (fun hHeld => ?_)
      clear hK K
      try simp only [Act.put, List.setIfInBounds_toArray, List.set_cons_zero, List.set_cons_succ]
      refine wpAnyH_ready (rs := [15]) (by kernel_rfl) (by simp) ?_
      refine AllReadyH.cons (o := _) rfl (fun K hK => ?_) AllReadyH.nil
      go_simp
      go_at_call 91
      with_reducible refine HC.out.mono ?_
      rintro e w3 ⟨A2, c2, rfl, hown, hb3⟩
      have hi3 := hown.ints
      have hA2 : ∀ ad, A2 = some ad → wD.heap.size ≤ ad.block := fun ad e => (World.ownsRow.lt hown ad.block (by rw [e]; rfl)).1
      have hsz3 := hb3.size
      obtain ⟨A', c', w4, hr4, hp4, hb4, hfar⟩ := path_push (HPD.out.below hb3) ⟨xi, xa, xr, xw, A2, LL.length, c2, LL, -1⟩ hi3 (fun hn ad e => ⟨by have := hA2 ad e; omega, fun e2 => by have := hA2 ad e; have := HVB.out _ e2; omega⟩) rfl (by omega) (by omega)
      dsimp only at hr4
      have HR := Lib.hid hr4
      obtain ⟨wB, hwB⟩ : ∃ wB, w3.alloc (.cells #[.int .i64 xi, .int .u32 xa, .int .u32 xr, .int .i64 xw, .slice A2 LL.length c2, .int .i64 (-1)] 57) = wB := ⟨_, rfl⟩
      rw [hwB] at HR
      have hbB : Below w3.heap.size w3 wB := by rw [← hwB]; exact belowA _ _
      have HX3 := HXD.out.keep hb3
      have HS3 := Lib.hid (hop_s HX3)
      have HSB := Lib.hid (hop_s (HX3.keep hbB))
      have HX4 : Blk w4 wr.heap.size 73 [.int .u32 xa, .int .i64 xi, .int .u32 xr, .int .i64 xw, .int .u32 xv, .int .i64 xl] := by
        unfold Blk at HX3 ⊢
        rw [hfar _ (by omega) (fun e => by have := HVB.out _ e; omega)]
        exact HX3
      have HS4 := Lib.hid (hop_s HX4)
      have hg3 := HGD.out.keep hb3
      have hgB := hg3.keep hbB
      have hg4 : Blk w4 (w.heap.size + 1 + 1) 47 [.int .i64 rn, .slice A k c] := hg3.below hb4 (by omega)
      have hsv : Save (w.heap.size + 1 + 1) w4 (w4.setCell ⟨w.heap.size + 1 + 1, 1, none⟩ (.slice A' (k + 1) c')) := Save.set
      have HS5 := Lib.hid (hop_s (HX4.save hsv (by omega)))
      have g3 := hg3.cell 1
      have gB := hgB.cell 1
      have g4 := hg4.cell 1
      have f4 := hg4.frozen 1
      simp only [List.getElem?_cons_zero, List.getElem?_cons_succ] at g3 gB g4
      have hl3 := hg3.lt
      have hlB := hgB.lt
      have hl4 := hg4.lt
      have HF : Hid (Grp1 w [.int .u32 ra, .int .i64 rl, .int .i64 rp, .int .i64 rd, .int .i64 rm, .int .i64 rt, .slice (some ⟨b, o, none⟩) rn rc] rn (hs.map (pathOf os)) (.int .i64 ((k + 1 : Nat) : Int)) (w4.setCell ⟨w.heap.size + 1 + 1, 1, none⟩ (.slice A' (k + 1) c'))) := by
        refine ⟨k + 1, A', c', ps ++ [⟨xi, xa, xr, xw, A2, LL.length, c2, LL, -1⟩], by omega, rfl, ?_, ?_, ?_, ?_, ?_, ?_⟩
        · exact ((HRD.out.keep hb3).below hb4 (by omega)).save hsv (by omega)
        · exact ((HZD.out.keep hb3).below hb4 (by omega)).save hsv (by omega)
        · exact hg4.set 1 _
        · exact hp4.save hsv (by omega)
        · show _ = _
          rw [List.map_append, hD.out, ← HLN.out]
          rfl
        · have h1 := below3 HBD.out hb3
          exact (h1.trans (hb4.mono (by omega))).trans (hsv.below (by omega) (by have := h1.size; omega))
      clear hi3 hA2 hr4 hp4 hb4 hfar hown hb3 hbB HX3 HX4 hg3 hgB hg4 hsv
      refine hK.out _ _ HS3.out (fun hHeld => ?_)
      clear hK K
      try simp only [Act.put, List.setIfInBounds_toArray, List.set_cons_zero, List.set_cons_succ]
      refine take_in (i := 16) _ (some 39) (by kernel_rfl) (by kernel_rfl) (by kernel_rfl) (by kernel_rfl) (fun _ _ _ h => h) (by rfl) (fun o ho w hSw => by cases ho; (try dsimp only at hSw); (try go_split_ands); go_simp; (try with_reducible rfl)) hHeld ?_
      try simp only [Act.put, List.setIfInBounds_toArray, List.set_cons_zero, List.set_cons_succ]
      refine wpAnyH_ready (rs := [17]) (by kernel_rfl) (by simp) ?_
      refine AllReadyH.cons (o := _) rfl (fun K hK => ?_) AllReadyH.nil
      go_simp
      try rw [hwB]
      refine hK.out _ _ HSB.out (fun hHeld => ?_)
      clear hK K
      try simp only [Act.put, List.setIfInBounds_toArray, List.set_cons_zero, List.set_cons_succ]
      refine wpAnyH_ready (rs := [18]) (by kernel_rfl) (by simp) ?_
      refine AllReadyH.cons (o := _) rfl (fun K hK => ?_) AllReadyH.nil
      refine step_append_at (some 41) (by rfl) (by rfl) _ _ _ (by rfl) (by rfl) (by rfl) HR.out ?_
      refine hK.out _ _ HS4.out (fun hHeld => ?_)
      clear hK K
      try simp only [Act.put, List.setIfInBounds_toArray, List.set_cons_zero, List.set_cons_succ]
      refine take_in (i := 19) _ (some 42) (by kernel_rfl) (by kernel_rfl) (by kernel_rfl) (by kernel_rfl) (fun _ _ _ h => h) (by rfl) (fun o ho w hSw => by cases ho; (try dsimp only at hSw); (try go_split_ands); go_simp; (try with_reducible rfl)) hHeld ?_
      try simp only [Act.put, List.setIfInBounds_toArray, List.set_cons_zero, List.set_cons_succ]
      refine wpAnyH_ready (rs := [20]) (by kernel_rfl) (by simp) ?_
      refine AllReadyH.cons (o := _) rfl (fun K hK => ?_) AllReadyH.nil
      go_simp
      refine hK.out _ _ HS5.out (fun hHeld => ?_)
      clear hK K
      try simp only [Act.put, List.setIfInBounds_toArray, List.set_cons_zero, List.set_cons_succ]
      refine wpAnyH_done (by kernel_rfl) ?_ _
      refine NoPanic.normal ?_
      go_wp2
      go_roundw
      case rel => exact HF.out
      case measure => simp [intOf]; omega
    · go_simp
      go_at_call 91
      with_reducible refine HC.out.mono ?_
      rintro e w3 ⟨A2, c2, rfl, hown, hb3⟩
      have hi3 := hown.ints
      have hA2 : ∀ ad, A2 = some ad → wD.heap.size ≤ ad.block := fun ad e => (World.ownsRow.lt hown ad.block (by rw [e]; rfl)).1
      have hsz3 := hb3.size
      obtain ⟨A', c', w4, hr4, hp4, hb4, hfar⟩ := path_push (HPD.out.below hb3) ⟨xi, xa, xr, xw, A2, LL.length, c2, LL, -1⟩ hi3 (fun hn ad e => ⟨by have := hA2 ad e; omega, fun e2 => by have := hA2 ad e; have := HVB.out _ e2; omega⟩) rfl (by omega) (by omega)
      dsimp only at hr4
      have HR := Lib.hid hr4
      obtain ⟨wB, hwB⟩ : ∃ wB, w3.alloc (.cells #[.int .i64 xi, .int .u32 xa, .int .u32 xr, .int .i64 xw, .slice A2 LL.length c2, .int .i64 (-1)] 57) = wB := ⟨_, rfl⟩
      rw [hwB] at HR
      have hbB : Below w3.heap.size w3 wB := by rw [← hwB]; exact belowA _ _
      have HX3 := HXD.out.keep hb3
      have HS3 := Lib.hid (hop_s HX3)
      have HSB := Lib.hid (hop_s (HX3.keep hbB))
      have HX4 : Blk w4 wr.heap.size 73 [.int .u32 xa, .int .i64 xi, .int .u32 xr, .int .i64 xw, .int .u32 xv, .int .i64 xl] := by
        unfold Blk at HX3 ⊢
        rw [hfar _ (by omega) (fun e => by have := HVB.out _ e; omega)]
        exact HX3
      have HS4 := Lib.hid (hop_s HX4)
      have hg3 := HGD.out.keep hb3
      have hgB := hg3.keep hbB
      have hg4 : Blk w4 (w.heap.size + 1 + 1) 47 [.int .i64 rn, .slice A k c] := hg3.below hb4 (by omega)
      have hsv : Save (w.heap.size + 1 + 1) w4 (w4.setCell ⟨w.heap.size + 1 + 1, 1, none⟩ (.slice A' (k + 1) c')) := Save.set
      have HS5 := Lib.hid (hop_s (HX4.save hsv (by omega)))
      have g3 := hg3.cell 1
      have gB := hgB.cell 1
      have g4 := hg4.cell 1
      have f4 := hg4.frozen 1
      simp only [List.getElem?_cons_zero, List.getElem?_cons_succ] at g3 gB g4
      have hl3 := hg3.lt
      have hlB := hgB.lt
      have hl4 := hg4.lt
      have HF : Hid (Grp1 w [.int .u32 ra, .int .i64 rl, .int .i64 rp, .int .i64 rd, .int .i64 rm, .int .i64 rt, .slice (some ⟨b, o, none⟩) rn rc] rn (hs.map (pathOf os)) (.int .i64 ((k + 1 : Nat) : Int)) (w4.setCell ⟨w.heap.size + 1 + 1, 1, none⟩ (.slice A' (k + 1) c'))) := by
        refine ⟨k + 1, A', c', ps ++ [⟨xi, xa, xr, xw, A2, LL.length, c2, LL, -1⟩], by omega, rfl, ?_, ?_, ?_, ?_, ?_, ?_⟩
        · exact ((HRD.out.keep hb3).below hb4 (by omega)).save hsv (by omega)
        · exact ((HZD.out.keep hb3).below hb4 (by omega)).save hsv (by omega)
        · exact hg4.set 1 _
        · exact hp4.save hsv (by omega)
        · show _ = _
          rw [List.map_append, hD.out, ← HLN.out]
          rfl
        · have h1 := below3 HBD.out hb3
          exact (h1.trans (hb4.mono (by omega))).trans (hsv.below (by omega) (by have := h1.size; omega))
      clear hi3 hA2 hr4 hp4 hb4 hfar hown hb3 hbB HX3 HX4 hg3 hgB hg4 hsv
      refine hK.out _ _ HS3.out (fun hHeld => ?_)
      clear hK K
      try simp only [Act.put, List.setIfInBounds_toArray, List.set_cons_zero, List.set_cons_succ]
      refine take_in (i := 16) _ (some 39) (by kernel_rfl) (by kernel_rfl) (by kernel_rfl) (by kernel_rfl) (fun _ _ _ h => h) (by rfl) (fun o ho w hSw => by cases ho; (try dsimp only at hSw); (try go_split_ands); go_simp; (try with_reducible rfl)) hHeld ?_
      try simp only [Act.put, List.setIfInBounds_toArray, List.set_cons_zero, List.set_cons_succ]
      refine wpAnyH_ready (rs := [1, 17]) (by kernel_rfl) (by simp) ?_
      refine AllReadyH.cons (o := _) rfl (fun K hK => ?_) (AllReadyH.cons (o := _) rfl (fun K hK => ?_) AllReadyH.nil)
      · go_simp
        refine hK.out _ _ hHeld (fun hHeld => ?_)
        clear hK K
        try simp only [Act.put, List.setIfInBounds_toArray, List.set_cons_zero, List.set_cons_succ]
        refine wpAnyH_ready (rs := [17]) (by kernel_rfl) (by simp) ?_
        refine AllReadyH.cons (o := _) rfl (fun K hK => ?_) AllReadyH.nil
        go_simp
        try rw [hwB]
        refine hK.out _ _ HSB.out (fun hHeld => ?_)
        clear hK K
        try simp only [Act.put, List.setIfInBounds_toArray, List.set_cons_zero, List.set_cons_succ]
        refine wpAnyH_ready (rs := [18]) (by kernel_rfl) (by simp) ?_
        refine AllReadyH.cons (o := _) rfl (fun K hK => ?_) AllReadyH.nil
        refine step_append_at (some 41) (by rfl) (by rfl) _ _ _ (by rfl) (by rfl) (by rfl) HR.out ?_
        refine hK.out _ _ HS4.out (fun hHeld => ?_)
        clear hK K
        try simp only [Act.put, List.setIfInBounds_toArray, List.set_cons_zero, List.set_cons_succ]
        refine take_in (i := 19) _ (some 42) (by kernel_rfl) (by kernel_rfl) (by kernel_rfl) (by kernel_rfl) (fun _ _ _ h => h) (by rfl) (fun o ho w hSw => by cases ho; (try dsimp only at hSw); (try go_split_ands); go_simp; (try with_reducible rfl)) hHeld ?_
        try simp only [Act.put, List.setIfInBounds_toArray, List.set_cons_zero, List.set_cons_succ]
        refine wpAnyH_ready (rs := [20]) (by kernel_rfl) (by simp) ?_
        refine AllReadyH.cons (o := _) rfl (fun K hK => ?_) AllReadyH.nil
        go_simp
        refine hK.out _ _ HS5.out (fun hHeld => ?_)
        clear hK K
        try simp only [Act.put, List.setIfInBounds_toArray, List.set_cons_zero, List.set_cons_succ]
        refine wpAnyH_done (by kernel_rfl) ?_ _
        refine NoPanic.normal ?_
        go_wp2
        go_roundw
        case rel => exact HF.out
        case measure => simp [intOf]; omega
      · go_simp
        try rw [hwB]
        refine hK.out _ _ HSB.out (fun hHeld => ?_)
        clear hK K
        try simp only [Act.put, List.setIfInBounds_toArray, List.set_cons_zero, List.set_cons_succ]
        refine wpAnyH_ready (rs := [1]) (by kernel_rfl) (by simp) ?_
        refine AllReadyH.cons (o := _) rfl (fun K hK => ?_) AllReadyH.nil
        go_simp
        refine hK.out _ _ hHeld (fun hHeld => ?_)
        clear hK K
        try simp only [Act.put, List.setIfInBounds_toArray, List.set_cons_zero, List.set_cons_succ]
        refine wpAnyH_ready (rs := [18]) (by kernel_rfl) (by simp) ?_
        refine AllReadyH.cons (o := _) rfl (fun K hK => ?_) AllReadyH.nil
        refine step_append_at (some 41) (by rfl) (by rfl) _ _ _ (by rfl) (by rfl) (by rfl) HR.out ?_
        refine hK.out _ _ HS4.out (fun hHeld => ?_)
        clear hK K
        try simp only [Act.put, List.setIfInBounds_toArray, List.set_cons_zero, List.set_cons_succ]
        refine take_in (i := 19) _ (some 42) (by kernel_rfl) (by kernel_rfl) (by kernel_rfl) (by kernel_rfl) (fun _ _ _ h => h) (by rfl) (fun o ho w hSw => by cases ho; (try dsimp only at hSw); (try go_split_ands); go_simp; (try with_reducible rfl)) hHeld ?_
        try simp only [Act.put, List.setIfInBounds_toArray, List.set_cons_zero, List.set_cons_succ]
        refine wpAnyH_ready (rs := [20]) (by kernel_rfl) (by simp) ?_
        refine AllReadyH.cons (o := _) rfl (fun K hK => ?_) AllReadyH.nil
        go_simp
        refine hK.out _ _ HS5.out (fun hHeld => ?_)
        clear hK K
        try simp only [Act.put, List.setIfInBounds_toArray, List.set_cons_zero, List.set_cons_succ]
        refine wpAnyH_done (by kernel_rfl) ?_ _
        refine NoPanic.normal ?_
        go_wp2
        go_roundw
        case rel => exact HF.out
        case measure => simp [intOf]; omega
end Go.Proofs.YtplppbgkkfjknaaGreatDoor
