/- The document's Build: the walk (printed by gen_rbd.py). FibBuilds, plain: tables of equal data have equal errors and are equal. -/
import Derived.Test.YtplppbgkkfjknaaGreatDoorG38
import Derived.Test.YtplppbgkkfjknaaGreatDoorG39
import Derived.Test.YtplppbgkkfjknaaGreatDoorG33
import Derived.Test.YtplppbgkkfjknaaGreatDoorG36
namespace Go.Proofs.YtplppbgkkfjknaaGreatDoor
open Go.RowKit

set_option linter.unusedVariables false
set_option linter.unusedSimpArgs false
set_option maxRecDepth 100000 in
set_option maxHeartbeats 16000000 in
theorem refBuild52_any (rA lA kA bA oA nA : Option Addr) (rn rc ln lc kn kc bn bc on oc nn nc B : Nat) (rs : List RT) (ls : List Int) (ks : List BK) (bs : List EV) (os : List LO) (ns : List NH) (w : World)
    (hr : Rts w B rA rn rc rs) (hl : Ints w B .u32 lA ln lc ls) (hk : Recs w B 9 kA kn kc BK.vals ks) (hb : Tab w B bA bn bc bs) (ho : Outs w B oA on oc os) (hn : Nears w B nA nn nc ns) (hB : B ≤ w.heap.size)
    (hrn : rn ≤ 1000) (hln : ln ≤ 140737488355328) (hkn : kn ≤ 140737488355328) (hbn : bn ≤ 140737488355328) (hon : on ≤ 140737488355328) (hnn : nn ≤ 140737488355328) (hrh : ∀ r ∈ rs, r.n ≤ 400) (hbp : ∀ e ∈ bs, e.n ≤ 140737488355328) (hw : WIn rs ks os) :
    Calls Tryz.prog 11 #[.slice rA rn rc, .slice lA ln lc, .slice kA kn kc, .slice bA bn bc, .slice oA on oc, .slice nA nn nc] w (GivesFIBR (routesErr rs) lA bA nA rn ln lc bn bc nn nc (buildS ks os rs) ls bs ns w) := by
  obtain ⟨w1, hw1⟩ : ∃ w1, w.alloc (.cells #[.slice none 0 0, .slice none 0 0, .slice none 0 0, .slice none 0 0, .slice none 0 0] 35) = w1 := ⟨_, rfl⟩
  have HZ1 : Hid (Blk w1 w.heap.size 35 [.slice none 0 0, .slice none 0 0, .slice none 0 0, .slice none 0 0, .slice none 0 0]) := by show Blk _ _ _ _; rw [← hw1]; exact Blk.new w _ _
  have HB1 : Hid (Below w.heap.size w w1) := by show Below _ _ _; rw [← hw1]; exact belowA _ _
  have hl1 := HZ1.out.lt
  have HRW : Hid (∀ W, Below w.heap.size w W → Rts W B rA rn rc rs) := fun W h => hr.below (h.mono hB)
  have HLW : Hid (∀ W, Below w.heap.size w W → Ints W B .u32 lA ln lc ls) := fun W h => hl.below (h.mono hB)
  have HKW : Hid (∀ W, Below w.heap.size w W → Recs W B 9 kA kn kc BK.vals ks) := fun W h => hk.below (h.mono hB)
  have HBW : Hid (∀ W, Below w.heap.size w W → Tab W B bA bn bc bs) := fun W h => hb.below (h.mono hB)
  have HOW : Hid (∀ W, Below w.heap.size w W → Outs W B oA on oc os) := fun W h => ho.below (h.mono hB)
  have HNW : Hid (∀ W, Below w.heap.size w W → Nears W B nA nn nc ns) := fun W h => Recs.below hn (h.mono hB)
  have HRL : Hid (rs.length = rn) := hr.1.2
  have HRH := Lib.hid hrh
  have HBP := Lib.hid hbp
  have HWI := Lib.hid hw
  have HC1 := Lib.hid (refRequired_any rA rn rc B rs w1 (HRW.out _ HB1.out) (by have := HB1.out.size; omega) (by omega))
  obtain ⟨R, hR⟩ : ∃ R, routesErr rs = R := ⟨_, rfl⟩
  rw [hR] at HC1 ⊢
  clear hr hl hk hb ho hn hrh hbp hw hR
  go_enter Tryz.func11, Tryz.ntmps11
  go_wp2_with fail
  refine HC1.out.mono ?_
  rintro e w2 ⟨rfl, hb2⟩
  have HB2 := Lib.hid (below3 HB1.out hb2)
  have HZ2 := Lib.hid (HZ1.out.keep hb2)
  have hl2 := HZ2.out.lt
  clear HC1 hb2 hw1
  by_cases hR0 : R = 0
  case neg =>
    have d1 : (R != 0) = true := by simp [hR0]
    have HR0 := Lib.hid hR0
    clear hR0
    obtain ⟨w3, hw3⟩ : ∃ w3, w2.setRow w.heap.size #[.slice none 0 0, .slice none 0 0, .slice none 0 0, .slice none 0 0, .slice none 0 0] = w3 := ⟨_, rfl⟩
    have HB3 : Hid (Blk w3 w.heap.size 35 [.slice none 0 0, .slice none 0 0, .slice none 0 0, .slice none 0 0, .slice none 0 0]) := by show Blk _ _ _ _; rw [← hw3]; exact HZ2.out.row _
    have HL3 : Hid (Below w.heap.size w w3) := by show Below _ _ _; rw [← hw3]; exact HB2.out.trans ((Save.row w.heap.size w2 _).below (Nat.le_refl _) HB2.out.size)
    go_wp2_with (refine wpList_store_blk rfl 35 _ _ rfl w.heap.size rfl rfl HZ2.out (by kernel_rfl) rfl (by kernel_rfl) ?_)
    try rw [hw3]
    refine bodyPost_ret (results_cell_row2 rfl _ w.heap.size _ rfl HB3.out Tryz.underlying35 rfl (by kernel_rfl)) rfl ?_
    exact ⟨HL3.out, .inl ⟨HR0.out, rfl⟩⟩
  subst hR0
  obtain ⟨wS, hwS⟩ : ∃ wS, w2.alloc (.cells #[.slice none 0 0, .slice none 0 0, .slice lA ln lc, .slice bA bn bc, .slice nA nn nc] 35) = wS := ⟨_, rfl⟩
  have hbS : Below w2.heap.size w2 wS := by rw [← hwS]; exact belowA _ _
  have HFS : Hid (Blk wS w2.heap.size 35 [.slice none 0 0, .slice none 0 0, .slice lA ln lc, .slice bA bn bc, .slice nA nn nc]) := by show Blk _ _ _ _; rw [← hwS]; exact Blk.new w2 _ _
  have HBS := Lib.hid (below3 HB2.out hbS)
  have HZS := Lib.hid (HZ2.out.keep hbS)
  have HFL : Hid (w2.heap.size < wS.heap.size) := HFS.out.lt
  have HI0 : Hid (RbI wS w2.heap.size rn (.slice lA ln lc) (.slice bA bn bc) (.slice nA nn nc) ks os rs (.int .i64 (0 : Nat)) wS) :=
    ⟨0, 0, none, none, 0, 0, [], [], Nat.zero_le _, rfl, Nat.le_refl _, Lib.hid ⟨HFS.out, GRow.nil _ _, World.ownsRow_nil _ _ _ _, (fun q h => by cases h), Below.refl _ _⟩, Lib.hid ⟨rfl, rfl, fun e he => (by cases he), fun g hg => (by cases hg)⟩⟩
  clear hbS
  go_wp2
  go_loopw [32] (fun iv wr => RbI wS w2.heap.size rn (.slice lA ln lc) (.slice bA bn bc) (.slice nA nn nc) ks os rs iv wr) (fun iv _ => rn - (intOf iv).toNat)
  case atStart => exact HI0.out
  case round =>
    obtain ⟨k, gn, tA, gA, tc, gc, gs, es, hk, rfl, hgk, hS, hD⟩ := hrel
    clear HI0 HFS hwS
    obtain ⟨wq, rfl⟩ : ∃ wq, wq = wr := ⟨_, rfl⟩
    have hsS := HFL.out
    have HBQ : Hid (Below w.heap.size w wq) := HBS.out.trans (hS.out.bel.mono (by omega))
    have HZQ : Hid (Blk wq w.heap.size 35 [.slice none 0 0, .slice none 0 0, .slice none 0 0, .slice none 0 0, .slice none 0 0]) := HZS.out.below hS.out.bel hl2
    have hsq := HBQ.out.size
    have hlF := hS.out.box.lt
    by_cases hlt : k < rn
    case neg =>
      obtain rfl : rn = k := by omega
      have hgl := hS.out.grow.len
      subst hgl
      have hDT : (gs.map GE.dat, es) = buildS ks os rs := by
        have h := hD.out.1
        rw [List.take_of_length_le (Nat.le_of_eq HRL.out)] at h
        exact h
      have hD1 : gs.map GE.dat = (buildS ks os rs).1 := congrArg Prod.fst hDT
      have hD2 : (buildS ks os rs).2 = es := (congrArg Prod.snd hDT).symm
      have HFA : Hid (FibAt wq wq.heap.size tA gA lA bA nA rn tc gs.length gc ln lc bn bc nn nc es gs ls bs ns) :=
        ⟨⟨⟨Cells.of_own hS.out.trow, hD.out.2.1⟩, hD.out.2.2.1⟩, hS.out.grow.grps, (HLW.out _ HBQ.out).more (by omega), (HBW.out _ HBQ.out).more (by omega), Recs.more (HNW.out _ HBQ.out) (by omega), by omega, by omega, hln, hbn, hnn, fun g hg => by have := (hD.out.2.2.2 g hg).1; omega, HBP.out⟩
      have HC8 := Lib.hid (refFibCheck_any tA gA lA bA nA rn tc gs.length gc ln lc bn bc nn nc wq.heap.size es gs ls bs ns wq HFA.out (Nat.le_refl _))
      have HG1 : Hid (∀ g ∈ gs, g.ps.length = g.n ∧ ∀ p ∈ g.ps, p.ls.length = p.ln) := fun g hg => ⟨(hS.out.grow.data g hg).1.1.2, fun p hp => ((hS.out.grow.data g hg).1.2 p hp).len⟩
      have HQ1 : Hid (0 < rn → ∀ ad, tA = some ad → ad.block ≠ w.heap.size) := fun _ ad e => by have := (World.ownsRow.lt hS.out.trow ad.block (by rw [e]; rfl)).1; omega
      have HQ2 : Hid (0 < gs.length → ∀ ad, gA = some ad → ad.block ≠ w.heap.size) := fun _ ad e => by have := (World.ownsRow.lt hS.out.grow.row ad.block (by rw [e]; rfl)).1; omega
      have HQ3 : Hid (∀ g ∈ gs, In (· ≠ w.heap.size) g.A g.n g.ps) := fun g hg => (hS.out.grow.data g hg).2.mono fun q h => by have := h.2; show q ≠ _; omega
      have HG3 : Hid (∀ g ∈ gs, g.n ≤ 1000 ∧ Short g.ps) := hD.out.2.2.2
      have HD1 := Lib.hid hD1
      have p0 := hS.out.box.cell 0
      have p1 := hS.out.box.cell 1
      have p2 := hS.out.box.cell 2
      have p3 := hS.out.box.cell 3
      have p4 := hS.out.box.cell 4
      simp only [List.getElem?_cons_zero, List.getElem?_cons_succ] at p0 p1 p2 p3 p4
      obtain ⟨E, hE⟩ : ∃ E, fibErr es gs ls bs ns = E := ⟨_, rfl⟩
      have HE : Hid (fibErr (buildS ks os rs).2 gs ls bs ns = E) := by show _ = _; rw [hD2]; exact hE
      have HD2 := Lib.hid hD2
      have HF8 : Hid (Blk wq w2.heap.size 35 [.slice tA rn tc, .slice gA gs.length gc, .slice lA ln lc, .slice bA bn bc, .slice nA nn nc]) := hS.out.box
      rw [hE] at HC8
      clear hS hD hDT hD1 hD2 hE
      go_wp2_with fail
      refine HC8.out.mono ?_
      rintro e w9 ⟨rfl, hb9⟩
      have HB9 := Lib.hid (below3 HBQ.out hb9)
      have HZ9 := Lib.hid (HZQ.out.keep hb9)
      have HF9 := Lib.hid (HF8.out.keep hb9)
      have HFA9 := Lib.hid (HFA.out.below hb9)
      have hs9 := hb9.size
      have hl9 := HZ9.out.lt
      clear HC8 hb9 p0 p1 p2 p3 p4
      by_cases hE0 : E = 0
      case neg =>
        have d1 : (E != 0) = true := by simp [hE0]
        have HE0 := Lib.hid hE0
        clear hE0
        obtain ⟨wz, hwz⟩ : ∃ wz, w9.setRow w.heap.size #[.slice none 0 0, .slice none 0 0, .slice none 0 0, .slice none 0 0, .slice none 0 0] = wz := ⟨_, rfl⟩
        have HBz : Hid (Blk wz w.heap.size 35 [.slice none 0 0, .slice none 0 0, .slice none 0 0, .slice none 0 0, .slice none 0 0]) := by show Blk _ _ _ _; rw [← hwz]; exact HZ9.out.row _
        have HLz : Hid (Below w.heap.size w wz) := by show Below _ _ _; rw [← hwz]; exact HB9.out.trans ((Save.row w.heap.size w9 _).below (Nat.le_refl _) HB9.out.size)
        go_wp2_with (refine wpList_store_blk rfl 35 _ _ rfl w.heap.size rfl rfl HZ9.out (by kernel_rfl) rfl (by kernel_rfl) ?_)
        try rw [hwz]
        refine bodyPost_ret (results_cell_row2 rfl _ w.heap.size _ rfl HBz.out Tryz.underlying35 rfl (by kernel_rfl)) rfl ?_
        exact ⟨HLz.out, .inr ⟨rfl, gs, HD1.out, HG1.out, .inl ⟨by rw [HE.out]; exact HE0.out, by rw [HE.out]; rfl⟩⟩⟩
      subst hE0
      have p0 := HF9.out.cell 0
      have p1 := HF9.out.cell 1
      have p2 := HF9.out.cell 2
      have p3 := HF9.out.cell 3
      have p4 := HF9.out.cell 4
      simp only [List.getElem?_cons_zero, List.getElem?_cons_succ] at p0 p1 p2 p3 p4
      have hl9F := HF9.out.lt
      obtain ⟨wz, hwz⟩ : ∃ wz, w9.setRow w.heap.size #[.slice tA rn tc, .slice gA gs.length gc, .slice lA ln lc, .slice bA bn bc, .slice nA nn nc] = wz := ⟨_, rfl⟩
      have HBz : Hid (Blk wz w.heap.size 35 [.slice tA rn tc, .slice gA gs.length gc, .slice lA ln lc, .slice bA bn bc, .slice nA nn nc]) := by show Blk _ _ _ _; rw [← hwz]; exact HZ9.out.row _
      have hsz : Save w.heap.size w9 wz := by rw [← hwz]; exact Save.row _ _ _
      have HLz : Hid (Below w.heap.size w wz) := HB9.out.trans (hsz.below (Nat.le_refl _) HB9.out.size)
      have HFz : Hid (FibAt wz wz.heap.size tA gA lA bA nA rn tc gs.length gc ln lc bn bc nn nc es gs ls bs ns) := by
        have hk9 : Keep (· ≠ w.heap.size) w9 wz := Keep.save hsz fun k h => h
        have hszz := hsz.size
        have hF := HFA9.out
        exact ⟨⟨⟨(cells_kp hF.t.1.1 hk9 hs9 HQ1.out).more (by omega), hF.t.1.2⟩, hF.t.2⟩, ⟨Recs.more ⟨cells_kp hF.g.1.1 hk9 hs9 HQ2.out, hF.g.1.2⟩ (by omega), fun g hg => (paths_kp (hF.g.2 g hg) hk9 hs9 (HQ3.out g hg)).more (by omega)⟩, (HLW.out _ HLz.out).more (by omega), (HBW.out _ HLz.out).more (by omega), Recs.more (HNW.out _ HLz.out) (by omega), hF.tn, hF.gn, hF.ln, hF.bn, hF.nn, hF.gp, hF.bp⟩
      clear hsz
      go_wp2_with (refine wpList_store_blk rfl 35 _ _ rfl w.heap.size rfl rfl HZ9.out (by kernel_rfl) rfl (by kernel_rfl) ?_)
      try rw [hwz]
      refine bodyPost_ret (results_cell_row2 rfl _ w.heap.size _ rfl HBz.out Tryz.underlying35 rfl (by kernel_rfl)) rfl ?_
      exact ⟨HLz.out, .inr ⟨rfl, gs, HD1.out, HG1.out, .inr ⟨HE.out, tA, gA, tc, gc, rfl, by rw [HD2.out]; exact HFz.out, HG3.out⟩⟩⟩
    obtain ⟨b, o, r, rfl, hbB, hrk, hrp, c0, c1, c2, c3, c4, c5, c6⟩ := (HRW.out _ HBQ.out).get hlt
    have hbw : b < wq.heap.size := by omega
    have HRM : Hid (∀ h ∈ r.hs, WHop h) := HWI.out.hops r (List.mem_of_getElem? hrk)
    have hr400 := HRH.out r (List.mem_of_getElem? hrk)
    have HRK := Lib.hid hrk
    obtain ⟨ra, rl, rp, rd, rm, rt, rA2, rn2, rc2, hs⟩ := r
    dsimp only at c0 c1 c2 c3 c4 c5 c6 hrp HRM hr400
    obtain ⟨hra, hrp2, hxh⟩ := hrp
    have hhl : hs.length = rn2 := hxh.2
    have HG := Lib.hid (refGroup52_any kA oA kn kc on oc B ks os ⟨ra, rl, rp, rd, rm, rt, rA2, rn2, rc2, hs⟩ wq (HKW.out _ HBQ.out) (HOW.out _ HBQ.out) hxh (by omega) hkn hon (by show rn2 ≤ _; omega))
    dsimp only at HG
    obtain ⟨G, hG⟩ : ∃ G, groupR ks os hs = G := ⟨_, rfl⟩
    have HGL : Hid (G.length ≤ 1000) := by
      have := (grpTo_len ks os hs hs.length).2
      show _ ≤ _
      rw [← hG]
      unfold groupR
      omega
    have HGW : Hid (∀ p ∈ G, WPath p ∧ p.ls.length ≤ 1) := by
      intro p hp
      rw [← hG] at hp
      exact grpTo_wide HRM.out HWI.out.backs HWI.out.labs (by omega) hs.length (Nat.le_refl _) p hp
    have HGE : Hid (grpD ks os ⟨ra, rl, rp, rd, rm, rt, rA2, rn2, rc2, hs⟩ = ((rn2 : Int), G)) := by show _ = _; rw [← hG]; rfl
    have hbF : b < w2.heap.size := by have := HB2.out.size; omega
    have HC0 : Hid (wS.cell? ⟨b, o + k * 7, none⟩ = some (.int .u32 ra)) := (hS.out.bel.cell (p := ⟨b, _, none⟩) hbF).symm.trans c0
    have HC1 : Hid (wS.cell? ⟨b, o + k * 7 + 1, none⟩ = some (.int .i64 rl)) := (hS.out.bel.cell (p := ⟨b, _, none⟩) hbF).symm.trans c1
    rw [hG] at HG
    clear hG hxh hrk
    go_wp2_with fail
    refine HG.out.mono ?_
    rintro e wG ⟨A, c, ps, rfl, hrow, hdat, hbg⟩
    have hszG := hbg.size
    obtain ⟨wg, hwg⟩ : ∃ wg, wG.alloc (.cells #[.int .i64 rn2, .slice A G.length c] 47) = wg := ⟨_, rfl⟩
    have hbA : Below wG.heap.size wG wg := by rw [← hwg]; exact belowA _ _
    have HGB : Hid (Blk wg wG.heap.size 47 [.int .i64 rn2, .slice A G.length c]) := by show Blk _ _ _ _; rw [← hwg]; exact Blk.new wG _ _
    have hbqg := below3 hbg hbA
    have HSG := Lib.hid (hS.out.below hbqg)
    have HBG := Lib.hid (below3 HBQ.out hbqg)
    have HQG := Lib.hid hbqg
    have hszg := hbqg.size
    have HPR : Hid (PRow wg wq.heap.size (.slice A G.length c) G.length ps) := hrow.below hbA
    have HDAT := Lib.hid hdat
    have HG0 : Hid (GE.dat ⟨rn2, A, G.length, c, ps⟩ = grpD ks os ⟨ra, rl, rp, rd, rm, rt, rA2, rn2, rc2, hs⟩) := by show _ = _; unfold GE.dat; dsimp only; rw [hdat, HGE.out]
    have HSH : Hid (Short ps) := by
      intro p hp
      have h1 := HGW.out p.dat (by rw [← hdat]; exact List.mem_map_of_mem hp)
      have h2 := (hrow.labs p hp).1.len
      have h3 : p.ls.length ≤ 1 := h1.2
      omega
    have HGN : Hid (gs.length = gn) := hS.out.grow.len
    have HTO : Hid (∀ q, (Value.slice tA k tc).ownBlock = some q → w2.heap.size + 1 ≤ q ∧ q < wq.heap.size) := fun q e => World.ownsRow.lt hS.out.trow q e
    have HGO : Hid (∀ q, (Value.slice gA gn gc).ownBlock = some q → w2.heap.size + 1 ≤ q ∧ q < wq.heap.size) := fun q e => World.ownsRow.lt hS.out.grow.row q e
    have HIN : Hid (In (fun q => ((Value.slice gA gn gc).ownBlock ≠ some q ∧ w2.heap.size + 1 ≤ q) ∧ (Value.slice tA k tc).ownBlock ≠ some q) A G.length ps) := by
      refine ⟨fun hn ad e => ?_, fun p hp hn ad e => ?_⟩
      · have h1 := (World.ownsRow.lt hrow.row ad.block (by rw [e]; rfl)).1
        exact ⟨⟨fun e2 => by have := HGO.out _ e2; omega, by omega⟩, fun e2 => by have := HTO.out _ e2; omega⟩
      · have h1 := ((hrow.labs p hp).2 hn ad e).1
        exact ⟨⟨fun e2 => by have := HGO.out _ e2; omega, by omega⟩, fun e2 => by have := HTO.out _ e2; omega⟩
    obtain ⟨P, hP⟩ : ∃ P : GE → Bool, (fun x => sameG x ⟨rn2, A, G.length, c, ps⟩) = P := ⟨_, rfl⟩
    have HPP : Hid (∀ x, P x = sameG x ⟨rn2, A, G.length, c, ps⟩) := fun x => by rw [← hP]
    have HNA : Hid (numG gs ⟨rn2, A, G.length, c, ps⟩ = if atTo P gs gn = gn then (gs ++ [⟨rn2, A, G.length, c, ps⟩], gn) else (gs, atTo P gs gn)) := by
      show _ = _
      rw [numG_at, hP, HGN.out]
    have f1 := HSG.out.box.cell 1
    simp only [List.getElem?_cons_zero, List.getElem?_cons_succ] at f1
    have hlg := HSG.out.box.lt
    have hgn1 : gn ≤ 1000 := by omega
    clear HG hrow hdat hbg hbA hbqg hP hS c0 c1 c2 c3 c4 c5 c6
    go_upto_region 9 with fail
    try rw [hwg]
    go_wp2
    go_loopw [18, 48] (fun av iv wr => ∃ m : Nat, m ≤ gn ∧ av = .int .i64 (atTo P gs m : Nat) ∧ iv = .int .i64 m ∧ Hid (Below wg.heap.size wg wr)) (fun _ iv _ => gn - (intOf iv).toNat)
    case atStart => exact ⟨0, Nat.zero_le _, by rw [atTo_zero, HGN.out], rfl, Lib.hid (Below.refl _ _)⟩
    case round =>
      obtain ⟨m, hm, rfl, rfl, hB6⟩ := hrel
      clear f1 hlg hwg
      obtain ⟨w3, rfl⟩ : ∃ w3, w3 = wr := ⟨_, rfl⟩
      have HS3 := Lib.hid (HSG.out.below hB6.out)
      have HB3 := Lib.hid (below3 HBG.out hB6.out)
      have HGB3 := Lib.hid (HGB.out.keep hB6.out)
      have HPR3 := Lib.hid (HPR.out.below hB6.out)
      have hs3 := hB6.out.size
      obtain ⟨at_, hat⟩ : ∃ at_, atTo P gs m = at_ := ⟨_, rfl⟩
      have HAT := Lib.hid hat
      have hale : at_ ≤ gn := by rw [← hat, ← HGN.out]; exact atTo_le _ _ _
      rw [hat]
      clear hat
      by_cases hltm : m < gn
      case pos =>
        obtain ⟨wD, hwD⟩ : ∃ wD, w3.drew = wD := ⟨_, rfl⟩
        have hbD : Below w3.heap.size w3 wD := by rw [← hwD]; exact (Below.refl _ _).drew
        have HBD := Lib.hid (below3 hB6.out hbD)
        have HSD3 := Lib.hid (HS3.out.below hbD)
        have HGBD := Lib.hid (HGB3.out.keep hbD)
        have HPRD := Lib.hid (HPR3.out.below hbD)
        have g1 : wD.cell? ⟨w2.heap.size, 1, none⟩ = some (.slice gA gn gc) := HSD3.out.box.cell 1
        obtain ⟨b5, o5, x, hgAe, hb5, hxk, hxp, e0, e1⟩ := HSD3.out.grow.grps.get hltm
        subst hgAe
        have HXK := Lib.hid hxk
        have hb5w : b5 < wD.heap.size := hb5
        have h0 : wD.cell? ⟨wG.heap.size, 0, none⟩ = some (.int .i64 rn2) := HGBD.out.cell 0
        have h1 : wD.cell? ⟨wG.heap.size, 1, none⟩ = some (.slice A G.length c) := HGBD.out.cell 1
        have hlb := HGBD.out.lt
        have hlf := HSD3.out.box.lt
        have hd3 := hD.out.2.2.2 x (List.mem_of_getElem? hxk)
        have HC := Lib.hid (sameGroup52_any x ⟨rn2, A, G.length, c, ps⟩ wD.heap.size wD hxp HPRD.out.paths (Nat.le_refl _) (by omega) (by show G.length ≤ _; have := HGL.out; omega) hd3.2 HSH.out)
        rw [← HPP.out x] at HC
        dsimp only at HC
        obtain ⟨eb, heb⟩ : ∃ eb, P x = eb := ⟨_, rfl⟩
        have HEB := Lib.hid heb
        rw [heb] at HC
        obtain ⟨x0, xA, xn, xc, xp⟩ := x
        dsimp only at e0 e1 HC
        have HSD : Hid (wD.cell? ⟨w2.heap.size, 1, none⟩ = some (.slice (some ⟨b5, o5, none⟩) gn gc) ∧ (wD.cell? ⟨wG.heap.size, 0, none⟩ = some (.int .i64 rn2) ∧ wD.cell? ⟨wG.heap.size, 1, none⟩ = some (.slice A G.length c)) ∧ wD.cell? ⟨b5, o5 + m * 2, none⟩ = some (.int .i64 x0) ∧ wD.cell? ⟨b5, o5 + m * 2 + 1, none⟩ = some (.slice xA xn xc)) := ⟨g1, ⟨h0, h1⟩, e0, e1⟩
        have HSW : Hid (∀ V, Below wD.heap.size wD V → V.cell? ⟨w2.heap.size, 1, none⟩ = some (.slice (some ⟨b5, o5, none⟩) gn gc) ∧ (V.cell? ⟨wG.heap.size, 0, none⟩ = some (.int .i64 rn2) ∧ V.cell? ⟨wG.heap.size, 1, none⟩ = some (.slice A G.length c)) ∧ V.cell? ⟨b5, o5 + m * 2, none⟩ = some (.int .i64 x0) ∧ V.cell? ⟨b5, o5 + m * 2 + 1, none⟩ = some (.slice xA xn xc)) := fun V hV => ⟨(hV.cell (p := ⟨_, _, none⟩) hlf).trans g1, ⟨(hV.cell (p := ⟨_, _, none⟩) hlb).trans h0, (hV.cell (p := ⟨_, _, none⟩) hlb).trans h1⟩, (hV.cell (p := ⟨b5, _, none⟩) hb5w).trans e0, (hV.cell (p := ⟨b5, _, none⟩) hb5w).trans e1⟩
        clear hbD g1 h0 h1 e0 e1 hxk hxp heb hd3 HSD3 HPRD
        by_cases hag : at_ = gn
        case neg =>
          have dag : ((at_ : Int) == (gn : Int)) = false := by simp; omega
          have HN : Hid (atTo P gs (m + 1) = at_) := by
            show _ = _
            rw [atTo_skip (by rw [HAT.out, HGN.out]; exact hag), HAT.out]
          clear HC hag
          go_upto_region 13 with fail
          refine wp_region_noPanic ?_
          refine wp_region_held_drew (S := fun V => V.cell? ⟨w2.heap.size, 1, none⟩ = some (.slice (some ⟨b5, o5, none⟩) gn gc) ∧ (V.cell? ⟨wG.heap.size, 0, none⟩ = some (.int .i64 rn2) ∧ V.cell? ⟨wG.heap.size, 1, none⟩ = some (.slice A G.length c)) ∧ V.cell? ⟨b5, o5 + m * 2, none⟩ = some (.int .i64 x0) ∧ V.cell? ⟨b5, o5 + m * 2 + 1, none⟩ = some (.slice xA xn xc)) (by kernel_rfl) (by rw [hwD]; exact HSD.out) (fun hHeld => ?_)
          rw [hwD] at hHeld ⊢
          clear hwD
          refine take_in (i := 0) _ (some 51) (by kernel_rfl) (by kernel_rfl) (by kernel_rfl) (by kernel_rfl) (fun _ _ _ h => h) (by rfl) (fun o ho w hSw => by cases ho; (try dsimp only at hSw); (try go_split_ands); go_simp; (try with_reducible rfl)) hHeld ?_
          try simp only [Act.put, List.setIfInBounds_toArray, List.set_cons_zero, List.set_cons_succ]
          refine take_in (i := 1) _ (some 52) (by kernel_rfl) (by kernel_rfl) (by kernel_rfl) (by kernel_rfl) (fun _ _ _ h => h) (by rfl) (fun o ho w hSw => by cases ho; (try dsimp only at hSw); (try go_split_ands); go_simp; (try with_reducible rfl)) hHeld ?_
          try simp only [Act.put, List.setIfInBounds_toArray, List.set_cons_zero, List.set_cons_succ]
          refine take_in (i := 2) _ (some 53) (by kernel_rfl) (by kernel_rfl) (by kernel_rfl) (by kernel_rfl) (fun _ _ _ h => h) (by rfl) (fun o ho w hSw => by cases ho; (try dsimp only at hSw); (try go_split_ands); go_simp; (try with_reducible rfl)) hHeld ?_
          try simp only [Act.put, List.setIfInBounds_toArray, List.set_cons_zero, List.set_cons_succ]
          refine take_in (i := 3) _ (some 54) (by kernel_rfl) (by kernel_rfl) (by kernel_rfl) (by kernel_rfl) (fun _ _ _ h => h) (by rfl) (fun o ho w hSw => by cases ho; (try dsimp only at hSw); (try go_split_ands); go_simp; (try with_reducible rfl)) hHeld ?_
          try simp only [Act.put, List.setIfInBounds_toArray, List.set_cons_zero, List.set_cons_succ]
          refine take_in (i := 4) _ (some 55) (by kernel_rfl) (by kernel_rfl) (by kernel_rfl) (by kernel_rfl) (fun _ _ _ h => h) (by rfl) (fun o ho w hSw => by cases ho; (try dsimp only at hSw); (try go_split_ands); go_simp; (try with_reducible rfl)) hHeld ?_
          try simp only [Act.put, List.setIfInBounds_toArray, List.set_cons_zero, List.set_cons_succ]
          refine take_in (i := 5) _ (some 56) (by kernel_rfl) (by kernel_rfl) (by kernel_rfl) (by kernel_rfl) (fun _ _ _ h => h) (by rfl) (fun o ho w hSw => by cases ho; (try dsimp only at hSw); (try go_split_ands); go_simp; (try with_reducible rfl)) hHeld ?_
          try simp only [Act.put, List.setIfInBounds_toArray, List.set_cons_zero, List.set_cons_succ]
          refine take_un (i := 6) (some 57) (by kernel_rfl) (by kernel_rfl) (by kernel_rfl) (by kernel_rfl) (fun _ _ _ h => h) (by rfl) hHeld ?_
          try simp only [Act.put, List.setIfInBounds_toArray, List.set_cons_zero, List.set_cons_succ]
          refine take_un (i := 7) (some 58) (by kernel_rfl) (by kernel_rfl) (by kernel_rfl) (by kernel_rfl) (fun _ _ _ h => h) (by rfl) hHeld ?_
          try simp only [Act.put, List.setIfInBounds_toArray, List.set_cons_zero, List.set_cons_succ]
          refine take_un (i := 8) (some 59) (by kernel_rfl) (by kernel_rfl) (by kernel_rfl) (by kernel_rfl) (fun _ _ _ h => h) (by rfl) hHeld ?_
          try simp only [Act.put, List.setIfInBounds_toArray, List.set_cons_zero, List.set_cons_succ]
          refine take_un (i := 9) (some 60) (by kernel_rfl) (by kernel_rfl) (by kernel_rfl) (by kernel_rfl) (fun _ _ _ h => h) (by rfl) hHeld ?_
          try simp only [Act.put, List.setIfInBounds_toArray, List.set_cons_zero, List.set_cons_succ]
          refine take_un (i := 10) (some 61) (by kernel_rfl) (by kernel_rfl) (by kernel_rfl) (by kernel_rfl) (fun _ _ _ h => h) (by rfl) hHeld ?_
          try simp only [Act.put, List.setIfInBounds_toArray, List.set_cons_zero, List.set_cons_succ]
          refine take_un (i := 11) (some 62) (by kernel_rfl) (by kernel_rfl) (by kernel_rfl) (by kernel_rfl) (fun _ _ _ h => h) (by rfl) hHeld ?_
          try simp only [Act.put, List.setIfInBounds_toArray, List.set_cons_zero, List.set_cons_succ]
          refine take_un (i := 12) (some 63) (by kernel_rfl) (by kernel_rfl) (by kernel_rfl) (by kernel_rfl) (fun _ _ _ h => h) (by rfl) hHeld ?_
          try simp only [Act.put, List.setIfInBounds_toArray, List.set_cons_zero, List.set_cons_succ]
          refine take_in (i := 13) _ (some 64) (by kernel_rfl) (by kernel_rfl) (by kernel_rfl) (by kernel_rfl) (fun _ _ _ h => h) (by rfl) (fun o ho w hSw => by cases ho; (try dsimp only at hSw); (try go_split_ands); go_simp; (try with_reducible rfl)) hHeld ?_
          try simp only [Act.put, List.setIfInBounds_toArray, List.set_cons_zero, List.set_cons_succ]
          refine wpAnyH_done (by kernel_rfl) ?_ _
          refine NoPanic.normal ?_
          clear HSD HSW
          go_wp2
          go_roundw
          case rel => exact ⟨m + 1, by omega, by rw [HN.out], by go_num, HBD⟩
          case measure => simp [intOf]; omega
        subst hag
        have dag : ((at_ : Int) == (at_ : Int)) = true := by simp
        have HN0 : Hid (atTo P gs (m + 1) = if eb = true then m else at_) := by
          show _ = _
          rw [atTo_step (by rw [HAT.out, HGN.out]) HXK.out, HEB.out, HGN.out]
        go_upto_region 13 with fail
        refine wp_region_noPanic ?_
        refine wp_region_held_drew (S := fun V => V.cell? ⟨w2.heap.size, 1, none⟩ = some (.slice (some ⟨b5, o5, none⟩) at_ gc) ∧ (V.cell? ⟨wG.heap.size, 0, none⟩ = some (.int .i64 rn2) ∧ V.cell? ⟨wG.heap.size, 1, none⟩ = some (.slice A G.length c)) ∧ V.cell? ⟨b5, o5 + m * 2, none⟩ = some (.int .i64 x0) ∧ V.cell? ⟨b5, o5 + m * 2 + 1, none⟩ = some (.slice xA xn xc)) (by kernel_rfl) (by rw [hwD]; exact HSD.out) (fun hHeld => ?_)
        rw [hwD] at hHeld ⊢
        clear hwD
        refine take_in (i := 0) _ (some 51) (by kernel_rfl) (by kernel_rfl) (by kernel_rfl) (by kernel_rfl) (fun _ _ _ h => h) (by rfl) (fun o ho w hSw => by cases ho; (try dsimp only at hSw); (try go_split_ands); go_simp; (try with_reducible rfl)) hHeld ?_
        try simp only [Act.put, List.setIfInBounds_toArray, List.set_cons_zero, List.set_cons_succ]
        refine take_in (i := 1) _ (some 52) (by kernel_rfl) (by kernel_rfl) (by kernel_rfl) (by kernel_rfl) (fun _ _ _ h => h) (by rfl) (fun o ho w hSw => by cases ho; (try dsimp only at hSw); (try go_split_ands); go_simp; (try with_reducible rfl)) hHeld ?_
        try simp only [Act.put, List.setIfInBounds_toArray, List.set_cons_zero, List.set_cons_succ]
        refine take_in (i := 2) _ (some 53) (by kernel_rfl) (by kernel_rfl) (by kernel_rfl) (by kernel_rfl) (fun _ _ _ h => h) (by rfl) (fun o ho w hSw => by cases ho; (try dsimp only at hSw); (try go_split_ands); go_simp; (try with_reducible rfl)) hHeld ?_
        try simp only [Act.put, List.setIfInBounds_toArray, List.set_cons_zero, List.set_cons_succ]
        refine take_in (i := 3) _ (some 54) (by kernel_rfl) (by kernel_rfl) (by kernel_rfl) (by kernel_rfl) (fun _ _ _ h => h) (by rfl) (fun o ho w hSw => by cases ho; (try dsimp only at hSw); (try go_split_ands); go_simp; (try with_reducible rfl)) hHeld ?_
        try simp only [Act.put, List.setIfInBounds_toArray, List.set_cons_zero, List.set_cons_succ]
        refine take_in (i := 4) _ (some 55) (by kernel_rfl) (by kernel_rfl) (by kernel_rfl) (by kernel_rfl) (fun _ _ _ h => h) (by rfl) (fun o ho w hSw => by cases ho; (try dsimp only at hSw); (try go_split_ands); go_simp; (try with_reducible rfl)) hHeld ?_
        try simp only [Act.put, List.setIfInBounds_toArray, List.set_cons_zero, List.set_cons_succ]
        refine take_in (i := 5) _ (some 56) (by kernel_rfl) (by kernel_rfl) (by kernel_rfl) (by kernel_rfl) (fun _ _ _ h => h) (by rfl) (fun o ho w hSw => by cases ho; (try dsimp only at hSw); (try go_split_ands); go_simp; (try with_reducible rfl)) hHeld ?_
        try simp only [Act.put, List.setIfInBounds_toArray, List.set_cons_zero, List.set_cons_succ]
        refine take_in (i := 6) _ (some 57) (by kernel_rfl) (by kernel_rfl) (by kernel_rfl) (by kernel_rfl) (fun _ _ _ h => h) (by rfl) (fun o ho w hSw => by cases ho; (try dsimp only at hSw); (try go_split_ands); go_simp; (try with_reducible rfl)) hHeld ?_
        try simp only [Act.put, List.setIfInBounds_toArray, List.set_cons_zero, List.set_cons_succ]
        refine take_in (i := 7) _ (some 58) (by kernel_rfl) (by kernel_rfl) (by kernel_rfl) (by kernel_rfl) (fun _ _ _ h => h) (by rfl) (fun o ho w hSw => by cases ho; (try dsimp only at hSw); (try go_split_ands); go_simp; (try with_reducible rfl)) hHeld ?_
        try simp only [Act.put, List.setIfInBounds_toArray, List.set_cons_zero, List.set_cons_succ]
        refine take_in (i := 8) _ (some 59) (by kernel_rfl) (by kernel_rfl) (by kernel_rfl) (by kernel_rfl) (fun _ _ _ h => h) (by rfl) (fun o ho w hSw => by cases ho; (try dsimp only at hSw); (try go_split_ands); go_simp; (try with_reducible rfl)) hHeld ?_
        try simp only [Act.put, List.setIfInBounds_toArray, List.set_cons_zero, List.set_cons_succ]
        refine take_in (i := 9) _ (some 60) (by kernel_rfl) (by kernel_rfl) (by kernel_rfl) (by kernel_rfl) (fun _ _ _ h => h) (by rfl) (fun o ho w hSw => by cases ho; (try dsimp only at hSw); (try go_split_ands); go_simp; (try with_reducible rfl)) hHeld ?_
        try simp only [Act.put, List.setIfInBounds_toArray, List.set_cons_zero, List.set_cons_succ]
        refine take_in (i := 10) _ (some 61) (by kernel_rfl) (by kernel_rfl) (by kernel_rfl) (by kernel_rfl) (fun _ _ _ h => h) (by rfl) (fun o ho w hSw => by cases ho; (try dsimp only at hSw); (try go_split_ands); go_simp; (try with_reducible rfl)) hHeld ?_
        try simp only [Act.put, List.setIfInBounds_toArray, List.set_cons_zero, List.set_cons_succ]
        refine take_in (i := 11) _ (some 62) (by kernel_rfl) (by kernel_rfl) (by kernel_rfl) (by kernel_rfl) (fun _ _ _ h => h) (by rfl) (fun o ho w hSw => by cases ho; (try dsimp only at hSw); (try go_split_ands); go_simp; (try with_reducible rfl)) hHeld ?_
        try simp only [Act.put, List.setIfInBounds_toArray, List.set_cons_zero, List.set_cons_succ]
        refine wpAnyH_ready (rs := [12]) (by kernel_rfl) (by simp) ?_
        refine AllReadyH.cons (o := _) rfl (fun K hK => ?_) AllReadyH.nil
        go_simp
        go_at_call 17
        with_reducible refine HC.out.mono ?_
        rintro e w7 ⟨rfl, hb7⟩
        have HB7 := Lib.hid (below3 HBD.out hb7)
        have HS7 := Lib.hid (HSW.out _ hb7)
        clear hb7
        refine hK.out _ _ HS7.out (fun hHeld => ?_)
        clear hK K
        try simp only [Act.put, List.setIfInBounds_toArray, List.set_cons_zero, List.set_cons_succ]
        refine take_in (i := 13) _ (some 64) (by kernel_rfl) (by kernel_rfl) (by kernel_rfl) (by kernel_rfl) (fun _ _ _ h => h) (by rfl) (fun o ho w hSw => by cases ho; (try dsimp only at hSw); (try go_split_ands); go_simp; (try with_reducible rfl)) hHeld ?_
        try simp only [Act.put, List.setIfInBounds_toArray, List.set_cons_zero, List.set_cons_succ]
        refine wpAnyH_done (by kernel_rfl) ?_ _
        refine NoPanic.normal ?_
        clear HSD HSW HS7 HC
        cases eb with
        | true =>
          have HN : Hid (atTo P gs (m + 1) = m) := by show _ = _; rw [HN0.out, if_pos rfl]
          go_wp2
          go_roundw
          case rel => exact ⟨m + 1, by omega, by rw [HN.out], by go_num, HB7⟩
          case measure => simp [intOf]; omega
        | false =>
          have HN : Hid (atTo P gs (m + 1) = at_) := by show _ = _; rw [HN0.out, if_neg (by simp)]
          go_wp2
          go_roundw
          case rel => exact ⟨m + 1, by omega, by rw [HN.out], by go_num, HB7⟩
          case measure => simp [intOf]; omega
      case neg =>
        obtain rfl : gn = m := by omega
        have HNA2 := HNA.out
        rw [HAT.out] at HNA2
        have HNB := Lib.hid HNA2
        have f1 := HS3.out.box.cell 1
        simp only [List.getElem?_cons_zero, List.getElem?_cons_succ] at f1
        have hlf := HS3.out.box.lt
        clear HNA2 HNA
        by_cases hag : at_ = gn
        case neg =>
          have dag : ((at_ : Int) == (gn : Int)) = false := by simp; omega
          have HNU : Hid (numG gs ⟨rn2, A, G.length, c, ps⟩ = (gs, at_)) := by show _ = _; rw [HNB.out, if_neg hag]
          clear hag
          obtain ⟨wD, hwD⟩ : ∃ wD, w3.drew = wD := ⟨_, rfl⟩
          have hbD : Below w3.heap.size w3 wD := by rw [← hwD]; exact (Below.refl _ _).drew
          have HSX := Lib.hid (HS3.out.below hbD)
          have HBX := Lib.hid (below3 HB3.out hbD)
          have hsX := HBX.out.size
          obtain ⟨A2, c2, w6, hr6, hb6, hl6, hS6⟩ := HSX.out.entry ⟨ra, rl, (at_ : Nat)⟩ (by omega)
          dsimp only at hr6
          have HR := Lib.hid hr6
          obtain ⟨wB, hwB⟩ : ∃ wB, wD.alloc (.cells #[.int .u32 ra, .int .i64 rl, .int .i64 (at_ : Nat)] 79) = wB := ⟨_, rfl⟩
          rw [hwB] at HR
          have hbB : Below wD.heap.size wD wB := by rw [← hwB]; exact belowA _ _
          have hbd : b < wD.heap.size := by omega
          have fD := HSX.out.box.cell 0
          have fB := (HSX.out.box.keep hbB).cell 0
          have f6 := hb6.cell 0
          have z6 := hb6.frozen 0
          simp only [List.getElem?_cons_zero, List.getElem?_cons_succ] at fD fB f6
          have hlD := HSX.out.box.lt
          have hlB := (HSX.out.box.keep hbB).lt
          have hl6b := hb6.lt
          have r0 : wD.cell? ⟨b, o + k * 7, none⟩ = some (.int .u32 ra) := (HSX.out.bel.cell (p := ⟨b, _, none⟩) hbF).trans HC0.out
          have r1 : wD.cell? ⟨b, o + k * 7 + 1, none⟩ = some (.int .i64 rl) := (HSX.out.bel.cell (p := ⟨b, _, none⟩) hbF).trans HC1.out
          have HSP : Hid (wD.cell? ⟨b, o + k * 7, none⟩ = some (.int .u32 ra) ∧ wD.cell? ⟨b, o + k * 7 + 1, none⟩ = some (.int .i64 rl)) := ⟨r0, r1⟩
          have HSB : Hid (wB.cell? ⟨b, o + k * 7, none⟩ = some (.int .u32 ra) ∧ wB.cell? ⟨b, o + k * 7 + 1, none⟩ = some (.int .i64 rl)) := ⟨(hbB.cell (p := ⟨b, _, none⟩) hbd).trans r0, (hbB.cell (p := ⟨b, _, none⟩) hbd).trans r1⟩
          have HS6 : Hid (w6.cell? ⟨b, o + k * 7, none⟩ = some (.int .u32 ra) ∧ w6.cell? ⟨b, o + k * 7 + 1, none⟩ = some (.int .i64 rl)) := ⟨(hl6.cell (p := ⟨b, _, none⟩) (by show b < _; omega)).trans r0, (hl6.cell (p := ⟨b, _, none⟩) (by show b < _; omega)).trans r1⟩
          have hsv6 : Save w2.heap.size w6 (w6.setCell ⟨w2.heap.size, 0, none⟩ (.slice A2 (k + 1) c2)) := Save.set
          have HSZ : Hid ((w6.setCell ⟨w2.heap.size, 0, none⟩ (.slice A2 (k + 1) c2)).cell? ⟨b, o + k * 7, none⟩ = some (.int .u32 ra) ∧ (w6.setCell ⟨w2.heap.size, 0, none⟩ (.slice A2 (k + 1) c2)).cell? ⟨b, o + k * 7 + 1, none⟩ = some (.int .i64 rl)) := ⟨(hsv6.cell (by omega) (by omega)).trans HS6.out.1, (hsv6.cell (by omega) (by omega)).trans HS6.out.2⟩
          have HFZ : Hid (RbI wS w2.heap.size rn (.slice lA ln lc) (.slice bA bn bc) (.slice nA nn nc) ks os rs (.int .i64 ((k + 1 : Nat) : Int)) (w6.setCell ⟨w2.heap.size, 0, none⟩ (.slice A2 (k + 1) c2))) :=
            rb_next (r := ⟨ra, rl, rp, rd, rm, rt, rA2, rn2, rc2, hs⟩) hlt (by omega) hS6 hD.out HRK.out hra HG0.out ⟨by show G.length ≤ _; exact HGL.out, HSH.out⟩ HNU.out
          clear hr6 hb6 hl6 hS6 hbB r0 r1 hsv6 hbD
          go_upto_region 18 with fail
          refine wp_region_noPanic ?_
          refine wp_region_held_drew (S := fun V => V.cell? ⟨b, o + k * 7, none⟩ = some (.int .u32 ra) ∧ V.cell? ⟨b, o + k * 7 + 1, none⟩ = some (.int .i64 rl)) (by kernel_rfl) (by rw [hwD]; exact HSP.out) (fun hHeld => ?_)
          rw [hwD] at hHeld ⊢
          clear hwD
          refine take_in (i := 0) _ (some 78) (by kernel_rfl) (by kernel_rfl) (by kernel_rfl) (by kernel_rfl) (fun _ _ _ h => h) (by rfl) (fun o ho w hSw => by cases ho; (try dsimp only at hSw); (try go_split_ands); go_simp; (try with_reducible rfl)) hHeld ?_
          try simp only [Act.put, List.setIfInBounds_toArray, List.set_cons_zero, List.set_cons_succ]
          refine take_in (i := 2) _ (some 80) (by kernel_rfl) (by kernel_rfl) (by kernel_rfl) (by kernel_rfl) (fun _ _ _ h => h) (by rfl) (fun o ho w hSw => by cases ho; (try dsimp only at hSw); (try go_split_ands); go_simp; (try with_reducible rfl)) hHeld ?_
          try simp only [Act.put, List.setIfInBounds_toArray, List.set_cons_zero, List.set_cons_succ]
          refine take_in (i := 3) _ (some 81) (by kernel_rfl) (by kernel_rfl) (by kernel_rfl) (by kernel_rfl) (fun _ _ _ h => h) (by rfl) (fun o ho w hSw => by cases ho; (try dsimp only at hSw); (try go_split_ands); go_simp; (try with_reducible rfl)) hHeld ?_
          try simp only [Act.put, List.setIfInBounds_toArray, List.set_cons_zero, List.set_cons_succ]
          refine take_in (i := 4) _ (some 82) (by kernel_rfl) (by kernel_rfl) (by kernel_rfl) (by kernel_rfl) (fun _ _ _ h => h) (by rfl) (fun o ho w hSw => by cases ho; (try dsimp only at hSw); (try go_split_ands); go_simp; (try with_reducible rfl)) hHeld ?_
          try simp only [Act.put, List.setIfInBounds_toArray, List.set_cons_zero, List.set_cons_succ]
          refine take_in (i := 5) _ (some 83) (by kernel_rfl) (by kernel_rfl) (by kernel_rfl) (by kernel_rfl) (fun _ _ _ h => h) (by rfl) (fun o ho w hSw => by cases ho; (try dsimp only at hSw); (try go_split_ands); go_simp; (try with_reducible rfl)) hHeld ?_
          try simp only [Act.put, List.setIfInBounds_toArray, List.set_cons_zero, List.set_cons_succ]
          refine take_in (i := 6) _ (some 84) (by kernel_rfl) (by kernel_rfl) (by kernel_rfl) (by kernel_rfl) (fun _ _ _ h => h) (by rfl) (fun o ho w hSw => by cases ho; (try dsimp only at hSw); (try go_split_ands); go_simp; (try with_reducible rfl)) hHeld ?_
          try simp only [Act.put, List.setIfInBounds_toArray, List.set_cons_zero, List.set_cons_succ]
          refine take_in (i := 7) _ (some 85) (by kernel_rfl) (by kernel_rfl) (by kernel_rfl) (by kernel_rfl) (fun _ _ _ h => h) (by rfl) (fun o ho w hSw => by cases ho; (try dsimp only at hSw); (try go_split_ands); go_simp; (try with_reducible rfl)) hHeld ?_
          try simp only [Act.put, List.setIfInBounds_toArray, List.set_cons_zero, List.set_cons_succ]
          refine take_in (i := 8) _ (some 86) (by kernel_rfl) (by kernel_rfl) (by kernel_rfl) (by kernel_rfl) (fun _ _ _ h => h) (by rfl) (fun o ho w hSw => by cases ho; (try dsimp only at hSw); (try go_split_ands); go_simp; (try with_reducible rfl)) hHeld ?_
          try simp only [Act.put, List.setIfInBounds_toArray, List.set_cons_zero, List.set_cons_succ]
          refine wpAnyH_ready (rs := [1, 9]) (by kernel_rfl) (by simp) ?_
          refine AllReadyH.cons (o := _) rfl (fun K hK => ?_) (AllReadyH.cons (o := _) rfl (fun K hK => ?_) AllReadyH.nil)
          · go_simp
            refine hK.out _ _ hHeld (fun hHeld => ?_)
            clear hK K
            try simp only [Act.put, List.setIfInBounds_toArray, List.set_cons_zero, List.set_cons_succ]
            refine wpAnyH_ready (rs := [9]) (by kernel_rfl) (by simp) ?_
            refine AllReadyH.cons (o := _) rfl (fun K hK => ?_) AllReadyH.nil
            go_simp
            try rw [hwB]
            refine hK.out _ _ HSB.out (fun hHeld => ?_)
            clear hK K
            try simp only [Act.put, List.setIfInBounds_toArray, List.set_cons_zero, List.set_cons_succ]
            refine wpAnyH_ready (rs := [10]) (by kernel_rfl) (by simp) ?_
            refine AllReadyH.cons (o := _) rfl (fun K hK => ?_) AllReadyH.nil
            refine step_append_at (some 88) (by rfl) (by rfl) _ _ _ (by rfl) (by rfl) (by rfl) HR.out ?_
            refine hK.out _ _ HS6.out (fun hHeld => ?_)
            clear hK K
            try simp only [Act.put, List.setIfInBounds_toArray, List.set_cons_zero, List.set_cons_succ]
            refine take_in (i := 11) _ (some 89) (by kernel_rfl) (by kernel_rfl) (by kernel_rfl) (by kernel_rfl) (fun _ _ _ h => h) (by rfl) (fun o ho w hSw => by cases ho; (try dsimp only at hSw); (try go_split_ands); go_simp; (try with_reducible rfl)) hHeld ?_
            try simp only [Act.put, List.setIfInBounds_toArray, List.set_cons_zero, List.set_cons_succ]
            refine wpAnyH_ready (rs := [12]) (by kernel_rfl) (by simp) ?_
            refine AllReadyH.cons (o := _) rfl (fun K hK => ?_) AllReadyH.nil
            go_simp
            refine hK.out _ _ HSZ.out (fun hHeld => ?_)
            clear hK K
            try simp only [Act.put, List.setIfInBounds_toArray, List.set_cons_zero, List.set_cons_succ]
            refine wpAnyH_done (by kernel_rfl) ?_ _
            refine NoPanic.normal ?_
            go_wp2
            exact ⟨HFZ.out, by simp [intOf]; omega⟩
          · go_simp
            try rw [hwB]
            refine hK.out _ _ HSB.out (fun hHeld => ?_)
            clear hK K
            try simp only [Act.put, List.setIfInBounds_toArray, List.set_cons_zero, List.set_cons_succ]
            refine wpAnyH_ready (rs := [1]) (by kernel_rfl) (by simp) ?_
            refine AllReadyH.cons (o := _) rfl (fun K hK => ?_) AllReadyH.nil
            go_simp
            refine hK.out _ _ hHeld (fun hHeld => ?_)
            clear hK K
            try simp only [Act.put, List.setIfInBounds_toArray, List.set_cons_zero, List.set_cons_succ]
            refine wpAnyH_ready (rs := [10]) (by kernel_rfl) (by simp) ?_
            refine AllReadyH.cons (o := _) rfl (fun K hK => ?_) AllReadyH.nil
            refine step_append_at (some 88) (by rfl) (by rfl) _ _ _ (by rfl) (by rfl) (by rfl) HR.out ?_
            refine hK.out _ _ HS6.out (fun hHeld => ?_)
            clear hK K
            try simp only [Act.put, List.setIfInBounds_toArray, List.set_cons_zero, List.set_cons_succ]
            refine take_in (i := 11) _ (some 89) (by kernel_rfl) (by kernel_rfl) (by kernel_rfl) (by kernel_rfl) (fun _ _ _ h => h) (by rfl) (fun o ho w hSw => by cases ho; (try dsimp only at hSw); (try go_split_ands); go_simp; (try with_reducible rfl)) hHeld ?_
            try simp only [Act.put, List.setIfInBounds_toArray, List.set_cons_zero, List.set_cons_succ]
            refine wpAnyH_ready (rs := [12]) (by kernel_rfl) (by simp) ?_
            refine AllReadyH.cons (o := _) rfl (fun K hK => ?_) AllReadyH.nil
            go_simp
            refine hK.out _ _ HSZ.out (fun hHeld => ?_)
            clear hK K
            try simp only [Act.put, List.setIfInBounds_toArray, List.set_cons_zero, List.set_cons_succ]
            refine wpAnyH_done (by kernel_rfl) ?_ _
            refine NoPanic.normal ?_
            go_wp2
            exact ⟨HFZ.out, by simp [intOf]; omega⟩
        subst hag
        have dag : ((at_ : Int) == (at_ : Int)) = true := by simp
        have HNU : Hid (numG gs ⟨rn2, A, G.length, c, ps⟩ = (gs ++ [⟨rn2, A, G.length, c, ps⟩], at_)) := by show _ = _; rw [HNB.out, if_pos rfl]
        obtain ⟨A', c', w4, hr4, hb4, hl4b, hS4⟩ := HS3.out.group ⟨rn2, A, G.length, c, ps⟩ HPR3.out.paths HIN.out (by omega)
        dsimp only at hr4
        have HR4 := Lib.hid hr4
        obtain ⟨wB4, hwB4⟩ : ∃ wB, w3.alloc (.cells #[.int .i64 rn2, .slice A G.length c] 47) = wB := ⟨_, rfl⟩
        rw [hwB4] at HR4
        have h0 := HGB3.out.cell 0
        have h1 := HGB3.out.cell 1
        have f14 := hb4.cell 1
        have z14 := hb4.frozen 1
        simp only [List.getElem?_cons_zero, List.getElem?_cons_succ] at h0 h1 f14
        have hlb := HGB3.out.lt
        have hlf4 := hb4.lt
        obtain ⟨w5, hw5⟩ : ∃ w5, w4.setCell ⟨w2.heap.size, 1, none⟩ (.slice A' (at_ + 1) c') = w5 := ⟨_, rfl⟩
        rw [hw5] at hS4
        obtain ⟨wD, hwD⟩ : ∃ wD, w5.drew = wD := ⟨_, rfl⟩
        have hbD : Below w5.heap.size w5 wD := by rw [← hwD]; exact (Below.refl _ _).drew
        have HSX := Lib.hid (hS4.below hbD)
        have HBX : Hid (Below w.heap.size w wD) := HBS.out.trans (HSX.out.bel.mono (by omega))
        have hsX := HBX.out.size
        clear hr4 hb4 hl4b hS4
        obtain ⟨A2, c2, w6, hr6, hb6, hl6, hS6⟩ := HSX.out.entry ⟨ra, rl, (at_ : Nat)⟩ (by omega)
        dsimp only at hr6
        have HR := Lib.hid hr6
        obtain ⟨wB, hwB⟩ : ∃ wB, wD.alloc (.cells #[.int .u32 ra, .int .i64 rl, .int .i64 (at_ : Nat)] 79) = wB := ⟨_, rfl⟩
        rw [hwB] at HR
        have hbB : Below wD.heap.size wD wB := by rw [← hwB]; exact belowA _ _
        have hbd : b < wD.heap.size := by omega
        have fD := HSX.out.box.cell 0
        have fB := (HSX.out.box.keep hbB).cell 0
        have f6 := hb6.cell 0
        have z6 := hb6.frozen 0
        simp only [List.getElem?_cons_zero, List.getElem?_cons_succ] at fD fB f6
        have hlD := HSX.out.box.lt
        have hlB := (HSX.out.box.keep hbB).lt
        have hl6b := hb6.lt
        have r0 : wD.cell? ⟨b, o + k * 7, none⟩ = some (.int .u32 ra) := (HSX.out.bel.cell (p := ⟨b, _, none⟩) hbF).trans HC0.out
        have r1 : wD.cell? ⟨b, o + k * 7 + 1, none⟩ = some (.int .i64 rl) := (HSX.out.bel.cell (p := ⟨b, _, none⟩) hbF).trans HC1.out
        have HSP : Hid (wD.cell? ⟨b, o + k * 7, none⟩ = some (.int .u32 ra) ∧ wD.cell? ⟨b, o + k * 7 + 1, none⟩ = some (.int .i64 rl)) := ⟨r0, r1⟩
        have HSB : Hid (wB.cell? ⟨b, o + k * 7, none⟩ = some (.int .u32 ra) ∧ wB.cell? ⟨b, o + k * 7 + 1, none⟩ = some (.int .i64 rl)) := ⟨(hbB.cell (p := ⟨b, _, none⟩) hbd).trans r0, (hbB.cell (p := ⟨b, _, none⟩) hbd).trans r1⟩
        have HS6 : Hid (w6.cell? ⟨b, o + k * 7, none⟩ = some (.int .u32 ra) ∧ w6.cell? ⟨b, o + k * 7 + 1, none⟩ = some (.int .i64 rl)) := ⟨(hl6.cell (p := ⟨b, _, none⟩) (by show b < _; omega)).trans r0, (hl6.cell (p := ⟨b, _, none⟩) (by show b < _; omega)).trans r1⟩
        have hsv6 : Save w2.heap.size w6 (w6.setCell ⟨w2.heap.size, 0, none⟩ (.slice A2 (k + 1) c2)) := Save.set
        have HSZ : Hid ((w6.setCell ⟨w2.heap.size, 0, none⟩ (.slice A2 (k + 1) c2)).cell? ⟨b, o + k * 7, none⟩ = some (.int .u32 ra) ∧ (w6.setCell ⟨w2.heap.size, 0, none⟩ (.slice A2 (k + 1) c2)).cell? ⟨b, o + k * 7 + 1, none⟩ = some (.int .i64 rl)) := ⟨(hsv6.cell (by omega) (by omega)).trans HS6.out.1, (hsv6.cell (by omega) (by omega)).trans HS6.out.2⟩
        have HFZ : Hid (RbI wS w2.heap.size rn (.slice lA ln lc) (.slice bA bn bc) (.slice nA nn nc) ks os rs (.int .i64 ((k + 1 : Nat) : Int)) (w6.setCell ⟨w2.heap.size, 0, none⟩ (.slice A2 (k + 1) c2))) :=
          rb_next (r := ⟨ra, rl, rp, rd, rm, rt, rA2, rn2, rc2, hs⟩) hlt (by omega) hS6 hD.out HRK.out hra HG0.out ⟨by show G.length ≤ _; exact HGL.out, HSH.out⟩ HNU.out
        clear hr6 hb6 hl6 hS6 hbB r0 r1 hsv6 hbD
        go_upto_region 18 with (at_builtin; refine wpList_append_run rfl _ _ _ rfl rfl rfl HR4.out ?_)
        try rw [hw5]
        refine wp_region_noPanic ?_
        refine wp_region_held_drew (S := fun V => V.cell? ⟨b, o + k * 7, none⟩ = some (.int .u32 ra) ∧ V.cell? ⟨b, o + k * 7 + 1, none⟩ = some (.int .i64 rl)) (by kernel_rfl) (by rw [hwD]; exact HSP.out) (fun hHeld => ?_)
        rw [hwD] at hHeld ⊢
        clear hwD
        refine take_in (i := 0) _ (some 78) (by kernel_rfl) (by kernel_rfl) (by kernel_rfl) (by kernel_rfl) (fun _ _ _ h => h) (by rfl) (fun o ho w hSw => by cases ho; (try dsimp only at hSw); (try go_split_ands); go_simp; (try with_reducible rfl)) hHeld ?_
        try simp only [Act.put, List.setIfInBounds_toArray, List.set_cons_zero, List.set_cons_succ]
        refine take_in (i := 2) _ (some 80) (by kernel_rfl) (by kernel_rfl) (by kernel_rfl) (by kernel_rfl) (fun _ _ _ h => h) (by rfl) (fun o ho w hSw => by cases ho; (try dsimp only at hSw); (try go_split_ands); go_simp; (try with_reducible rfl)) hHeld ?_
        try simp only [Act.put, List.setIfInBounds_toArray, List.set_cons_zero, List.set_cons_succ]
        refine take_in (i := 3) _ (some 81) (by kernel_rfl) (by kernel_rfl) (by kernel_rfl) (by kernel_rfl) (fun _ _ _ h => h) (by rfl) (fun o ho w hSw => by cases ho; (try dsimp only at hSw); (try go_split_ands); go_simp; (try with_reducible rfl)) hHeld ?_
        try simp only [Act.put, List.setIfInBounds_toArray, List.set_cons_zero, List.set_cons_succ]
        refine take_in (i := 4) _ (some 82) (by kernel_rfl) (by kernel_rfl) (by kernel_rfl) (by kernel_rfl) (fun _ _ _ h => h) (by rfl) (fun o ho w hSw => by cases ho; (try dsimp only at hSw); (try go_split_ands); go_simp; (try with_reducible rfl)) hHeld ?_
        try simp only [Act.put, List.setIfInBounds_toArray, List.set_cons_zero, List.set_cons_succ]
        refine take_in (i := 5) _ (some 83) (by kernel_rfl) (by kernel_rfl) (by kernel_rfl) (by kernel_rfl) (fun _ _ _ h => h) (by rfl) (fun o ho w hSw => by cases ho; (try dsimp only at hSw); (try go_split_ands); go_simp; (try with_reducible rfl)) hHeld ?_
        try simp only [Act.put, List.setIfInBounds_toArray, List.set_cons_zero, List.set_cons_succ]
        refine take_in (i := 6) _ (some 84) (by kernel_rfl) (by kernel_rfl) (by kernel_rfl) (by kernel_rfl) (fun _ _ _ h => h) (by rfl) (fun o ho w hSw => by cases ho; (try dsimp only at hSw); (try go_split_ands); go_simp; (try with_reducible rfl)) hHeld ?_
        try simp only [Act.put, List.setIfInBounds_toArray, List.set_cons_zero, List.set_cons_succ]
        refine take_in (i := 7) _ (some 85) (by kernel_rfl) (by kernel_rfl) (by kernel_rfl) (by kernel_rfl) (fun _ _ _ h => h) (by rfl) (fun o ho w hSw => by cases ho; (try dsimp only at hSw); (try go_split_ands); go_simp; (try with_reducible rfl)) hHeld ?_
        try simp only [Act.put, List.setIfInBounds_toArray, List.set_cons_zero, List.set_cons_succ]
        refine take_in (i := 8) _ (some 86) (by kernel_rfl) (by kernel_rfl) (by kernel_rfl) (by kernel_rfl) (fun _ _ _ h => h) (by rfl) (fun o ho w hSw => by cases ho; (try dsimp only at hSw); (try go_split_ands); go_simp; (try with_reducible rfl)) hHeld ?_
        try simp only [Act.put, List.setIfInBounds_toArray, List.set_cons_zero, List.set_cons_succ]
        refine wpAnyH_ready (rs := [1, 9]) (by kernel_rfl) (by simp) ?_
        refine AllReadyH.cons (o := _) rfl (fun K hK => ?_) (AllReadyH.cons (o := _) rfl (fun K hK => ?_) AllReadyH.nil)
        · go_simp
          refine hK.out _ _ hHeld (fun hHeld => ?_)
          clear hK K
          try simp only [Act.put, List.setIfInBounds_toArray, List.set_cons_zero, List.set_cons_succ]
          refine wpAnyH_ready (rs := [9]) (by kernel_rfl) (by simp) ?_
          refine AllReadyH.cons (o := _) rfl (fun K hK => ?_) AllReadyH.nil
          go_simp
          try rw [hwB]
          refine hK.out _ _ HSB.out (fun hHeld => ?_)
          clear hK K
          try simp only [Act.put, List.setIfInBounds_toArray, List.set_cons_zero, List.set_cons_succ]
          refine wpAnyH_ready (rs := [10]) (by kernel_rfl) (by simp) ?_
          refine AllReadyH.cons (o := _) rfl (fun K hK => ?_) AllReadyH.nil
          refine step_append_at (some 88) (by rfl) (by rfl) _ _ _ (by rfl) (by rfl) (by rfl) HR.out ?_
          refine hK.out _ _ HS6.out (fun hHeld => ?_)
          clear hK K
          try simp only [Act.put, List.setIfInBounds_toArray, List.set_cons_zero, List.set_cons_succ]
          refine take_in (i := 11) _ (some 89) (by kernel_rfl) (by kernel_rfl) (by kernel_rfl) (by kernel_rfl) (fun _ _ _ h => h) (by rfl) (fun o ho w hSw => by cases ho; (try dsimp only at hSw); (try go_split_ands); go_simp; (try with_reducible rfl)) hHeld ?_
          try simp only [Act.put, List.setIfInBounds_toArray, List.set_cons_zero, List.set_cons_succ]
          refine wpAnyH_ready (rs := [12]) (by kernel_rfl) (by simp) ?_
          refine AllReadyH.cons (o := _) rfl (fun K hK => ?_) AllReadyH.nil
          go_simp
          refine hK.out _ _ HSZ.out (fun hHeld => ?_)
          clear hK K
          try simp only [Act.put, List.setIfInBounds_toArray, List.set_cons_zero, List.set_cons_succ]
          refine wpAnyH_done (by kernel_rfl) ?_ _
          refine NoPanic.normal ?_
          go_wp2
          exact ⟨HFZ.out, by simp [intOf]; omega⟩
        · go_simp
          try rw [hwB]
          refine hK.out _ _ HSB.out (fun hHeld => ?_)
          clear hK K
          try simp only [Act.put, List.setIfInBounds_toArray, List.set_cons_zero, List.set_cons_succ]
          refine wpAnyH_ready (rs := [1]) (by kernel_rfl) (by simp) ?_
          refine AllReadyH.cons (o := _) rfl (fun K hK => ?_) AllReadyH.nil
          go_simp
          refine hK.out _ _ hHeld (fun hHeld => ?_)
          clear hK K
          try simp only [Act.put, List.setIfInBounds_toArray, List.set_cons_zero, List.set_cons_succ]
          refine wpAnyH_ready (rs := [10]) (by kernel_rfl) (by simp) ?_
          refine AllReadyH.cons (o := _) rfl (fun K hK => ?_) AllReadyH.nil
          refine step_append_at (some 88) (by rfl) (by rfl) _ _ _ (by rfl) (by rfl) (by rfl) HR.out ?_
          refine hK.out _ _ HS6.out (fun hHeld => ?_)
          clear hK K
          try simp only [Act.put, List.setIfInBounds_toArray, List.set_cons_zero, List.set_cons_succ]
          refine take_in (i := 11) _ (some 89) (by kernel_rfl) (by kernel_rfl) (by kernel_rfl) (by kernel_rfl) (fun _ _ _ h => h) (by rfl) (fun o ho w hSw => by cases ho; (try dsimp only at hSw); (try go_split_ands); go_simp; (try with_reducible rfl)) hHeld ?_
          try simp only [Act.put, List.setIfInBounds_toArray, List.set_cons_zero, List.set_cons_succ]
          refine wpAnyH_ready (rs := [12]) (by kernel_rfl) (by simp) ?_
          refine AllReadyH.cons (o := _) rfl (fun K hK => ?_) AllReadyH.nil
          go_simp
          refine hK.out _ _ HSZ.out (fun hHeld => ?_)
          clear hK K
          try simp only [Act.put, List.setIfInBounds_toArray, List.set_cons_zero, List.set_cons_succ]
          refine wpAnyH_done (by kernel_rfl) ?_ _
          refine NoPanic.normal ?_
          go_wp2
          exact ⟨HFZ.out, by simp [intOf]; omega⟩
end Go.Proofs.YtplppbgkkfjknaaGreatDoor
namespace Go.Proofs.YtplppbgkkfjknaaGreatDoor
open Go.RowKit

set_option linter.unusedVariables false
set_option linter.unusedSimpArgs false
theorem firstE_congr {f g : Nat → Int} : ∀ {n : Nat}, (∀ i, i < n → f i = g i) → firstE f n = firstE g n
  | 0, _ => rfl
  | n + 1, h => by rw [firstE, firstE, firstE_congr fun i hi => h i (by omega), h n (by omega)]
def EvenG (g : GE) : Prop := g.ps.length = g.n ∧ ∀ p ∈ g.ps, p.ls.length = p.ln
theorem geErr_same {g g' : GE} (h : g.dat = g'.dat) (h1 : EvenG g) (h2 : EvenG g') : geErr g = geErr g' := by
  have e1 : g.act = g'.act := congrArg Prod.fst h
  have e2 : g.ps.map PV.dat = g'.ps.map PV.dat := congrArg Prod.snd h
  have e3 : g.n = g'.n := by
    have := congrArg List.length e2
    rw [List.length_map, List.length_map] at this
    rw [← h1.1, ← h2.1, this]
  have v1 : Even g.ps := fun p hp => (h1.2 p hp).symm
  have v2 : Even g'.ps := fun p hp => (h2.2 p hp).symm
  unfold geErr
  rw [← gErr_dat v1, ← gErr_dat v2, e1, e2, e3]
theorem getD_map2 {α β : Type} (f : α → β) (xs : List α) (i : Nat) (d : α) : f ((xs[i]?).getD d) = ((xs.map f)[i]?).getD (f d) := by
  rw [List.getElem?_map]
  cases xs[i]? <;> rfl
theorem tabErr_same {bs bs' : List EV} (h : bs.map EV.dat = bs'.map EV.dat) : tabErr bs = tabErr bs' := by
  have hl : bs.length = bs'.length := by
    have := congrArg List.length h
    rwa [List.length_map, List.length_map] at this
  have h1 : ∀ i, EV.dat ((bs[i]?).getD ⟨0, none, 0, 0, []⟩) = EV.dat ((bs'[i]?).getD ⟨0, none, 0, 0, []⟩) := fun i => by
    rw [getD_map2 EV.dat bs, getD_map2 EV.dat bs', h]
  have h2 : ∀ i, innAt bs i = innAt bs' i := fun i => congrArg Prod.fst (h1 i)
  have h3 : ∀ i, hsAt bs i = hsAt bs' i := fun i => congrArg Prod.snd (h1 i)
  unfold tabErr
  rw [hl, firstE_congr (f := entErr bs) (g := entErr bs') fun i _ => by unfold entErr; rw [h2, h2, h3]]
theorem fibErr_same {es : List Ent} {gs gs' : List GE} {ls : List Int} {bs bs' : List EV} {ns : List NH} (hg : gs.map GE.dat = gs'.map GE.dat) (h1 : ∀ g ∈ gs, EvenG g) (h2 : ∀ g ∈ gs', EvenG g) (hb : bs.map EV.dat = bs'.map EV.dat) :
    fibErr es gs ls bs ns = fibErr es gs' ls bs' ns := by
  have hl : gs.length = gs'.length := by
    have := congrArg List.length hg
    rwa [List.length_map, List.length_map] at this
  unfold fibErr
  rw [hl, tabErr_same hb, firstE_congr (f := fun i => geErr (gAt gs i)) (g := fun i => geErr (gAt gs' i)) fun i hi => ?_]
  have e1 : gs[i]? = some gs[i] := List.getElem?_eq_getElem (by omega)
  have e2 : gs'[i]? = some gs'[i] := List.getElem?_eq_getElem (by omega)
  rw [g_of e1, g_of e2]
  refine geErr_same ?_ (h1 _ (List.getElem_mem _)) (h2 _ (List.getElem_mem _))
  have h3 : (gs.map GE.dat)[i]? = (gs'.map GE.dat)[i]? := by rw [hg]
  rw [List.getElem?_map, List.getElem?_map, e1, e2] at h3
  exact Option.some.inj h3
theorem grK_dat (g : GE) : grK g = (g.dat.1, g.dat.2.map keyP) := by
  unfold grK GE.dat
  rw [List.map_map]
  rfl
theorem evK_dat (e : EV) : evK e = (e.dat.1, e.dat.2.map lhK) := rfl
theorem sameF_built {es : List Ent} {gs gs' : List GE} {ls : List Int} {bs bs' : List EV} {ns : List NH} (hg : gs.map GE.dat = gs'.map GE.dat) (hb : bs.map EV.dat = bs'.map EV.dat) : sameF es es gs gs' ls ls bs bs' ns ns = true := by
  have e1 : gs.map grK = gs'.map grK := by
    have k : ∀ l : List GE, l.map grK = (l.map GE.dat).map (fun q => (q.1, q.2.map keyP)) := fun l => by
      rw [List.map_map]
      exact List.map_congr_left fun g _ => grK_dat g
    rw [k, k, hg]
  have e2 : bs.map evK = bs'.map evK := by
    have k : ∀ l : List EV, l.map evK = (l.map EV.dat).map (fun q => (q.1, q.2.map lhK)) := fun l => by
      rw [List.map_map]
      exact List.map_congr_left fun g _ => evK_dat g
    rw [k, k, hb]
  unfold sameF
  rw [e1, e2]
  simp
theorem fibAt_zero (w : World) (B : Nat) : FibAt w B none none none none none 0 0 0 0 0 0 0 0 0 0 [] [] [] [] [] :=
  ⟨⟨⟨Cells.nil w B 3, rfl⟩, fun e he => (by cases he)⟩, ⟨⟨Cells.nil w B 2, rfl⟩, fun e he => (by cases he)⟩, Cells.nil w B 1, ⟨⟨Cells.nil w B 2, rfl⟩, fun e he => (by cases he)⟩, ⟨Cells.nil w B 3, rfl⟩, by omega, by omega, by omega, by omega, by omega, fun g hg => (by cases hg), fun g hg => (by cases hg)⟩
end Go.Proofs.YtplppbgkkfjknaaGreatDoor
