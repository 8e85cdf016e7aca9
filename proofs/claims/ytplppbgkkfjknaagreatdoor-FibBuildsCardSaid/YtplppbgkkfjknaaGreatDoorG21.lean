/- Build: the walk (printed by gen_fbld.py from FBld.base). -/
import Derived.Test.YtplppbgkkfjknaaGreatDoorG20
namespace Go.Proofs.YtplppbgkkfjknaaGreatDoor
open Go.RowKit
open Go.Maps

set_option linter.unusedVariables false
set_option linter.unusedSimpArgs false
theorem rt_s {V : World} {R ra rn2 rc2 : Nat} {rl rp rd rm rt : Int} {rA2 : Option Addr} (h : Blk V R 68 [.int .u32 ra, .int .i64 rl, .int .i64 rp, .int .i64 rd, .int .i64 rm, .int .i64 rt, .slice rA2 rn2 rc2]) : Blk V R 68 [.int .u32 ra, .int .i64 rl, .int .i64 rp, .int .i64 rd, .int .i64 rm, .int .i64 rt, .slice rA2 rn2 rc2] ∧ V.cell? ⟨R, 0, none⟩ = some (.int .u32 ra) ∧ V.cell? ⟨R, 1, none⟩ = some (.int .i64 rl) := ⟨h, h.cell 0, h.cell 1⟩
def BldI (wS : World) (bb mb F rn : Nat) (kv ov lv bv nv : Value) (ks : List BK) (os : List LO) (rs : List RT) (iv : Value) (W : World) : Prop :=
  ∃ (k gn : Nat) (tA gA : Option Addr) (tc gc : Nat) (gs : List GE) (es : List Ent), k ≤ rn ∧ iv = .int .i64 k ∧ gn ≤ k ∧
    Hid (Blk W F 35 [.slice tA k tc, .slice none 0 0, lv, bv, nv]) ∧ Hid (Bld W bb mb (F + 1) kv ov (.slice gA gn gc) gn gs) ∧
    Hid (W.ownsRow (F + 1) 79 3 (.slice tA k tc) k (es.flatMap Ent.vals)) ∧
    Hid (∀ q, (Value.slice tA k tc).ownBlock = some q → (Value.slice gA gn gc).ownBlock ≠ some q ∧ ∀ g ∈ gs, In (· ≠ q) g.A g.n g.ps) ∧
    Hid ((gs.map GE.dat, es) = buildS ks os (rs.take k) ∧ es.length = k ∧ (∀ e ∈ es, e.a < 4294967296) ∧ ∀ g ∈ gs, g.n ≤ 1000) ∧
    Hid (Keep (fun q => q ≠ bb ∧ q ≠ mb ∧ q < F) wS W)
def GivesFIB (R : Int) (n ln bn nn : Nat) (q : List (Int × List PV) × List Ent) (ls : List Int) (bd : List (Int × List HV)) (ns : List NH) (w : World) (e : Ending) (w' : World) : Prop :=
  Below w.heap.size w w' ∧ ((R ≠ 0 ∧ e = .returned (.tuple #[.agg #[.slice none 0 0, .slice none 0 0, .slice none 0 0, .slice none 0 0, .slice none 0 0], .int .i64 R])) ∨ (R = 0 ∧ ∃ gs bs, gs.map GE.dat = q.1 ∧ bs.map EV.dat = bd ∧ (∀ g ∈ gs, g.ps.length = g.n ∧ ∀ p ∈ g.ps, p.ls.length = p.ln) ∧ (∀ b ∈ bs, b.hs.length = b.n) ∧
    ((fibErr q.2 gs ls bs ns ≠ 0 ∧ e = .returned (.tuple #[.agg #[.slice none 0 0, .slice none 0 0, .slice none 0 0, .slice none 0 0, .slice none 0 0], .int .i64 (fibErr q.2 gs ls bs ns)])) ∨
     (fibErr q.2 gs ls bs ns = 0 ∧ ∃ tA gA lA bA nA tc gc lc bc nc, e = .returned (.tuple #[.agg #[.slice tA n tc, .slice gA gs.length gc, .slice lA ln lc, .slice bA bn bc, .slice nA nn nc], .int .i64 0]) ∧
        FibAt w' w'.heap.size tA gA lA bA nA n tc gs.length gc ln lc bn bc nn nc q.2 gs ls bs ns ∧ (∀ g ∈ gs, g.n ≤ 1000)))))
theorem tab_kp {w w' : World} {P : Nat → Prop} {B n c : Nat} {A : Option Addr} {es : List EV} (h : Tab w B A n c es) (hk : Keep P w w') (hB : B ≤ w.heap.size) (h1 : 0 < n → ∀ ad, A = some ad → P ad.block) (h2 : ∀ e ∈ es, 0 < e.n → ∀ ad, e.A = some ad → P ad.block) : Tab w' B A n c es :=
  ⟨⟨cells_kp h.1.1 hk hB h1, h.1.2⟩, fun e he => ⟨cells_kp (h.2 e he).1 hk hB (h2 e he), (h.2 e he).2⟩⟩
theorem hops_off {w : World} {B n c bb mb : Nat} {A : Option Addr} {hs : List HV} {T : TypeId} {kA oA gA : Option Addr} {kn kc on oc gn gc : Nat} {m : Option Nat} {es : Array MapEntry} {clock : Nat} (h : Hops w B A n c hs) (hn : 0 < n) (hb : Blk w bb T [.slice kA kn kc, .slice oA on oc, .map m, .slice gA gn gc]) (hm : w.heap[mb]? = some (.map es clock)) :
    ∀ ad, A = some ad → ad.block ≠ bb ∧ ad.block ≠ mb := by
  intro ad e
  obtain ⟨b, o, x, e2, hbB, hx, hc⟩ := Recs.get HV.vals_len h hn
  rw [e] at e2
  injection e2 with e2
  subst e2
  have h0 := hc 0 (by omega)
  rw [Nat.zero_mul, Nat.add_zero] at h0
  refine ⟨fun hbb => ?_, fun hmb => ?_⟩
  · have h1 : b = bb := hbb
    subst h1
    rw [hb.cell o] at h0
    rcases o with _ | _ | _ | _ | o <;> cases h0
  · have h1 : b = mb := hmb
    subst h1
    simp [World.cell?, hm] at h0
    cases h0
theorem hops_off2 {w : World} {B n c bb : Nat} {A : Option Addr} {hs : List HV} {T : TypeId} (h : Hops w B A n c hs) (hn : 0 < n) (hb : Blk w bb T [.slice none 0 0, .slice none 0 0, .slice none 0 0, .slice none 0 0, .slice none 0 0]) : ∀ ad, A = some ad → ad.block ≠ bb := by
  intro ad e
  obtain ⟨b, o, x, e2, hbB, hx, hc⟩ := Recs.get HV.vals_len h hn
  rw [e] at e2
  injection e2 with e2
  subst e2
  have h0 := hc 0 (by omega)
  rw [Nat.zero_mul, Nat.add_zero] at h0
  intro hbb
  have h1 : b = bb := hbb
  subst h1
  rw [hb.cell o] at h0
  rcases o with _ | _ | _ | _ | _ | o <;> cases h0
theorem FibAt.more {w : World} {B B' : Nat} {tA gA lA bA nA : Option Addr} {tn tc gn gc ln lc bn bc nn nc : Nat} {es : List Ent} {gs : List GE} {ls : List Int} {bs : List EV} {ns : List NH}
    (h : FibAt w B tA gA lA bA nA tn tc gn gc ln lc bn bc nn nc es gs ls bs ns) (hB : B ≤ B') : FibAt w B' tA gA lA bA nA tn tc gn gc ln lc bn bc nn nc es gs ls bs ns :=
  ⟨h.t.more hB, ⟨Recs.more h.g.1 hB, fun g hg => (h.g.2 g hg).more hB⟩, h.l.more hB, h.b.more hB, Recs.more h.n hB, h.tn, h.gn, h.ln, h.bn, h.nn, h.gp, h.bp⟩
theorem FibAt.kp {w w' : World} {P : Nat → Prop} {B : Nat} {tA gA lA bA nA : Option Addr} {tn tc gn gc ln lc bn bc nn nc : Nat} {es : List Ent} {gs : List GE} {ls : List Int} {bs : List EV} {ns : List NH}
    (h : FibAt w B tA gA lA bA nA tn tc gn gc ln lc bn bc nn nc es gs ls bs ns) (hk : Keep P w w') (hB : B ≤ w.heap.size) (ht : 0 < tn → ∀ ad, tA = some ad → P ad.block) (hg : 0 < gn → ∀ ad, gA = some ad → P ad.block) (hgp : ∀ g ∈ gs, In P g.A g.n g.ps) (hl : 0 < ln → ∀ ad, lA = some ad → P ad.block) (hb : 0 < bn → ∀ ad, bA = some ad → P ad.block)
    (hbe : ∀ e ∈ bs, 0 < e.n → ∀ ad, e.A = some ad → P ad.block) (hn : 0 < nn → ∀ ad, nA = some ad → P ad.block) : FibAt w' B tA gA lA bA nA tn tc gn gc ln lc bn bc nn nc es gs ls bs ns :=
  ⟨⟨⟨cells_kp h.t.1.1 hk hB ht, h.t.1.2⟩, h.t.2⟩, ⟨⟨cells_kp h.g.1.1 hk hB hg, h.g.1.2⟩, fun g hx => paths_kp (h.g.2 g hx) hk hB (hgp g hx)⟩, ints_kp h.l hk hB hl, tab_kp h.b hk hB hb hbe, ⟨cells_kp h.n.1 hk hB hn, h.n.2⟩, h.tn, h.gn, h.ln, h.bn, h.nn, h.gp, h.bp⟩
set_option maxRecDepth 100000 in
set_option maxHeartbeats 8000000 in
theorem build_fib_any (rA lA kA bA oA nA : Option Addr) (rn rc ln lc kn kc bn bc on oc nn nc B : Nat) (rs : List RT) (ls : List Int) (ks : List BK) (bs : List EV) (os : List LO) (ns : List NH) (w : World)
    (hr : Rts w B rA rn rc rs) (hl : Ints w B .u32 lA ln lc ls) (hk : Recs w B 9 kA kn kc BK.vals ks) (hb : Tab w B bA bn bc bs) (ho : Outs w B oA on oc os) (hn : Nears w B nA nn nc ns) (hB : B ≤ w.heap.size)
    (hrn : rn ≤ 1000) (hln : ln ≤ 1000) (hkn : kn ≤ 140737488355328) (hbn : bn ≤ 1000) (hon : on ≤ 140737488355328) (hnn : nn ≤ 1000) (hrh : ∀ r ∈ rs, r.n ≤ 400) (hbh : ∀ b ∈ bs, b.n ≤ 1000) (hw : WIn rs ks os) (henv : Env w) :
    Calls Tryz.prog 24 #[.slice rA rn rc, .slice lA ln lc, .slice kA kn kc, .slice bA bn bc, .slice oA on oc, .slice nA nn nc] w (GivesFIB (routesErr rs) rn ln bn nn (buildS ks os rs) ls (bs.map EV.dat) ns w) := by
  obtain ⟨w1, hw1⟩ : ∃ w1, w.alloc (.cells #[.slice none 0 0, .slice none 0 0, .slice none 0 0, .slice none 0 0, .slice none 0 0] 35) = w1 := ⟨_, rfl⟩
  have HZ1 : Hid (Blk w1 w.heap.size 35 [.slice none 0 0, .slice none 0 0, .slice none 0 0, .slice none 0 0, .slice none 0 0]) := by show Blk _ _ _ _; rw [← hw1]; exact Blk.new w _ _
  have HB1 : Hid (Below w.heap.size w w1) := by show Below _ _ _; rw [← hw1]; exact belowA _ _
  have hl1 := HZ1.out.lt
  have HRW : Hid (∀ W, Below w.heap.size w W → Rts W B rA rn rc rs) := fun W h => hr.below (h.mono hB)
  have HLW : Hid (∀ W, Below w.heap.size w W → Ints W B .u32 lA ln lc ls) := fun W h => hl.below (h.mono hB)
  have HKW : Hid (∀ W, Below w.heap.size w W → Recs W B 9 kA kn kc BK.vals ks) := fun W h => hk.below (h.mono hB)
  have HBW : Hid (∀ W, Below w.heap.size w W → Tab W B bA bn bc bs) := fun W h => hb.below (h.mono hB)
  have HOW : Hid (∀ W, Below w.heap.size w W → Outs W B oA on oc os) := fun W h => ho.below (h.mono hB)
  have HNW : Hid (∀ W, Below w.heap.size w W → Nears W B nA nn nc ns) := fun W h => Recs.below hn (h.mono hB)
  have HEW : Hid (∀ W, Below w.heap.size w W → Env W) := fun W h => henv.below h
  have HRL : Hid (rs.length = rn) := hr.1.2
  have HRH := Lib.hid hrh
  have HBH := Lib.hid hbh
  have HWI := Lib.hid hw
  have HC1 := Lib.hid (routed_any rA rn rc B rs w1 (HRW.out _ HB1.out) (by have := HB1.out.size; omega) (by omega))
  obtain ⟨R, hR⟩ : ∃ R, routesErr rs = R := ⟨_, rfl⟩
  rw [hR] at HC1 ⊢
  clear hr hl hk hb ho hn hrh hbh hw henv hR
  go_enter Tryz.func24, Tryz.ntmps24
  go_wp2_with fail
  refine HC1.out.mono ?_
  rintro e w2 ⟨rfl, hb2⟩
  have HB2 := Lib.hid (below3 HB1.out hb2)
  have HZ2 := Lib.hid (HZ1.out.keep hb2)
  have hl2 := HZ2.out.lt
  clear HC1 hb2 hw1
  by_cases hR0 : R = 0
  case neg =>
    have d1 : (R != 0) = true := by simp [hR0]
    have HR0 := Lib.hid hR0
    clear hR0
    obtain ⟨w3, hw3⟩ : ∃ w3, w2.setRow w.heap.size #[.slice none 0 0, .slice none 0 0, .slice none 0 0, .slice none 0 0, .slice none 0 0] = w3 := ⟨_, rfl⟩
    have HB3 : Hid (Blk w3 w.heap.size 35 [.slice none 0 0, .slice none 0 0, .slice none 0 0, .slice none 0 0, .slice none 0 0]) := by show Blk _ _ _ _; rw [← hw3]; exact HZ2.out.row _
    have HL3 : Hid (Below w.heap.size w w3) := by show Below _ _ _; rw [← hw3]; exact HB2.out.trans ((Save.row w.heap.size w2 _).below (Nat.le_refl _) HB2.out.size)
    go_wp2_with (refine wpList_store_blk rfl 35 _ _ rfl w.heap.size rfl rfl HZ2.out (by kernel_rfl) rfl (by kernel_rfl) ?_)
    try rw [hw3]
    refine bodyPost_ret (results_cell_row2 rfl _ w.heap.size _ rfl HB3.out Tryz.underlying35 rfl (by kernel_rfl)) rfl ?_
    exact ⟨HL3.out, .inl ⟨HR0.out, rfl⟩⟩
  subst hR0
  obtain ⟨w3, hw3⟩ : ∃ w3, w2.alloc (.map #[] 0) = w3 := ⟨_, rfl⟩
  obtain ⟨w4, hw4⟩ : ∃ w4, w3.alloc (.cells #[.slice kA kn kc, .slice oA on oc, .map (some w2.heap.size), .slice none 0 0] 115) = w4 := ⟨_, rfl⟩
  have hs3 : w3.heap.size = w2.heap.size + 1 := by rw [← hw3]; simp
  have hs4 : w4.heap.size = w2.heap.size + 1 + 1 := by rw [← hw4, ← hs3]; simp
  have hb3 : Below w2.heap.size w2 w3 := by rw [← hw3]; exact belowA _ _
  have hb4 : Below w3.heap.size w3 w4 := by rw [← hw4]; exact belowA _ _
  have HM4 : Hid (w4.ownsMap Tryz.prog 9 (plainElem Tryz.prog 3) w2.heap.size 0 (dmap [])) := by
    show World.ownsMap _ _ _ _ _ _ _
    rw [← hw4, ← hw3]
    exact (World.ownsMap_made w2 _ _ _).alloc _
  have HX4 : Hid (Blk w4 (w2.heap.size + 1) 115 [.slice kA kn kc, .slice oA on oc, .map (some w2.heap.size), .slice none 0 0]) := by
    show Blk _ _ _ _
    rw [← hw4, ← hs3]
    exact Blk.new w3 _ _
  have HB4 := Lib.hid (below3 (below3 HB2.out hb3) hb4)
  have HZ4 := Lib.hid ((HZ2.out.keep hb3).keep hb4)
  have HC5 := Lib.hid (addr_clone_any lA ln lc B (ls.map (Value.int .u32)) w4 (HLW.out _ HB4.out) (by have := HB4.out.size; omega) (by
    intro u hu
    obtain ⟨x, _, rfl⟩ := List.mem_map.1 hu
    rfl) (by omega))
  have hmm := @run_makeMap Tryz.prog
  clear hb3 hb4
  go_wp2_with fail
  refine HC5.out.mono ?_
  rintro e w5 ⟨lA2, lc2, rfl, hol, hb5⟩
  have HB5 := Lib.hid (below3 HB4.out hb5)
  have HC6 := Lib.hid (cloneEnts_any bA bn bc bs w5 ((HBW.out _ HB5.out).more (by have := HB5.out.size; omega)) (by omega) HBH.out)
  have HOL := Lib.hid hol
  have hs5 := hb5.size
  have HM5 : Hid (Bld w5 (w2.heap.size + 1) w2.heap.size (w2.heap.size + 1 + 1) (.slice kA kn kc) (.slice oA on oc) (.slice none 0 0) 0 []) :=
    Bld.below ⟨HX4.out, HM4.out, GRow.nil _ _, List.nodup_nil, by omega, by omega, by omega⟩ hb5
  have HZ5 := Lib.hid (HZ4.out.keep hb5)
  clear hmm HC5 hol hb5 HM4 HX4 HZ4 hw3 hw4
  go_wp2_with fail
  refine HC6.out.mono ?_
  rintro e w6 ⟨bA2, bc2, qs, rfl, hoe, htab, hdat, hb6⟩
  have HB6 := Lib.hid (below3 HB5.out hb6)
  have HC7 := Lib.hid (hop_clone_any nA nn nc B (ns.flatMap NH.vals) w6 (HNW.out _ HB6.out).1 (by have := HB6.out.size; omega) (by
    intro u hu
    obtain ⟨x, _, he⟩ := List.mem_flatMap.1 hu
    unfold NH.vals at he
    simp only [List.mem_cons, List.not_mem_nil, or_false] at he
    rcases he with rfl | rfl | rfl <;> rfl) (by omega))
  have HTAB := Lib.hid htab
  have HDAT := Lib.hid hdat
  have HOE : Hid (0 < bn → ∀ ad, bA2 = some ad → w5.heap.size ≤ ad.block) := by
    intro h0 ad e
    obtain ⟨g, e2, ho⟩ := hoe h0
    rw [e] at e2
    injection e2 with e2
    subst e2
    exact ho.lt.1
  have hs6 := hb6.size
  have HOL6 := Lib.hid (row_below HOL.out hb6)
  have HM6 := Lib.hid (HM5.out.below hb6)
  have HZ6 := Lib.hid (HZ5.out.keep hb6)
  clear HC6 htab hdat hoe hb6 HOL HM5 HZ5
  go_wp2_with fail
  refine HC7.out.mono ?_
  rintro e w7 ⟨nA2, nc2, rfl, hon7, hb7⟩
  have HB7 := Lib.hid (below3 HB6.out hb7)
  have hs7 := hb7.size
  obtain ⟨wS, hwS⟩ : ∃ wS, w7.alloc (.cells #[.slice none 0 0, .slice none 0 0, .slice lA2 ln lc2, .slice bA2 bn bc2, .slice nA2 nn nc2] 35) = wS := ⟨_, rfl⟩
  have hbS : Below w7.heap.size w7 wS := by rw [← hwS]; exact belowA _ _
  have HFS : Hid (Blk wS w7.heap.size 35 [.slice none 0 0, .slice none 0 0, .slice lA2 ln lc2, .slice bA2 bn bc2, .slice nA2 nn nc2]) := by show Blk _ _ _ _; rw [← hwS]; exact Blk.new w7 _ _
  have HBS := Lib.hid (below3 HB7.out hbS)
  have HFS2 : Hid (w7.heap.size < wS.heap.size) := HFS.out.lt
  have HMS := Lib.hid ((HM6.out.below hb7).below hbS)
  have HZS := Lib.hid ((HZ6.out.keep hb7).keep hbS)
  have HLS : Hid (Ints wS w7.heap.size .u32 lA2 ln lc2 ls ∧ (0 < ln → ∀ ad, lA2 = some ad → w4.heap.size ≤ ad.block)) := by
    refine ⟨((Own.ints (e := 42) (row_below HOL6.out hb7)).below hbS), fun h0 ad e => (World.ownsRow.lt HOL6.out ad.block (by rw [e]; rfl)).1⟩
  have HTS : Hid (Tab wS w7.heap.size bA2 bn bc2 qs) := ((HTAB.out.below hb7).more hs7).below (hbS.mono (by omega))
  have HNS : Hid (Nears wS w7.heap.size nA2 nn nc2 ns ∧ (0 < nn → ∀ ad, nA2 = some ad → w6.heap.size ≤ ad.block)) :=
    ⟨Recs.below ⟨Cells.of_own hon7, (HNW.out _ HB6.out).2⟩ hbS, fun h0 ad e => (World.ownsRow.lt hon7 ad.block (by rw [e]; rfl)).1⟩
  have HTO : Hid (∀ e ∈ qs, 0 < e.n → ∀ ad, e.A = some ad → (ad.block ≠ w2.heap.size + 1 ∧ ad.block ≠ w2.heap.size) ∧ ad.block ≠ w.heap.size) := by
    intro e he h0 ad ea
    obtain ⟨es, clock, hm, _⟩ := HM6.out.map
    exact ⟨hops_off (HTAB.out.2 e he) h0 HM6.out.box hm ad ea, hops_off2 (HTAB.out.2 e he) h0 HZ6.out ad ea⟩
  have HI0 : Hid (BldI wS (w2.heap.size + 1) w2.heap.size w7.heap.size rn (.slice kA kn kc) (.slice oA on oc) (.slice lA2 ln lc2) (.slice bA2 bn bc2) (.slice nA2 nn nc2) ks os rs (.int .i64 (0 : Nat)) wS) :=
    ⟨0, 0, none, none, 0, 0, [], [], Nat.zero_le _, rfl, Nat.le_refl _, HFS, Lib.hid ⟨HMS.out.box, HMS.out.map, GRow.nil _ _, HMS.out.nodup, by omega, by omega, by omega⟩, Lib.hid (World.ownsRow_nil _ _ _ _), Lib.hid (fun q h => by cases h), Lib.hid ⟨rfl, rfl, fun e he => (by cases he), fun g hg => (by cases hg)⟩, Lib.hid (Keep.refl _ _)⟩
  clear HC7 hon7 hb7 hbS HM6 HOL6 HTAB HZ6 HMS
  go_wp2
  go_loopw [40] (fun iv wr => BldI wS (w2.heap.size + 1) w2.heap.size w7.heap.size rn (.slice kA kn kc) (.slice oA on oc) (.slice lA2 ln lc2) (.slice bA2 bn bc2) (.slice nA2 nn nc2) ks os rs iv wr) (fun iv _ => rn - (intOf iv).toNat)
  case atStart => exact HI0.out
  case round =>
    obtain ⟨k, gn, tA, gA, tc, gc, gs, es, hk, rfl, hgk, hF, hM, hT, hap, hD, hK⟩ := hrel
    clear HI0 HFS hwS
    by_cases hlt : k < rn
    case neg =>
      obtain rfl : rn = k := by omega
      have hgl := hM.out.row.len
      subst hgl
      have hDT : (gs.map GE.dat, es) = buildS ks os rs := by
        have h := hD.out.1
        rw [List.take_of_length_le (Nat.le_of_eq HRL.out)] at h
        exact h
      have hD1 : gs.map GE.dat = (buildS ks os rs).1 := congrArg Prod.fst hDT
      have hD2 : (buildS ks os rs).2 = es := (congrArg Prod.snd hDT).symm
      obtain ⟨w8, hw8⟩ : ∃ w8, wr.setCell ⟨w7.heap.size, 1, none⟩ (.slice gA gs.length gc) = w8 := ⟨_, rfl⟩
      have hs8 : Save w7.heap.size wr w8 := by rw [← hw8]; exact Save.set
      have HF8 : Hid (Blk w8 w7.heap.size 35 [.slice tA rn tc, .slice gA gs.length gc, .slice lA2 ln lc2, .slice bA2 bn bc2, .slice nA2 nn nc2]) := by show Blk _ _ _ _; rw [← hw8]; exact hF.out.set 1 _
      have hK8 : Keep (fun q => q ≠ w2.heap.size + 1 ∧ q ≠ w2.heap.size ∧ q < w7.heap.size) wS w8 := hK.out.andThen (Q := (· ≠ w7.heap.size)) (Keep.save hs8 fun k h => h) fun i _ h => by omega
      have hsS := HFS2.out
      have hsz8 := hK8.size
      have hB8 : Below w.heap.size w w8 := HBS.out.trans (hK8.below (fun k h => by have := HB4.out.size; have := HB2.out.size; omega) HBS.out.size)
      have hM8 : Bld w8 (w2.heap.size + 1) w2.heap.size (w7.heap.size + 1) (.slice kA kn kc) (.slice oA on oc) (.slice gA gs.length gc) gs.length gs :=
        hM.out.kp (P := (· ≠ w7.heap.size)) (Keep.save hs8 fun k h => h) (by show _ ≠ _; omega) (by show _ ≠ _; omega) (fun q e => by have := (World.ownsRow.lt hM.out.row.row q e).1; show q ≠ _; omega) (fun g hg => (hM.out.row.data g hg).2.mono fun q h => by show q ≠ _; omega)
      have hT8 := row_kp (P := (· ≠ w7.heap.size)) hT.out (Keep.save hs8 fun k h => h) (fun q e => by have := (World.ownsRow.lt hT.out q e).1; show q ≠ _; omega)
      have hQN : ∀ b ∈ qs, b.n ≤ 1000 := by
        intro e he
        have h1 : e.dat ∈ bs.map EV.dat := by rw [← HDAT.out]; exact List.mem_map_of_mem he
        obtain ⟨b, hb, h2⟩ := List.mem_map.1 h1
        have h3 : b.hs = e.hs := congrArg Prod.snd h2
        have h4 := ((HBW.out _ HB2.out).2 b hb).2
        have h5 := (HTS.out.2 e he).2
        have h6 := HBH.out b hb
        rw [← h3] at h5
        omega
      have HFA : Hid (FibAt w8 w8.heap.size tA gA lA2 bA2 nA2 rn tc gs.length gc ln lc2 bn bc2 nn nc2 es gs ls qs ns) := by
        have hS7 : w7.heap.size ≤ wS.heap.size := by omega
        refine ⟨⟨⟨Cells.of_own hT8, hD.out.2.1⟩, hD.out.2.2.1⟩, hM8.row.grps, ?_, ?_, ?_, by omega, by omega, by omega, by omega, by omega, fun g hg => by have := hD.out.2.2.2 g hg; omega, fun e he => by have := hQN e he; omega⟩
        · refine (ints_kp HLS.out.1 hK8 hS7 fun h0 ad e => ?_).more (by omega)
          obtain ⟨b, o, e2, hbb, _⟩ := HLS.out.1.2.2.2 (by omega)
          have h1 := HLS.out.2 h0 ad e
          rw [e] at e2
          injection e2 with e2
          subst e2
          dsimp only at h1 ⊢
          omega
        · refine (tab_kp HTS.out hK8 hS7 (fun h0 ad e => ?_) (fun x hx h0 ad e => ?_)).more (by omega)
          · obtain ⟨b, o, e2, hbb, _⟩ := HTS.out.1.1.2.2.2 (by omega)
            have h1 := HOE.out h0 ad e
            rw [e] at e2
            injection e2 with e2
            subst e2
            dsimp only at h1 ⊢
            omega
          · obtain ⟨b, o, e2, hbb, _⟩ := (HTS.out.2 x hx).1.2.2.2 (by omega)
            have h1 := HTO.out x hx h0 ad e
            rw [e] at e2
            injection e2 with e2
            subst e2
            exact ⟨h1.1.1, h1.1.2, hbb⟩
        · refine Recs.more ⟨cells_kp HNS.out.1.1 hK8 hS7 fun h0 ad e => ?_, HNS.out.1.2⟩ (by omega)
          obtain ⟨b, o, e2, hbb, _⟩ := HNS.out.1.1.2.2.2 (by omega)
          have h1 := HNS.out.2 h0 ad e
          rw [e] at e2
          injection e2 with e2
          subst e2
          dsimp only at h1 ⊢
          omega
      have HC8 := Lib.hid (fibCheck_any tA gA lA2 bA2 nA2 rn tc gs.length gc ln lc2 bn bc2 nn nc2 w8.heap.size es gs ls qs ns w8 HFA.out (Nat.le_refl _))
      have HZ8 : Hid (Blk w8 w.heap.size 35 [.slice none 0 0, .slice none 0 0, .slice none 0 0, .slice none 0 0, .slice none 0 0]) := HZS.out.kp hK8 (by have := HB4.out.size; have := HB2.out.size; omega)
      have HB8 := Lib.hid hB8
      have HG1 : Hid (∀ g ∈ gs, g.ps.length = g.n ∧ ∀ p ∈ g.ps, p.ls.length = p.ln) := fun g hg => ⟨(hM8.row.data g hg).1.1.2, fun p hp => ((hM8.row.data g hg).1.2 p hp).len⟩
      have HG2 : Hid (∀ b ∈ qs, b.hs.length = b.n) := fun b hb => (HTS.out.2 b hb).2
      have hN2 : w.heap.size < w2.heap.size := hl2
      have HQ1 : Hid (0 < rn → ∀ ad, tA = some ad → ad.block ≠ w.heap.size) := fun _ ad e => by have := (World.ownsRow.lt hT.out ad.block (by rw [e]; rfl)).1; omega
      have HQ2 : Hid (0 < gs.length → ∀ ad, gA = some ad → ad.block ≠ w.heap.size) := fun _ ad e => by have := (World.ownsRow.lt hM.out.row.row ad.block (by rw [e]; rfl)).1; omega
      have HQ3 : Hid (∀ g ∈ gs, In (· ≠ w.heap.size) g.A g.n g.ps) := fun g hg => (hM.out.row.data g hg).2.mono fun q h => by show q ≠ _; omega
      have HG3 : Hid (∀ g ∈ gs, g.n ≤ 1000) := hD.out.2.2.2
      have HD1 := Lib.hid hD1
      have b3 := hM.out.box.cell 3
      have f1 := hF.out.cell 1
      have z1 := hF.out.frozen 1
      have hlF := hF.out.lt
      have hlb := hM.out.box.lt
      have p0 := HF8.out.cell 0
      have p1 := HF8.out.cell 1
      have p2 := HF8.out.cell 2
      have p3 := HF8.out.cell 3
      have p4 := HF8.out.cell 4
      simp only [List.getElem?_cons_zero, List.getElem?_cons_succ] at b3 f1 p0 p1 p2 p3 p4
      have hl8 := HF8.out.lt
      obtain ⟨E, hE⟩ : ∃ E, fibErr es gs ls qs ns = E := ⟨_, rfl⟩
      have HE : Hid (fibErr (buildS ks os rs).2 gs ls qs ns = E) := by show _ = _; rw [hD2]; exact hE
      have HD2 := Lib.hid hD2
      rw [hE] at HC8
      clear hF hM hT hap hD hK hDT hD1 hD2 hs8 hK8 hB8 hM8 hT8 hQN hE
      go_wp2_with fail
      try rw [hw8]
      refine HC8.out.mono ?_
      rintro e w9 ⟨rfl, hb9⟩
      have HB9 := Lib.hid (below3 HB8.out hb9)
      have HZ9 := Lib.hid (HZ8.out.keep hb9)
      have HF9 := Lib.hid (HF8.out.keep hb9)
      have HFA9 := Lib.hid (HFA.out.below hb9)
      have hs9 := hb9.size
      have hl9 := HZ9.out.lt
      clear HC8 hb9 b3 f1 z1 p0 p1 p2 p3 p4
      by_cases hE0 : E = 0
      case neg =>
        have d1 : (E != 0) = true := by simp [hE0]
        have HE0 := Lib.hid hE0
        clear hE0
        obtain ⟨wz, hwz⟩ : ∃ wz, w9.setRow w.heap.size #[.slice none 0 0, .slice none 0 0, .slice none 0 0, .slice none 0 0, .slice none 0 0] = wz := ⟨_, rfl⟩
        have HBz : Hid (Blk wz w.heap.size 35 [.slice none 0 0, .slice none 0 0, .slice none 0 0, .slice none 0 0, .slice none 0 0]) := by show Blk _ _ _ _; rw [← hwz]; exact HZ9.out.row _
        have HLz : Hid (Below w.heap.size w wz) := by show Below _ _ _; rw [← hwz]; exact HB9.out.trans ((Save.row w.heap.size w9 _).below (Nat.le_refl _) HB9.out.size)
        go_wp2_with (refine wpList_store_blk rfl 35 _ _ rfl w.heap.size rfl rfl HZ9.out (by kernel_rfl) rfl (by kernel_rfl) ?_)
        try rw [hwz]
        refine bodyPost_ret (results_cell_row2 rfl _ w.heap.size _ rfl HBz.out Tryz.underlying35 rfl (by kernel_rfl)) rfl ?_
        exact ⟨HLz.out, .inr ⟨rfl, gs, qs, HD1.out, HDAT.out, HG1.out, HG2.out, .inl ⟨by rw [HE.out]; exact HE0.out, by rw [HE.out]; rfl⟩⟩⟩
      subst hE0
      have p0 := HF9.out.cell 0
      have p1 := HF9.out.cell 1
      have p2 := HF9.out.cell 2
      have p3 := HF9.out.cell 3
      have p4 := HF9.out.cell 4
      simp only [List.getElem?_cons_zero, List.getElem?_cons_succ] at p0 p1 p2 p3 p4
      have hl9F := HF9.out.lt
      obtain ⟨wz, hwz⟩ : ∃ wz, w9.setRow w.heap.size #[.slice tA rn tc, .slice gA gs.length gc, .slice lA2 ln lc2, .slice bA2 bn bc2, .slice nA2 nn nc2] = wz := ⟨_, rfl⟩
      have HBz : Hid (Blk wz w.heap.size 35 [.slice tA rn tc, .slice gA gs.length gc, .slice lA2 ln lc2, .slice bA2 bn bc2, .slice nA2 nn nc2]) := by show Blk _ _ _ _; rw [← hwz]; exact HZ9.out.row _
      have hsz : Save w.heap.size w9 wz := by rw [← hwz]; exact Save.row _ _ _
      have HLz : Hid (Below w.heap.size w wz) := HB9.out.trans (hsz.below (Nat.le_refl _) HB9.out.size)
      have HFz : Hid (FibAt wz wz.heap.size tA gA lA2 bA2 nA2 rn tc gs.length gc ln lc2 bn bc2 nn nc2 es gs ls qs ns) := by
        have h1 := HFA9.out.kp (P := (· ≠ w.heap.size)) (Keep.save hsz fun k h => h) hs9 HQ1.out HQ2.out HQ3.out (fun h0 ad e => by have := HLS.out.2 h0 ad e; show _ ≠ _; omega) (fun h0 ad e => by have := HOE.out h0 ad e; show _ ≠ _; omega) (fun x hx h0 ad e => (HTO.out x hx h0 ad e).2) (fun h0 ad e => by have := HNS.out.2 h0 ad e; show _ ≠ _; omega)
        exact h1.more (by have := hsz.size; omega)
      clear hsz
      go_wp2_with (refine wpList_store_blk rfl 35 _ _ rfl w.heap.size rfl rfl HZ9.out (by kernel_rfl) rfl (by kernel_rfl) ?_)
      try rw [hwz]
      refine bodyPost_ret (results_cell_row2 rfl _ w.heap.size _ rfl HBz.out Tryz.underlying35 rfl (by kernel_rfl)) rfl ?_
      exact ⟨HLz.out, .inr ⟨rfl, gs, qs, HD1.out, HDAT.out, HG1.out, HG2.out, .inr ⟨HE.out, tA, gA, lA2, bA2, nA2, tc, gc, lc2, bc2, nc2, rfl, by rw [HD2.out]; exact HFz.out, HG3.out⟩⟩⟩
    have hsS := HFS2.out
    have hN4 := HB4.out.size
    have hN2 : w.heap.size < w2.heap.size := hl2
    have HBR : Below w.heap.size w wr := HBS.out.trans (hK.out.below (fun q h => by omega) HBS.out.size)
    have hszR := HBR.size
    have hszK := hK.out.size
    obtain ⟨b, o, r, rfl, hbB, hrk, hrp, c0, c1, c2, c3, c4, c5, c6⟩ := (HRW.out _ HBR).get hlt
    have hbw : b < wr.heap.size := by omega
    have HRM : Hid (∀ h ∈ r.hs, WHop h) := HWI.out.hops r (List.mem_of_getElem? hrk)
    have hr400 := HRH.out r (List.mem_of_getElem? hrk)
    have HRK := Lib.hid hrk
    obtain ⟨ra, rl, rp, rd, rm, rt, rA2, rn2, rc2, hs⟩ := r
    dsimp only at c0 c1 c2 c3 c4 c5 c6 hrp HRM hr400
    obtain ⟨hra, hrp2, hxh⟩ := hrp
    have hhl : hs.length = rn2 := hxh.2
    obtain ⟨wa, hwa⟩ : ∃ wa, wr.alloc (.cells #[.int .u32 ra, .int .i64 rl, .int .i64 rp, .int .i64 rd, .int .i64 rm, .int .i64 rt, .slice rA2 rn2 rc2] 68) = wa := ⟨_, rfl⟩
    have hba : Below wr.heap.size wr wa := by rw [← hwa]; exact belowA _ _
    have hXA : Blk wa wr.heap.size 68 [.int .u32 ra, .int .i64 rl, .int .i64 rp, .int .i64 rd, .int .i64 rm, .int .i64 rt, .slice rA2 rn2 rc2] := by rw [← hwa]; exact Blk.new wr _ _
    obtain ⟨wD, hwD⟩ : ∃ wD, wa.drew = wD := ⟨_, rfl⟩
    have hbD : Below wa.heap.size wa wD := by rw [← hwD]; exact (Below.refl _ _).drew
    have hba2 := below3 hba hbD
    have hszD := hba2.size
    have HXD := Lib.hid (hXA.keep hbD)
    have hxl := HXD.out.lt
    have HBD := Lib.hid (below3 HBR hba2)
    have HFD := Lib.hid (hF.out.keep hba2)
    have HMD := Lib.hid (hM.out.below hba2)
    have HTD := Lib.hid (row_below hT.out hba2)
    have HKD : Hid (Keep (fun q => q ≠ w2.heap.size + 1 ∧ q ≠ w2.heap.size ∧ q < w7.heap.size) wS wD) := hK.out.trans (Keep.of hba2)
    have HTO2 : Hid (∀ q, (Value.slice tA k tc).ownBlock = some q → w7.heap.size + 1 ≤ q ∧ q < wr.heap.size) := fun q e => World.ownsRow.lt hT.out q e
    have HGO2 : Hid (∀ q, (Value.slice gA gn gc).ownBlock = some q → w7.heap.size + 1 ≤ q ∧ q < wr.heap.size) := fun q e => World.ownsRow.lt hM.out.row.row q e
    have HSD := Lib.hid (rt_s HXD.out)
    have fD := HFD.out.cell 0
    have bD0 := HMD.out.box.cell 0
    have bD1 := HMD.out.box.cell 1
    simp only [List.getElem?_cons_zero, List.getElem?_cons_succ] at fD bD0 bD1
    have hlFD := HFD.out.lt
    have hbbD : w2.heap.size + 1 < wD.heap.size := HMD.out.box.lt
    have HG := Lib.hid (group_fib_any (w2.heap.size + 1) kA oA kn kc on oc B ks os ⟨ra, rl, rp, rd, rm, rt, rA2, rn2, rc2, hs⟩ wD (HKW.out _ HBD.out) (HOW.out _ HBD.out) (Recs.below hxh (hba2.mono (by omega))) (by omega) hkn hon (by show rn2 ≤ _; omega) hbbD bD0 bD1)
    dsimp only at HG
    obtain ⟨G, hG⟩ : ∃ G, groupR ks os hs = G := ⟨_, rfl⟩
    have HGL : Hid (G.length ≤ 1000) := by
      have := (grpTo_len ks os hs hs.length).2
      show _ ≤ _
      rw [← hG]
      unfold groupR
      omega
    have HGW : Hid (∀ p ∈ G, WPath p ∧ p.ls.length ≤ 1) := by
      intro p hp
      rw [← hG] at hp
      exact grpTo_wide HRM.out HWI.out.backs HWI.out.labs (by omega) hs.length (Nat.le_refl _) p hp
    have HGE : Hid (grpD ks os ⟨ra, rl, rp, rd, rm, rt, rA2, rn2, rc2, hs⟩ = ((rn2 : Int), G)) := by show _ = _; rw [← hG]; rfl
    have HFN : Hid (∀ (wG w4 w5 : World) (gs' : List GE) (gn' idx : Nat) (gA' A2 A : Option Addr) (gc' c2 c : Nat) (ps : List PV), Below wD.heap.size wD wG → PRow wG wD.heap.size (.slice A G.length c) G.length ps → ps.map PV.dat = G →
        numG gs ⟨rn2, A, G.length, c, ps⟩ = (gs', idx) → Bld w4 (w2.heap.size + 1) w2.heap.size (w7.heap.size + 1) (.slice kA kn kc) (.slice oA on oc) (.slice gA' gn' gc') gn' gs' → Keep (fun q => q ≠ w2.heap.size + 1 ∧ q ≠ w2.heap.size ∧ (Value.slice gA gn gc).ownBlock ≠ some q) wG w4 →
        (∀ q, (Value.slice gA' gn' gc').ownBlock = some q → (Value.slice gA gn gc).ownBlock = some q ∨ wG.heap.size ≤ q) → w5.ownsRow (w7.heap.size + 1) 79 3 (.slice A2 (k + 1) c2) (k + 1) (es.flatMap Ent.vals ++ [.int .u32 ra, .int .i64 rl, .int .i64 idx]) →
        Below (w7.heap.size + 1) w4 w5 → Keep (fun q => (Value.slice tA k tc).ownBlock ≠ some q) w4 w5 → (∀ q, (Value.slice A2 (k + 1) c2).ownBlock = some q → (Value.slice tA k tc).ownBlock = some q ∨ w4.heap.size ≤ q) →
        BldI wS (w2.heap.size + 1) w2.heap.size w7.heap.size rn (.slice kA kn kc) (.slice oA on oc) (.slice lA2 ln lc2) (.slice bA2 bn bc2) (.slice nA2 nn nc2) ks os rs (.int .i64 ((k + 1 : Nat) : Int)) (w5.setCell ⟨w7.heap.size, 0, none⟩ (.slice A2 (k + 1) c2))) := by
      intro wG w4 w5 gs' gn' idx gA' A2 A gc' c2 c ps hbg hrow hdat hnum hbld hk4 hown4 hrow5 hb5 hk5 hown5
      have hszG := hbg.size
      have hsz4 := hk4.size
      have hsz5 := hk5.size
      obtain ⟨hlen1, hmem⟩ := numG_len hnum
      have hgl := hM.out.row.len
      have hgl' := hbld.row.len
      have hsv : Save w7.heap.size w5 (w5.setCell ⟨w7.heap.size, 0, none⟩ (.slice A2 (k + 1) c2)) := Save.set
      have hIN : In (fun q => wD.heap.size ≤ q) A G.length ps := ⟨fun hn ad e => (World.ownsRow.lt hrow.row ad.block (by rw [e]; rfl)).1, fun p hp hn ad e => ((hrow.labs p hp).2 hn ad e).1⟩
      have hall : ∀ q, (Value.slice tA k tc).ownBlock = some q → ∀ g ∈ gs', In (· ≠ q) g.A g.n g.ps := by
        intro q hq g hg
        rcases hmem g hg with hg | rfl
        · exact (hap.out q hq).2 g hg
        · exact hIN.mono fun i hi => by have := HTO2.out q hq; omega
      have hgo : ∀ q, (Value.slice tA k tc).ownBlock = some q → (Value.slice gA' gn' gc').ownBlock ≠ some q := by
        intro q hq e
        rcases hown4 q e with e2 | e2
        · exact (hap.out q hq).1 e2
        · have := HTO2.out q hq
          omega
      have hF4 := (HFD.out.keep hbg).kp hk4 ⟨by omega, by omega, fun e => by have := HGO2.out _ e; omega⟩
      have hbld5 := hbld.kp hk5 (fun e => by have := HTO2.out _ e; omega) (fun e => by have := HTO2.out _ e; omega) (fun q e e2 => hgo q e2 e) (fun g hg => ⟨fun hn ad e e2 => (hall _ e2 g hg).1 hn ad e rfl, fun p hp hn ad e e2 => (hall _ e2 g hg).2 p hp hn ad e rfl⟩)
      refine ⟨k + 1, gn', A2, gA', c2, gc', gs', es ++ [⟨ra, rl, idx⟩], by omega, rfl, by omega, (hF4.below hb5 (by omega)).set 0 _, ?_, ?_, ?_, ⟨?_, ?_, ?_, ?_⟩, ?_⟩
      · exact hbld5.kp (P := (· ≠ w7.heap.size)) (Keep.save hsv fun q h => h) (by show _ ≠ _; omega) (by show _ ≠ _; omega) (fun q e => by have := (World.ownsRow.lt hbld5.row.row q e).1; show q ≠ _; omega) (fun g hg => (hbld5.row.data g hg).2.mono fun q h => by show q ≠ _; omega)
      · have h1 := row_kp (P := (· ≠ w7.heap.size)) hrow5 (Keep.save hsv fun q h => h) (fun q e => by have := (World.ownsRow.lt hrow5 q e).1; show q ≠ _; omega)
        show World.ownsRow _ _ _ _ _ _ _
        rw [List.flatMap_append]
        simpa [Ent.vals] using h1
      · intro q hq
        rcases hown5 q hq with e | e
        · exact ⟨hgo q e, hall q e⟩
        · exact ⟨fun e2 => by have := (World.ownsRow.lt hbld.row.row q e2).2; omega, fun g hg => (paths_in (hbld.row.data g hg).1).mono fun i hi => by show i ≠ q; omega⟩
      · rw [buildS_take HRK.out, ← hD.out.1]
        unfold stepB
        dsimp only
        have h1 := numG_dat hnum
        have h2 : GE.dat ⟨rn2, A, G.length, c, ps⟩ = ((rn2 : Int), G) := by unfold GE.dat; dsimp only; rw [hdat]
        rw [HGE.out, ← h2, h1]
      · rw [List.length_append, hD.out.2.1]
        rfl
      · intro e he
        rcases List.mem_append.1 he with he | he
        · exact hD.out.2.2.1 e he
        · obtain rfl : e = ⟨ra, rl, idx⟩ := by simpa using he
          exact hra
      · intro g hg
        rcases hmem g hg with hg | rfl
        · exact hD.out.2.2.2 g hg
        · exact HGL.out
      · exact (((HKD.out.trans (Keep.of hbg)).trans (hk4.mono fun q _ h => ⟨h.1, h.2.1, fun e => by have := HGO2.out q e; omega⟩)).trans (hk5.mono fun q _ h e => by have := HTO2.out q e; omega)).trans (Keep.save hsv fun q h => by omega)
    have HTR : Hid (∀ wG w4 : World, Below wD.heap.size wD wG → Keep (fun q => q ≠ w2.heap.size + 1 ∧ q ≠ w2.heap.size ∧ (Value.slice gA gn gc).ownBlock ≠ some q) wG w4 → w4.ownsRow (w7.heap.size + 1) 79 3 (.slice tA k tc) k (es.flatMap Ent.vals)) := by
      intro wG w4 hbg hk4
      exact row_kp (row_below HTD.out hbg) hk4 fun q e => ⟨by have := HTO2.out q e; omega, by have := HTO2.out q e; omega, (hap.out q e).1⟩
    have hgl := hM.out.row.len
    rw [hG] at HG
    clear hG hF hM hT hap hD hK hba hbD hba2 hXA hxh hrk bD0 bD1 HBR
    go_upto_region 9 with fail
    try rw [hwa]
    refine wp_region_noPanic ?_
    refine wp_region_held_drew (S := fun V => Blk V wr.heap.size 68 [.int .u32 ra, .int .i64 rl, .int .i64 rp, .int .i64 rd, .int .i64 rm, .int .i64 rt, .slice rA2 rn2 rc2] ∧ V.cell? ⟨wr.heap.size, 0, none⟩ = some (.int .u32 ra) ∧ V.cell? ⟨wr.heap.size, 1, none⟩ = some (.int .i64 rl)) (by kernel_rfl) (by rw [hwD]; exact HSD.out) (fun hHeld => ?_)
    rw [hwD] at hHeld ⊢
    clear hwa hwD c0 c1 c2 c3 c4 c5 c6
    refine take_in (i := 0) _ (some 44) (by kernel_rfl) (by kernel_rfl) (by kernel_rfl) (by kernel_rfl) (fun _ _ _ h => h) (by rfl) (fun o ho w hSw => by cases ho; (try dsimp only at hSw); (try go_split_ands); go_simp; (try with_reducible rfl)) hHeld ?_
    try simp only [Act.put, List.setIfInBounds_toArray, List.set_cons_zero, List.set_cons_succ]
    refine take_in (i := 2) _ (some 46) (by kernel_rfl) (by kernel_rfl) (by kernel_rfl) (by kernel_rfl) (fun _ _ _ h => h) (by rfl) (fun o ho w hSw => by cases ho; (try dsimp only at hSw); (try go_split_ands); go_simp; (try with_reducible rfl)) hHeld ?_
    try simp only [Act.put, List.setIfInBounds_toArray, List.set_cons_zero, List.set_cons_succ]
    refine take_in (i := 3) _ (some 47) (by kernel_rfl) (by kernel_rfl) (by kernel_rfl) (by kernel_rfl) (fun _ _ _ h => h) (by rfl) (fun o ho w hSw => by cases ho; (try dsimp only at hSw); (try go_split_ands); go_simp; (try with_reducible rfl)) hHeld ?_
    try simp only [Act.put, List.setIfInBounds_toArray, List.set_cons_zero, List.set_cons_succ]
    refine take_in (i := 4) _ (some 48) (by kernel_rfl) (by kernel_rfl) (by kernel_rfl) (by kernel_rfl) (fun _ _ _ h => h) (by rfl) (fun o ho w hSw => by cases ho; (try dsimp only at hSw); (try go_split_ands); go_simp; (try with_reducible rfl)) hHeld ?_
    try simp only [Act.put, List.setIfInBounds_toArray, List.set_cons_zero, List.set_cons_succ]
    refine take_in (i := 5) _ (some 49) (by kernel_rfl) (by kernel_rfl) (by kernel_rfl) (by kernel_rfl) (fun _ _ _ h => h) (by rfl) (fun o ho w hSw => by cases ho; (try dsimp only at hSw); (try go_split_ands); go_simp; (try with_reducible rfl)) hHeld ?_
    try simp only [Act.put, List.setIfInBounds_toArray, List.set_cons_zero, List.set_cons_succ]
    refine take_in (i := 6) _ (some 50) (by kernel_rfl) (by kernel_rfl) (by kernel_rfl) (by kernel_rfl) (fun _ _ _ h => h) (by rfl) (fun o ho w hSw => by cases ho; exact run_load_blk _ _ rfl _ rfl (hSw.1) _ Tryz.underlying68 rfl (by kernel_rfl)) hHeld ?_
    try simp only [Act.put, List.setIfInBounds_toArray, List.set_cons_zero, List.set_cons_succ]
    refine wpAnyH_ready (rs := [1, 7]) (by kernel_rfl) (by simp) ?_
    refine AllReadyH.cons (o := _) rfl (fun K hK => ?_) (AllReadyH.cons (o := _) rfl (fun K hK => ?_) AllReadyH.nil)
    · go_simp
      refine hK.out _ _ hHeld (fun hHeld => ?_)
      clear hK K
      try simp only [Act.put, List.setIfInBounds_toArray, List.set_cons_zero, List.set_cons_succ]
      refine wpAnyH_ready (rs := [7]) (by kernel_rfl) (by simp) ?_
      refine AllReadyH.cons (o := _) rfl (fun K hK => ?_) AllReadyH.nil
      go_simp
      go_at_call 58
      with_reducible refine HG.out.mono ?_
      rintro e wG ⟨A, c, ps, rfl, hrow, hdat, hbg⟩
      have hszG := hbg.size
      have hXG := HXD.out.keep hbg
      have HSG := Lib.hid (rt_s hXG)
      have hFG := HFD.out.keep hbg
      have HBG := Lib.hid (below3 HBD.out hbg)
      have fG := hFG.cell 0
      simp only [List.getElem?_cons_zero, List.getElem?_cons_succ] at fG
      have hlFG := hFG.lt
      have HFG := Lib.hid hFG
      have HXG := Lib.hid hXG
      have hIN0 : In (fun q => wD.heap.size ≤ q) A G.length ps := ⟨fun hn ad e => (World.ownsRow.lt hrow.row ad.block (by rw [e]; rfl)).1, fun p hp hn ad e => ((hrow.labs p hp).2 hn ad e).1⟩
      have HNM := Lib.hid (number_fib_any (w2.heap.size + 1) w2.heap.size (w7.heap.size + 1) (.slice kA kn kc) (.slice oA on oc) gA gn gc gs ⟨rn2, A, G.length, c, ps⟩ wG (HMD.out.below hbg) hrow.paths (hIN0.mono fun q hq => ⟨fun e2 => by have := HGO2.out _ e2; omega, by omega⟩) (by omega) (by omega) HGL.out (fun p hp => by have h1 := HGW.out p.dat (by rw [← hdat]; exact List.mem_map_of_mem hp); exact ⟨wide_dat h1.1, Nat.le_trans h1.2 (by omega)⟩) (by unfold W64; dsimp only; omega) (HEW.out _ HBG.out))
      dsimp only at HNM
      have HBg := Lib.hid hbg
      have HROW := Lib.hid hrow
      have HDT2 := Lib.hid hdat
      clear hbg hrow hdat hXG hFG hIN0
      refine hK.out _ _ HSG.out (fun hHeld => ?_)
      clear hK K
      try simp only [Act.put, List.setIfInBounds_toArray, List.set_cons_zero, List.set_cons_succ]
      refine wpAnyH_ready (rs := [8]) (by kernel_rfl) (by simp) ?_
      refine AllReadyH.cons (o := _) rfl (fun K hK => ?_) AllReadyH.nil
      go_simp
      go_at_call 57
      with_reducible refine HNM.out.mono ?_
      rintro e w4 ⟨gA', gn', gc', gs', idx, rfl, hnum, hbld4, hk4, hown4⟩
      have hsz4 := hk4.size
      obtain ⟨A2, c2, w5, hr5, hrow5, hb5, hk5, hown5⟩ := row_push (S := 32) Tryz.underlying32 entry_info rfl (by omega) (by omega) (HTR.out wG w4 HBg.out hk4) [.int .u32 ra, .int .i64 rl, .int .i64 idx] rfl (by intro u hu; simp only [List.mem_cons, List.not_mem_nil, or_false] at hu; rcases hu with rfl | rfl | rfl <;> rfl) rfl (by omega) (by omega)
      have HR := Lib.hid hr5
      obtain ⟨wB, hwB⟩ : ∃ wB, w4.alloc (.cells #[.int .u32 ra, .int .i64 rl, .int .i64 idx] 79) = wB := ⟨_, rfl⟩
      rw [hwB] at HR
      have hbB : Below w4.heap.size w4 wB := by rw [← hwB]; exact belowA _ _
      have hX4 := HXG.out.kp hk4 ⟨by omega, by omega, fun e => by have := HGO2.out _ e; omega⟩
      have HS4 := Lib.hid (rt_s hX4)
      have HSB := Lib.hid (rt_s (hX4.keep hbB))
      have hX5 := hX4.kp hk5 (fun e => by have := HTO2.out _ e; omega)
      have HS5 := Lib.hid (rt_s hX5)
      have hsv : Save w7.heap.size w5 (w5.setCell ⟨w7.heap.size, 0, none⟩ (.slice A2 (k + 1) c2)) := Save.set
      have HS6 := Lib.hid (rt_s (hX5.save hsv (by omega)))
      have hF4 := HFG.out.kp hk4 ⟨by omega, by omega, fun e => by have := HGO2.out _ e; omega⟩
      have hFB := hF4.keep hbB
      have hF5 := hF4.below hb5 (by omega)
      have f4 := hF4.cell 0
      have fB := hFB.cell 0
      have f5 := hF5.cell 0
      have z5 := hF5.frozen 0
      simp only [List.getElem?_cons_zero, List.getElem?_cons_succ] at f4 fB f5
      have hlF4 := hF4.lt
      have hlFB := hFB.lt
      have hlF5 := hF5.lt
      have HFZ := Lib.hid (HFN.out wG w4 w5 gs' gn' idx gA' A2 A gc' c2 c ps HBg.out HROW.out HDT2.out hnum hbld4 hk4 hown4 hrow5 hb5 hk5 hown5)
      clear hr5 hrow5 hb5 hk5 hown5 hnum hbld4 hk4 hown4 hbB hX4 hX5 hsv hF4 hFB hF5
      refine hK.out _ _ HS4.out (fun hHeld => ?_)
      clear hK K
      try simp only [Act.put, List.setIfInBounds_toArray, List.set_cons_zero, List.set_cons_succ]
      refine take_in (i := 9) _ (some 53) (by kernel_rfl) (by kernel_rfl) (by kernel_rfl) (by kernel_rfl) (fun _ _ _ h => h) (by rfl) (fun o ho w hSw => by cases ho; (try dsimp only at hSw); (try go_split_ands); go_simp; (try with_reducible rfl)) hHeld ?_
      try simp only [Act.put, List.setIfInBounds_toArray, List.set_cons_zero, List.set_cons_succ]
      refine wpAnyH_ready (rs := [10]) (by kernel_rfl) (by simp) ?_
      refine AllReadyH.cons (o := _) rfl (fun K hK => ?_) AllReadyH.nil
      go_simp
      try rw [hwB]
      refine hK.out _ _ HSB.out (fun hHeld => ?_)
      clear hK K
      try simp only [Act.put, List.setIfInBounds_toArray, List.set_cons_zero, List.set_cons_succ]
      refine wpAnyH_ready (rs := [11]) (by kernel_rfl) (by simp) ?_
      refine AllReadyH.cons (o := _) rfl (fun K hK => ?_) AllReadyH.nil
      refine step_append_at (some 55) (by rfl) (by rfl) _ _ _ (by rfl) (by rfl) (by rfl) HR.out ?_
      refine hK.out _ _ HS5.out (fun hHeld => ?_)
      clear hK K
      try simp only [Act.put, List.setIfInBounds_toArray, List.set_cons_zero, List.set_cons_succ]
      refine take_in (i := 12) _ (some 56) (by kernel_rfl) (by kernel_rfl) (by kernel_rfl) (by kernel_rfl) (fun _ _ _ h => h) (by rfl) (fun o ho w hSw => by cases ho; (try dsimp only at hSw); (try go_split_ands); go_simp; (try with_reducible rfl)) hHeld ?_
      try simp only [Act.put, List.setIfInBounds_toArray, List.set_cons_zero, List.set_cons_succ]
      refine wpAnyH_ready (rs := [13]) (by kernel_rfl) (by simp) ?_
      refine AllReadyH.cons (o := _) rfl (fun K hK => ?_) AllReadyH.nil
      go_simp
      refine hK.out _ _ HS6.out (fun hHeld => ?_)
      clear hK K
      try simp only [Act.put, List.setIfInBounds_toArray, List.set_cons_zero, List.set_cons_succ]
      refine wpAnyH_done (by kernel_rfl) ?_ _
      refine NoPanic.normal ?_
      go_wp2
      exact ⟨HFZ.out, by simp [intOf]; omega⟩
    · go_simp
      go_at_call 58
      with_reducible refine HG.out.mono ?_
      rintro e wG ⟨A, c, ps, rfl, hrow, hdat, hbg⟩
      have hszG := hbg.size
      have hXG := HXD.out.keep hbg
      have HSG := Lib.hid (rt_s hXG)
      have hFG := HFD.out.keep hbg
      have HBG := Lib.hid (below3 HBD.out hbg)
      have fG := hFG.cell 0
      simp only [List.getElem?_cons_zero, List.getElem?_cons_succ] at fG
      have hlFG := hFG.lt
      have HFG := Lib.hid hFG
      have HXG := Lib.hid hXG
      have hIN0 : In (fun q => wD.heap.size ≤ q) A G.length ps := ⟨fun hn ad e => (World.ownsRow.lt hrow.row ad.block (by rw [e]; rfl)).1, fun p hp hn ad e => ((hrow.labs p hp).2 hn ad e).1⟩
      have HNM := Lib.hid (number_fib_any (w2.heap.size + 1) w2.heap.size (w7.heap.size + 1) (.slice kA kn kc) (.slice oA on oc) gA gn gc gs ⟨rn2, A, G.length, c, ps⟩ wG (HMD.out.below hbg) hrow.paths (hIN0.mono fun q hq => ⟨fun e2 => by have := HGO2.out _ e2; omega, by omega⟩) (by omega) (by omega) HGL.out (fun p hp => by have h1 := HGW.out p.dat (by rw [← hdat]; exact List.mem_map_of_mem hp); exact ⟨wide_dat h1.1, Nat.le_trans h1.2 (by omega)⟩) (by unfold W64; dsimp only; omega) (HEW.out _ HBG.out))
      dsimp only at HNM
      have HBg := Lib.hid hbg
      have HROW := Lib.hid hrow
      have HDT2 := Lib.hid hdat
      clear hbg hrow hdat hXG hFG hIN0
      refine hK.out _ _ HSG.out (fun hHeld => ?_)
      clear hK K
      try simp only [Act.put, List.setIfInBounds_toArray, List.set_cons_zero, List.set_cons_succ]
      refine wpAnyH_ready (rs := [1, 8]) (by kernel_rfl) (by simp) ?_
      refine AllReadyH.cons (o := _) rfl (fun K hK => ?_) (AllReadyH.cons (o := _) rfl (fun K hK => ?_) AllReadyH.nil)
      · go_simp
        refine hK.out _ _ hHeld (fun hHeld => ?_)
        clear hK K
        try simp only [Act.put, List.setIfInBounds_toArray, List.set_cons_zero, List.set_cons_succ]
        refine wpAnyH_ready (rs := [8]) (by kernel_rfl) (by simp) ?_
        refine AllReadyH.cons (o := _) rfl (fun K hK => ?_) AllReadyH.nil
        go_simp
        go_at_call 57
        with_reducible refine HNM.out.mono ?_
        rintro e w4 ⟨gA', gn', gc', gs', idx, rfl, hnum, hbld4, hk4, hown4⟩
        have hsz4 := hk4.size
        obtain ⟨A2, c2, w5, hr5, hrow5, hb5, hk5, hown5⟩ := row_push (S := 32) Tryz.underlying32 entry_info rfl (by omega) (by omega) (HTR.out wG w4 HBg.out hk4) [.int .u32 ra, .int .i64 rl, .int .i64 idx] rfl (by intro u hu; simp only [List.mem_cons, List.not_mem_nil, or_false] at hu; rcases hu with rfl | rfl | rfl <;> rfl) rfl (by omega) (by omega)
        have HR := Lib.hid hr5
        obtain ⟨wB, hwB⟩ : ∃ wB, w4.alloc (.cells #[.int .u32 ra, .int .i64 rl, .int .i64 idx] 79) = wB := ⟨_, rfl⟩
        rw [hwB] at HR
        have hbB : Below w4.heap.size w4 wB := by rw [← hwB]; exact belowA _ _
        have hX4 := HXG.out.kp hk4 ⟨by omega, by omega, fun e => by have := HGO2.out _ e; omega⟩
        have HS4 := Lib.hid (rt_s hX4)
        have HSB := Lib.hid (rt_s (hX4.keep hbB))
        have hX5 := hX4.kp hk5 (fun e => by have := HTO2.out _ e; omega)
        have HS5 := Lib.hid (rt_s hX5)
        have hsv : Save w7.heap.size w5 (w5.setCell ⟨w7.heap.size, 0, none⟩ (.slice A2 (k + 1) c2)) := Save.set
        have HS6 := Lib.hid (rt_s (hX5.save hsv (by omega)))
        have hF4 := HFG.out.kp hk4 ⟨by omega, by omega, fun e => by have := HGO2.out _ e; omega⟩
        have hFB := hF4.keep hbB
        have hF5 := hF4.below hb5 (by omega)
        have f4 := hF4.cell 0
        have fB := hFB.cell 0
        have f5 := hF5.cell 0
        have z5 := hF5.frozen 0
        simp only [List.getElem?_cons_zero, List.getElem?_cons_succ] at f4 fB f5
        have hlF4 := hF4.lt
        have hlFB := hFB.lt
        have hlF5 := hF5.lt
        have HFZ := Lib.hid (HFN.out wG w4 w5 gs' gn' idx gA' A2 A gc' c2 c ps HBg.out HROW.out HDT2.out hnum hbld4 hk4 hown4 hrow5 hb5 hk5 hown5)
        clear hr5 hrow5 hb5 hk5 hown5 hnum hbld4 hk4 hown4 hbB hX4 hX5 hsv hF4 hFB hF5
        refine hK.out _ _ HS4.out (fun hHeld => ?_)
        clear hK K
        try simp only [Act.put, List.setIfInBounds_toArray, List.set_cons_zero, List.set_cons_succ]
        refine take_in (i := 9) _ (some 53) (by kernel_rfl) (by kernel_rfl) (by kernel_rfl) (by kernel_rfl) (fun _ _ _ h => h) (by rfl) (fun o ho w hSw => by cases ho; (try dsimp only at hSw); (try go_split_ands); go_simp; (try with_reducible rfl)) hHeld ?_
        try simp only [Act.put, List.setIfInBounds_toArray, List.set_cons_zero, List.set_cons_succ]
        refine wpAnyH_ready (rs := [10]) (by kernel_rfl) (by simp) ?_
        refine AllReadyH.cons (o := _) rfl (fun K hK => ?_) AllReadyH.nil
        go_simp
        try rw [hwB]
        refine hK.out _ _ HSB.out (fun hHeld => ?_)
        clear hK K
        try simp only [Act.put, List.setIfInBounds_toArray, List.set_cons_zero, List.set_cons_succ]
        refine wpAnyH_ready (rs := [11]) (by kernel_rfl) (by simp) ?_
        refine AllReadyH.cons (o := _) rfl (fun K hK => ?_) AllReadyH.nil
        refine step_append_at (some 55) (by rfl) (by rfl) _ _ _ (by rfl) (by rfl) (by rfl) HR.out ?_
        refine hK.out _ _ HS5.out (fun hHeld => ?_)
        clear hK K
        try simp only [Act.put, List.setIfInBounds_toArray, List.set_cons_zero, List.set_cons_succ]
        refine take_in (i := 12) _ (some 56) (by kernel_rfl) (by kernel_rfl) (by kernel_rfl) (by kernel_rfl) (fun _ _ _ h => h) (by rfl) (fun o ho w hSw => by cases ho; (try dsimp only at hSw); (try go_split_ands); go_simp; (try with_reducible rfl)) hHeld ?_
        try simp only [Act.put, List.setIfInBounds_toArray, List.set_cons_zero, List.set_cons_succ]
        refine wpAnyH_ready (rs := [13]) (by kernel_rfl) (by simp) ?_
        refine AllReadyH.cons (o := _) rfl (fun K hK => ?_) AllReadyH.nil
        go_simp
        refine hK.out _ _ HS6.out (fun hHeld => ?_)
        clear hK K
        try simp only [Act.put, List.setIfInBounds_toArray, List.set_cons_zero, List.set_cons_succ]
        refine wpAnyH_done (by kernel_rfl) ?_ _
        refine NoPanic.normal ?_
        go_wp2
        exact ⟨HFZ.out, by simp [intOf]; omega⟩
      · go_simp
        go_at_call 57
        with_reducible refine HNM.out.mono ?_
        rintro e w4 ⟨gA', gn', gc', gs', idx, rfl, hnum, hbld4, hk4, hown4⟩
        have hsz4 := hk4.size
        obtain ⟨A2, c2, w5, hr5, hrow5, hb5, hk5, hown5⟩ := row_push (S := 32) Tryz.underlying32 entry_info rfl (by omega) (by omega) (HTR.out wG w4 HBg.out hk4) [.int .u32 ra, .int .i64 rl, .int .i64 idx] rfl (by intro u hu; simp only [List.mem_cons, List.not_mem_nil, or_false] at hu; rcases hu with rfl | rfl | rfl <;> rfl) rfl (by omega) (by omega)
        have HR := Lib.hid hr5
        obtain ⟨wB, hwB⟩ : ∃ wB, w4.alloc (.cells #[.int .u32 ra, .int .i64 rl, .int .i64 idx] 79) = wB := ⟨_, rfl⟩
        rw [hwB] at HR
        have hbB : Below w4.heap.size w4 wB := by rw [← hwB]; exact belowA _ _
        have hX4 := HXG.out.kp hk4 ⟨by omega, by omega, fun e => by have := HGO2.out _ e; omega⟩
        have HS4 := Lib.hid (rt_s hX4)
        have HSB := Lib.hid (rt_s (hX4.keep hbB))
        have hX5 := hX4.kp hk5 (fun e => by have := HTO2.out _ e; omega)
        have HS5 := Lib.hid (rt_s hX5)
        have hsv : Save w7.heap.size w5 (w5.setCell ⟨w7.heap.size, 0, none⟩ (.slice A2 (k + 1) c2)) := Save.set
        have HS6 := Lib.hid (rt_s (hX5.save hsv (by omega)))
        have hF4 := HFG.out.kp hk4 ⟨by omega, by omega, fun e => by have := HGO2.out _ e; omega⟩
        have hFB := hF4.keep hbB
        have hF5 := hF4.below hb5 (by omega)
        have f4 := hF4.cell 0
        have fB := hFB.cell 0
        have f5 := hF5.cell 0
        have z5 := hF5.frozen 0
        simp only [List.getElem?_cons_zero, List.getElem?_cons_succ] at f4 fB f5
        have hlF4 := hF4.lt
        have hlFB := hFB.lt
        have hlF5 := hF5.lt
        have HFZ := Lib.hid (HFN.out wG w4 w5 gs' gn' idx gA' A2 A gc' c2 c ps HBg.out HROW.out HDT2.out hnum hbld4 hk4 hown4 hrow5 hb5 hk5 hown5)
        clear hr5 hrow5 hb5 hk5 hown5 hnum hbld4 hk4 hown4 hbB hX4 hX5 hsv hF4 hFB hF5
        refine hK.out _ _ HS4.out (fun hHeld => ?_)
        clear hK K
        try simp only [Act.put, List.setIfInBounds_toArray, List.set_cons_zero, List.set_cons_succ]
        refine take_in (i := 9) _ (some 53) (by kernel_rfl) (by kernel_rfl) (by kernel_rfl) (by kernel_rfl) (fun _ _ _ h => h) (by rfl) (fun o ho w hSw => by cases ho; (try dsimp only at hSw); (try go_split_ands); go_simp; (try with_reducible rfl)) hHeld ?_
        try simp only [Act.put, List.setIfInBounds_toArray, List.set_cons_zero, List.set_cons_succ]
        refine wpAnyH_ready (rs := [1, 10]) (by kernel_rfl) (by simp) ?_
        refine AllReadyH.cons (o := _) rfl (fun K hK => ?_) (AllReadyH.cons (o := _) rfl (fun K hK => ?_) AllReadyH.nil)
        · go_simp
          refine hK.out _ _ hHeld (fun hHeld => ?_)
          clear hK K
          try simp only [Act.put, List.setIfInBounds_toArray, List.set_cons_zero, List.set_cons_succ]
          refine wpAnyH_ready (rs := [10]) (by kernel_rfl) (by simp) ?_
          refine AllReadyH.cons (o := _) rfl (fun K hK => ?_) AllReadyH.nil
          go_simp
          try rw [hwB]
          refine hK.out _ _ HSB.out (fun hHeld => ?_)
          clear hK K
          try simp only [Act.put, List.setIfInBounds_toArray, List.set_cons_zero, List.set_cons_succ]
          refine wpAnyH_ready (rs := [11]) (by kernel_rfl) (by simp) ?_
          refine AllReadyH.cons (o := _) rfl (fun K hK => ?_) AllReadyH.nil
          refine step_append_at (some 55) (by rfl) (by rfl) _ _ _ (by rfl) (by rfl) (by rfl) HR.out ?_
          refine hK.out _ _ HS5.out (fun hHeld => ?_)
          clear hK K
          try simp only [Act.put, List.setIfInBounds_toArray, List.set_cons_zero, List.set_cons_succ]
          refine take_in (i := 12) _ (some 56) (by kernel_rfl) (by kernel_rfl) (by kernel_rfl) (by kernel_rfl) (fun _ _ _ h => h) (by rfl) (fun o ho w hSw => by cases ho; (try dsimp only at hSw); (try go_split_ands); go_simp; (try with_reducible rfl)) hHeld ?_
          try simp only [Act.put, List.setIfInBounds_toArray, List.set_cons_zero, List.set_cons_succ]
          refine wpAnyH_ready (rs := [13]) (by kernel_rfl) (by simp) ?_
          refine AllReadyH.cons (o := _) rfl (fun K hK => ?_) AllReadyH.nil
          go_simp
          refine hK.out _ _ HS6.out (fun hHeld => ?_)
          clear hK K
          try simp only [Act.put, List.setIfInBounds_toArray, List.set_cons_zero, List.set_cons_succ]
          refine wpAnyH_done (by kernel_rfl) ?_ _
          refine NoPanic.normal ?_
          go_wp2
          exact ⟨HFZ.out, by simp [intOf]; omega⟩
        · go_simp
          try rw [hwB]
          refine hK.out _ _ HSB.out (fun hHeld => ?_)
          clear hK K
          try simp only [Act.put, List.setIfInBounds_toArray, List.set_cons_zero, List.set_cons_succ]
          refine wpAnyH_ready (rs := [1]) (by kernel_rfl) (by simp) ?_
          refine AllReadyH.cons (o := _) rfl (fun K hK => ?_) AllReadyH.nil
          go_simp
          refine hK.out _ _ hHeld (fun hHeld => ?_)
          clear hK K
          try simp only [Act.put, List.setIfInBounds_toArray, List.set_cons_zero, List.set_cons_succ]
          refine wpAnyH_ready (rs := [11]) (by kernel_rfl) (by simp) ?_
          refine AllReadyH.cons (o := _) rfl (fun K hK => ?_) AllReadyH.nil
          refine step_append_at (some 55) (by rfl) (by rfl) _ _ _ (by rfl) (by rfl) (by rfl) HR.out ?_
          refine hK.out _ _ HS5.out (fun hHeld => ?_)
          clear hK K
          try simp only [Act.put, List.setIfInBounds_toArray, List.set_cons_zero, List.set_cons_succ]
          refine take_in (i := 12) _ (some 56) (by kernel_rfl) (by kernel_rfl) (by kernel_rfl) (by kernel_rfl) (fun _ _ _ h => h) (by rfl) (fun o ho w hSw => by cases ho; (try dsimp only at hSw); (try go_split_ands); go_simp; (try with_reducible rfl)) hHeld ?_
          try simp only [Act.put, List.setIfInBounds_toArray, List.set_cons_zero, List.set_cons_succ]
          refine wpAnyH_ready (rs := [13]) (by kernel_rfl) (by simp) ?_
          refine AllReadyH.cons (o := _) rfl (fun K hK => ?_) AllReadyH.nil
          go_simp
          refine hK.out _ _ HS6.out (fun hHeld => ?_)
          clear hK K
          try simp only [Act.put, List.setIfInBounds_toArray, List.set_cons_zero, List.set_cons_succ]
          refine wpAnyH_done (by kernel_rfl) ?_ _
          refine NoPanic.normal ?_
          go_wp2
          exact ⟨HFZ.out, by simp [intOf]; omega⟩
end Go.Proofs.YtplppbgkkfjknaaGreatDoor
