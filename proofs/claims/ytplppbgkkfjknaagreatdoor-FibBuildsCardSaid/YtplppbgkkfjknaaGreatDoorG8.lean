/- balance.Fail: the walk. A group by its data alone: where the labels lie is forgotten. -/
import Derived.Test.YtplppbgkkfjknaaGreatDoorG7
namespace Go.Proofs.YtplppbgkkfjknaaGreatDoor
open Go.RowKit
set_option maxRecDepth 100000


theorem FInv.setPath {w wr : World} {A : Option Addr} {act : Int} {M g n c cA j : Nat} {qs : List PV} {p : PV} (h : FInv w wr A act M g n c cA qs) (q : PV) (hp : qs[j]? = some p)
    (hi : Ints wr wr.heap.size .i64 q.A q.ln q.lc q.ls) (ha : Apart g q.A q.ln) (ha2 : Apart (w.heap.size + 1) q.A q.ln) :
    FInv w ((((((wr.setCell ⟨g, j * 6, none⟩ (.int .i64 q.iface)).setCell ⟨g, j * 6 + 1, none⟩ (.int .u32 q.addr)).setCell ⟨g, j * 6 + 2, none⟩ (.int .u32 q.router)).setCell ⟨g, j * 6 + 3, none⟩ (.int .i64 q.weight)).setCell ⟨g, j * 6 + 4, none⟩ (.slice q.A q.ln q.lc)).setCell ⟨g, j * 6 + 5, none⟩ (.int .i64 q.backup)) A act M g n c cA (qs.set j q) := by
  have hs : ∀ (rs : List PV) (r : PV), j < rs.length → (rs.set j r)[j]? = some r := fun rs r hl => List.getElem?_set_self hl
  have hl := (List.getElem?_eq_some_iff.1 hp).1
  have h0 := h.setNum 0 { p with iface := q.iface } hp rfl (by omega) rfl rfl rfl rfl
  have h1 := h0.setNum 1 { p with iface := q.iface, addr := q.addr } (hs _ _ hl) rfl (by omega) rfl rfl rfl rfl
  rw [List.set_set] at h1
  have h2 := h1.setNum 2 { p with iface := q.iface, addr := q.addr, router := q.router } (hs _ _ hl) rfl (by omega) rfl rfl rfl rfl
  rw [List.set_set] at h2
  have h3 := h2.setNum 3 { p with iface := q.iface, addr := q.addr, router := q.router, weight := q.weight } (hs _ _ hl) rfl (by omega) rfl rfl rfl rfl
  rw [List.set_set] at h3
  have hi4 := ((((hi.setApart ha (j * 6 + 0) (.int .i64 q.iface)).setApart ha (j * 6 + 1) (.int .u32 q.addr)).setApart ha (j * 6 + 2) (.int .u32 q.router)).setApart ha (j * 6 + 3) (.int .i64 q.weight))
  have h4 := h3.set 4 { p with iface := q.iface, addr := q.addr, router := q.router, weight := q.weight, A := q.A, ln := q.ln, lc := q.lc, ls := q.ls } (hs _ _ hl) rfl (by omega) (hi4.more (by simp [World.setCell])) ha ha2
  rw [List.set_set] at h4
  have h5 := h4.setNum 5 q (v := .int .i64 q.backup) (hs _ _ hl) rfl (by omega) rfl rfl rfl rfl
  rw [List.set_set] at h5
  exact h5

set_option maxRecDepth 100000 in
set_option maxHeartbeats 4000000 in
theorem fail_any (A : Option Addr) (n cA : Nat) (act iface : Int) (ps : List PV) (w : World) (hx : Paths w w.heap.size A n cA ps) (hs : Short ps) (hn : n ≤ 1000) :
    Calls Tryz.prog 75 #[.agg #[.int .i64 act, .slice A n cA], .int .i64 iface] w (GivesGroup act n (failG act n ps iface) w) := by
  have HB := Lib.hid (((Below.refl w.heap.size w).alloc (Nat.le_refl _) (.cells #[.int .i64 act, .slice A n cA] 47)).alloc (by simp) (.cells #[.int .i64 0, .slice none 0 0] 47))
  have hx1 : Paths ((w.alloc (.cells #[.int .i64 act, .slice A n cA] 47)).alloc (.cells #[.int .i64 0, .slice none 0 0] 47)) ((w.alloc (.cells #[.int .i64 act, .slice A n cA] 47)).alloc (.cells #[.int .i64 0, .slice none 0 0] 47)).heap.size A n cA ps :=
    (hx.below HB.out).more HB.out.size
  have H1 := Lib.hid (clone_any A n cA act ps _ hx1 hs hn)
  have HX := Lib.hid hx
  have HL := Lib.hid hx.len
  clear hx1 hx
  go_enter Tryz.func75, Tryz.ntmps75
  go_wp2_with fail
  refine H1.out.mono ?_
  rintro e w1 ⟨A1, c1, qs, rfl, hown, hpq, hdat, hfr, hb1⟩
  have hsz1 : w.heap.size + 2 ≤ w1.heap.size := by have := hb1.size; simpa using this
  have HB0 : Hid (Below w.heap.size w w1) := HB.out.trans (hb1.mono HB.out.size)
  have HB2 : Hid (Below w.heap.size w (w1.alloc (.cells #[.int .i64 act, .slice A1 n c1] 47))) := HB0.out.alloc HB0.out.size _
  have u0 : w1.cell? ⟨w.heap.size, 0, none⟩ = some (.int .i64 act) := (hb1.cell (p := ⟨w.heap.size, 0, none⟩) (by simp; omega)).trans (by go_simp)
  have u1 : w1.cell? ⟨w.heap.size, 1, none⟩ = some (.slice A n cA) := (hb1.cell (p := ⟨w.heap.size, 1, none⟩) (by simp; omega)).trans (by go_simp)
  have v0 : w1.cell? ⟨w.heap.size + 1, 0, none⟩ = some (.int .i64 0) := (hb1.cell (p := ⟨w.heap.size + 1, 0, none⟩) (by simp)).trans (by go_simp)
  have v1 : w1.cell? ⟨w.heap.size + 1, 1, none⟩ = some (.slice none 0 0) := (hb1.cell (p := ⟨w.heap.size + 1, 1, none⟩) (by simp)).trans (by go_simp)
  have v2 : w1.frozen? ⟨w.heap.size + 1, 0, none⟩ = false := (hb1.frozen (p := ⟨w.heap.size + 1, 0, none⟩) (by simp)).trans (by go_simp)
  have v3 : w1.frozen? ⟨w.heap.size + 1, 1, none⟩ = false := (hb1.frozen (p := ⟨w.heap.size + 1, 1, none⟩) (by simp)).trans (by go_simp)
  have HO : Hid (0 < n → ∃ g, A1 = some ⟨g, 0, none⟩ ∧ OwnP w1 (w.heap.size + 2) g n c1 qs) := fun h => by
    obtain ⟨g, e, ho⟩ := hown h
    exact ⟨g, e, ⟨own_mono ho.row (by simp), ho.len, ho.labs⟩⟩
  have HPQ := Lib.hid hpq
  have HD := Lib.hid hdat
  have HF : Hid (∀ p ∈ qs, FreshL (w.heap.size + 2) p) := fun p hp => by
    intro hm ad had
    have := hfr p hp hm ad had
    simpa using this
  have hlt1 : w.heap.size < w1.heap.size := by omega
  have hlt2 : w.heap.size + 1 < w1.heap.size := by omega
  clear hown hpq hdat hfr hb1
  go_wp2_with fail
  refine (check_any A n cA w.heap.size act ps _ (HX.out.below HB2.out) HB2.out.size (by omega)).mono ?_
  rintro e w2 ⟨rfl, hb2⟩
  have k : ∀ b o, b < w1.heap.size + 1 → w2.cell? ⟨b, o, none⟩ = (w1.alloc (.cells #[.int .i64 act, .slice A1 n c1] 47)).cell? ⟨b, o, none⟩ := fun b o hb' => hb2.cell (p := ⟨b, o, none⟩) (by simpa using hb')
  have kf : ∀ b o, b < w1.heap.size + 1 → w2.frozen? ⟨b, o, none⟩ = (w1.alloc (.cells #[.int .i64 act, .slice A1 n c1] 47)).frozen? ⟨b, o, none⟩ := fun b o hb' => hb2.frozen (p := ⟨b, o, none⟩) (by simpa using hb')
  have o0 : w2.cell? ⟨w1.heap.size, 0, none⟩ = some (.int .i64 act) := (k _ _ (by omega)).trans (by go_simp)
  have o1 : w2.cell? ⟨w1.heap.size, 1, none⟩ = some (.slice A1 n c1) := (k _ _ (by omega)).trans (by go_simp)
  have b1 : w2.cell? ⟨w.heap.size, 1, none⟩ = some (.slice A n cA) := (k _ _ (by omega)).trans (by go_simp)
  have r0 : w2.cell? ⟨w.heap.size + 1, 0, none⟩ = some (.int .i64 0) := (k _ _ (by omega)).trans (by go_simp)
  have r1 : w2.cell? ⟨w.heap.size + 1, 1, none⟩ = some (.slice none 0 0) := (k _ _ (by omega)).trans (by go_simp)
  have f0 : w2.frozen? ⟨w.heap.size + 1, 0, none⟩ = false := (kf _ _ (by omega)).trans (by go_simp)
  have f1 : w2.frozen? ⟨w.heap.size + 1, 1, none⟩ = false := (kf _ _ (by omega)).trans (by go_simp)
  have hb12 : Below w1.heap.size w1 w2 := ((Below.refl w1.heap.size w1).alloc (Nat.le_refl _) _).trans (hb2.mono (by simp))
  have hM : w1.heap.size < w2.heap.size := by have := hb2.size; simp at this; omega
  have HBW : Hid (Below w.heap.size w w2) := HB0.out.trans (hb12.mono HB0.out.size)
  have HB12 := Lib.hid hb12
  clear hb2 k kf u0 u1 v0 v1 v2 v3 hb12
  by_cases hg : gErr act n ps = 0
  · have G := Lib.hid (good_of hg)
    have HG : Hid (failG act n ps iface = fTo (ps.map PV.dat) iface act.toNat) := by show _ = _; rw [failG, hg]; rfl
    rw [hg]
    obtain ⟨a, rfl⟩ := Int.eq_ofNat_of_zero_le G.out.a0
    rw [Int.toNat_natCast] at HG
    have ha : a ≤ n := by have := G.out.a1; omega
    clear hg
    by_cases hn0 : n = 0
    · subst hn0
      obtain rfl : a = 0 := by omega
      go_wp2
      go_loop [18] (fun k => k = .int .i64 0) (fun _ => 0)
      case atStart => rfl
      case round =>
        obtain rfl := hrel
        go_wp2
        have HG2 : Hid (failG 0 0 ps iface = ps.map PV.dat) := HG.out
        refine bodyPost_ret (v := .agg #[.int .i64 0, .slice A1 0 c1]) (by simp [results, Tryz.results75, go_sem, r0, r1]) rfl ?_
        show GivesGroup 0 0 (failG 0 0 ps iface) _ _ _
        rw [HG2.out]
        exact finish_group ⟨HPQ.out.len, HPQ.out.1.1.1, HPQ.out.1.1.2.1⟩ (fun h => absurd h (by omega)) HF.out HD.out HBW.out
    · obtain ⟨g, rfl, ho⟩ := HO.out (by omega)
      have hgl := ho.lt
      have HI : Hid (FInv w w2 A a w1.heap.size g n c1 cA qs) := ⟨b1, o0, o1, r0, r1, f0, f1, ho.below HB12.out, fun p hp hm ad had => by
        have := HF.out p hp hm ad had
        omega, HBW.out, hsz1, by omega, hM⟩
      clear ho b1 r0 r1 f0 f1
      go_wp2
      go_loopw [18] (fun i wr => ∃ (k : Nat) (qs2 : List PV), k ≤ a ∧ i = .int .i64 k ∧ Hid (FInv w wr A a w1.heap.size g n c1 cA qs2) ∧ Hid (qs2.map PV.dat = fTo (ps.map PV.dat) iface k) ∧ Hid (∀ p ∈ qs2, FreshL (w.heap.size + 2) p)) (fun i _ => a - (intOf i).toNat)
      case atStart => exact ⟨0, qs, Nat.zero_le _, rfl, HI, HD, HF⟩
      case round =>
        obtain ⟨k, qs2, hk, rfl, hi, hd, hf⟩ := hrel
        clear HI HF HD HO HPQ HB0 HB2 H1 HB HBW HB12 o0 o1 hgl
        by_cases hlt : k < a
        · obtain ⟨p, hp⟩ : ∃ p, qs2[k]? = some p := ⟨qs2[k]'(by rw [hi.out.own.len]; omega), List.getElem?_eq_getElem _⟩
          have HP := Lib.hid hp
          obtain ⟨e0, e1, e2, e3, e4, e5⟩ := hi.out.own.get hp
          have fz := fun j => hi.out.own.frozen j
          have f3 := fz (k * 6 + 3)
          have f5 := fz (k * 6 + 5)
          have b1 := hi.out.b1
          have o1 := hi.out.o1
          have HDK : Hid ((ps.map PV.dat)[k]? = some p.dat) := by
            show _ = _
            rw [← fTo_ge (ps.map PV.dat) iface (Nat.le_refl k)]
            exact dat_get hd.out hp
          clear hp fz
          by_cases hb0 : p.backup = -1
          · have db : decide (0 ≤ p.backup) = false := by simp; omega
            by_cases hif : p.iface = iface
            · have HQ1 : (qs2.set k { p with weight := 0 })[k]? = some { p with weight := 0 } := by rw [List.getElem?_set_self (List.getElem?_eq_some_iff.1 HP.out).1]
              have HS : Hid (((qs2.set k { p with weight := 0 }).set k { p with weight := 0, backup := -1 }).map PV.dat = fTo (ps.map PV.dat) iface (k + 1)) := by rw [List.set_set]; exact fTo_step hd.out (by rw [getD_of HDK.out, failP_zero (p := p.dat) (by intro h; have h1 := h.1; have h2 : p.dat.backup = p.backup := rfl; omega) hif]; rfl)
              have HFR : Hid (∀ r ∈ (qs2.set k { p with weight := 0 }).set k { p with weight := 0, backup := -1 }, FreshL (w.heap.size + 2) r) := by rw [List.set_set]; exact fresh_set hf.out (hf.out p (List.mem_of_getElem? HP.out))
              have HQ1 := Lib.hid HQ1
              have dd : (p.iface != iface) = false := by simp [hif]
              have de : (p.iface == iface) = true := by simp [hif]
              clear hif
              go_wp2_with fail
              go_quiet (fail)
              go_wp2
              go_roundw
              case rel => exact ⟨k + 1, _, by omega, by go_num, ((hi.out.drewN _).setNum 3 { p with weight := 0 } HP.out rfl (by omega) rfl rfl rfl rfl).setNum 5 { p with weight := 0, backup := -1 } HQ1.out rfl (by omega) rfl rfl rfl rfl, HS, HFR⟩
              case measure => simp [intOf]; omega
            · have HS : Hid ((qs2.set k { p with backup := -1 }).map PV.dat = fTo (ps.map PV.dat) iface (k + 1)) := fTo_step hd.out (by rw [getD_of HDK.out, failP_drop (p := p.dat) (by intro h; have h1 := h.1; have h2 : p.dat.backup = p.backup := rfl; omega) hif]; rfl)
              have HFR : Hid (∀ r ∈ qs2.set k { p with backup := -1 }, FreshL (w.heap.size + 2) r) := fresh_set hf.out (hf.out p (List.mem_of_getElem? HP.out))
              have dd : (p.iface != iface) = true := by simp [hif]
              clear hif
              go_wp2_with fail
              go_quiet (fail)
              go_wp2
              go_roundw
              case rel => exact ⟨k + 1, _, by omega, by go_num, (hi.out.drewN _).setNum 5 { p with backup := -1 } HP.out rfl (by omega) rfl rfl rfl rfl, HS, HFR⟩
              case measure => simp [intOf]; omega
          · obtain ⟨p0, hp0, hpd⟩ : ∃ p0, ps[k]? = some p0 ∧ p0.dat = p.dat := by
              have := HDK.out
              rw [List.getElem?_map] at this
              cases hq : ps[k]? with
              | none => rw [hq] at this; cases this
              | some p0 => rw [hq] at this; exact ⟨p0, rfl, by simpa using this⟩
            have hz := (pErr_zero (G.out.each k p0 (by omega) hp0)).2.2.2
            have hpb0 : p0.backup = p.backup := show p0.dat.backup = p.dat.backup by rw [hpd]
            rw [hpb0] at hz
            obtain ⟨b, hbk⟩ := Int.eq_ofNat_of_zero_le (show 0 ≤ p.backup by omega)
            rw [hbk] at e5 hz
            have hbn : b < n := by omega
            obtain ⟨bb, oo, pb, rfl, hbbB, hpb, hil, c0, c1', c2, c3, c4, c5⟩ := (HX.out.below hi.out.bel).get hbn
            have HBK : Hid (bk (ps.map PV.dat) p.dat = pb.dat) := by
              show _ = _
              rw [bk, show p.dat.backup = p.backup from rfl, hbk, Int.toNat_natCast]
              exact getD_of (by rw [List.getElem?_map, hpb]; rfl)
            have HBP := Lib.hid hbk
            have HIL := Lib.hid hil
            have HPB := Lib.hid hpb
            have db : decide ((0 : Int) ≤ (b : Int)) = true := by simp
            have hbg : bb ≠ g := by have := hi.out.own.lt; omega
            clear hp0 hpd hpb0 hz hbk hil hpb hb0
            by_cases hq : pb.iface = iface
            · have dq : (pb.iface != iface) = false := by simp [hq]
              have HNK : Hid (¬ (0 ≤ p.dat.backup ∧ (bk (ps.map PV.dat) p.dat).iface ≠ iface)) := fun h => h.2 (by rw [HBK.out]; exact hq)
              clear hq
              by_cases hif : p.iface = iface
              · have HQ1 : Hid ((qs2.set k { p with weight := 0 })[k]? = some { p with weight := 0 }) := by show _ = _; rw [List.getElem?_set_self (List.getElem?_eq_some_iff.1 HP.out).1]
                have HS : Hid (((qs2.set k { p with weight := 0 }).set k { p with weight := 0, backup := -1 }).map PV.dat = fTo (ps.map PV.dat) iface (k + 1)) := by rw [List.set_set]; exact fTo_step hd.out (by rw [getD_of HDK.out, failP_zero (p := p.dat) (by exact HNK.out) hif]; rfl)
                have HFR : Hid (∀ r ∈ (qs2.set k { p with weight := 0 }).set k { p with weight := 0, backup := -1 }, FreshL (w.heap.size + 2) r) := by rw [List.set_set]; exact fresh_set hf.out (hf.out p (List.mem_of_getElem? HP.out))
                have dd : (p.iface != iface) = false := by simp [hif]
                have de : (p.iface == iface) = true := by simp [hif]
                clear hif
                go_wp2_with fail
                go_quiet (fail)
                go_wp2
                go_roundw
                case rel => exact ⟨k + 1, _, by omega, by go_num, ((hi.out.drewN _).setNum 3 { p with weight := 0 } HP.out rfl (by omega) rfl rfl rfl rfl).setNum 5 { p with weight := 0, backup := -1 } HQ1.out rfl (by omega) rfl rfl rfl rfl, HS, HFR⟩
                case measure => simp [intOf]; omega
              · have HS : Hid ((qs2.set k { p with backup := -1 }).map PV.dat = fTo (ps.map PV.dat) iface (k + 1)) := fTo_step hd.out (by rw [getD_of HDK.out, failP_drop (p := p.dat) (by exact HNK.out) hif]; rfl)
                have HFR : Hid (∀ r ∈ qs2.set k { p with backup := -1 }, FreshL (w.heap.size + 2) r) := fresh_set hf.out (hf.out p (List.mem_of_getElem? HP.out))
                have dd : (p.iface != iface) = true := by simp [hif]
                clear hif
                go_wp2_with fail
                go_quiet (fail)
                go_wp2
                go_roundw
                case rel => exact ⟨k + 1, _, by omega, by go_num, (hi.out.drewN _).setNum 5 { p with backup := -1 } HP.out rfl (by omega) rfl rfl rfl rfl, HS, HFR⟩
                case measure => simp [intOf]; omega
            · have dq : (pb.iface != iface) = true := by simp [hq]
              have HK : Hid (0 ≤ p.dat.backup ∧ (bk (ps.map PV.dat) p.dat).iface ≠ iface) := ⟨by show 0 ≤ p.backup; rw [HBP.out]; omega, by rw [HBK.out]; exact hq⟩
              clear hq
              by_cases hif : p.iface = iface
              · have de : (p.iface == iface) = true := by simp [hif]
                have dd : (p.iface != iface) = false := by simp [hif]
                have HS0 : Hid (failP (ps.map PV.dat) iface ((ps.map PV.dat).getD k zeroP) = { pb.dat with weight := p.weight, backup := -1 }) := by
                  show _ = _
                  rw [getD_of HDK.out, failP_move HK.out.1 HK.out.2 hif, HBK.out]
                  rfl
                clear hif HK HBK
                go_wp2_with fail
                go_quiet (fail)
                have fz0 := hi.out.own.frozen (k * 6)
                have fz1 := hi.out.own.frozen (k * 6 + 1)
                have fz2 := hi.out.own.frozen (k * 6 + 2)
                have fz4 := hi.out.own.frozen (k * 6 + 4)
                go_wp2_with fail
                go_region
                have HI6 := Lib.hid ((hi.out.drewN (nq + 1)).setPath pb HP.out (((HIL.out.below (below_drewN (Below.refl _ _) (nq + 1))).more (by have := hi.out.bel.size; simp; omega))) (fun hm ad had => by
                  obtain ⟨b9, _, e, h1, _⟩ := HIL.out.2.2.2 hm
                  rw [e] at had
                  injection had with had
                  subst had
                  have := hi.out.own.lt
                  show b9 ≠ _
                  omega) (fun hm ad had => by
                  obtain ⟨b9, _, e, h1, _⟩ := HIL.out.2.2.2 hm
                  rw [e] at had
                  injection had with had
                  subst had
                  show b9 ≠ _
                  omega))
                have hpbl : pb.ln ≤ 17592186044416 := hs pb (List.mem_of_getElem? HPB.out)
                have hqm : (qs2.set k pb)[k]? = some pb := List.getElem?_set_self (List.getElem?_eq_some_iff.1 HP.out).1
                have HQM := Lib.hid hqm
                clear hqm fz0 fz1 fz2 fz4 f3 f5 e0 e1 e2 e3 e4 e5 b1 o1 c0 c1' c2 c3 c4 c5
                have k4 := (HI6.out.own.get HQM.out).2.2.2.2.1
                go_wp2_with fail
                refine (cloneInts_any _ _ _ pb.ls _ ((HI6.out.own.labs pb (List.mem_of_getElem? HQM.out)).1) hpbl).mono ?_
                rintro e w3 ⟨A2, d2, rfl, hi2, hf2, hb2⟩
                have HI7 := Lib.hid (HI6.out.below hb2)
                have l3 := (HI7.out.own.get HQM.out).2.2.2.1
                have l4 := (HI7.out.own.get HQM.out).2.2.2.2.1
                have l5 := (HI7.out.own.get HQM.out).2.2.2.2.2
                have f3 := HI7.out.own.frozen (k * 6 + 3)
                have f4 := HI7.out.own.frozen (k * 6 + 4)
                have f5 := HI7.out.own.frozen (k * 6 + 5)
                have hsz6 : wr.heap.size ≤ (((((((wr.drewN (nq + 1)).setCell ⟨g, k * 6, none⟩ (.int .i64 pb.iface)).setCell ⟨g, k * 6 + 1, none⟩ (.int .u32 pb.addr)).setCell ⟨g, k * 6 + 2, none⟩ (.int .u32 pb.router)).setCell ⟨g, k * 6 + 3, none⟩ (.int .i64 pb.weight)).setCell ⟨g, k * 6 + 4, none⟩ (.slice pb.A pb.ln pb.lc)).setCell ⟨g, k * 6 + 5, none⟩ (.int .i64 pb.backup)).heap.size := by simp [World.setCell]
                have HF2 : Hid (0 < pb.ln → ∀ ad, A2 = some ad → wr.heap.size ≤ ad.block) := fun hm ad had => Nat.le_trans hsz6 (hf2 hm ad had)
                have hgl := hi.out.own.lt
                have hwl := hi.out.bel.size
                have hl8 : ∀ (rs : List PV) (r : PV), k < rs.length → (rs.set k r)[k]? = some r := fun rs r hl => List.getElem?_set_self hl
                have hkl := (List.getElem?_eq_some_iff.1 HP.out).1
                have h8 := HI7.out.set 4 { pb with A := A2, lc := d2 } (v := .slice A2 pb.ln d2) HQM.out rfl (by omega) hi2 (fun hm ad had => by have := HF2.out hm ad had; omega) (fun hm ad had => by have := HF2.out hm ad had; have := hi.out.mg; omega)
                rw [List.set_set] at h8
                have h9 := h8.setNum 3 { pb with A := A2, lc := d2, weight := p.weight } (v := .int .i64 p.weight) (hl8 _ _ hkl) rfl (by omega) rfl rfl rfl rfl
                rw [List.set_set] at h9
                have h10 := h9.setNum 5 { pb with A := A2, lc := d2, weight := p.weight, backup := -1 } (v := .int .i64 (-1)) (hl8 _ _ hkl) rfl (by omega) rfl rfl rfl rfl
                rw [List.set_set] at h10
                have HN := Lib.hid h10
                have HD : Hid ((qs2.set k { pb with A := A2, lc := d2, weight := p.weight, backup := -1 }).map PV.dat = fTo (ps.map PV.dat) iface (k + 1)) := fTo_step hd.out (by rw [HS0.out]; rfl)
                have HFR : Hid (∀ r ∈ qs2.set k { pb with A := A2, lc := d2, weight := p.weight, backup := -1 }, FreshL (w.heap.size + 2) r) := fresh_set hf.out (fun hm ad had => by have := HF2.out hm ad had; have := hi.out.mg; omega)
                clear h8 h9 h10 hi2 hf2 hb2 HI7 HI6 hi hsz6 hgl hwl hl8 hkl HF2 hs HS0 k4
                go_wp2
                go_roundw
                case rel => exact ⟨k + 1, _, by omega, by go_num, HN, HD, HFR⟩
                case measure => simp [intOf]; omega
              · have HS : Hid (qs2.map PV.dat = fTo (ps.map PV.dat) iface (k + 1)) := fTo_same hd.out HP.out (by rw [getD_of HDK.out, failP_keep (p := p.dat) HK.out.1 HK.out.2 hif])
                have dd : (p.iface != iface) = true := by simp [hif]
                have de : (p.iface == iface) = false := by simp [hif]
                clear hif
                go_wp2_with fail
                go_quiet (fail)
                go_wp2
                go_roundw
                case rel => exact ⟨k + 1, _, by omega, by go_num, hi.out.drewN _, HS, hf⟩
                case measure => simp [intOf]; omega
        · obtain rfl : k = a := by omega
          have o0 := hi.out.o0
          have o1 := hi.out.o1
          have r0 := hi.out.r0
          have r1 := hi.out.r1
          have f0 := hi.out.f0
          have f1 := hi.out.f1
          go_wp2
          refine bodyPost_ret (v := .agg #[.int .i64 k, .slice (some ⟨g, 0, none⟩) n c1]) (by simp [results, Tryz.results75, go_sem, r0, r1]) rfl ?_
          rw [HG.out]
          have ho := hi.out.own
          have hpt := ho.paths
          exact finish_group ⟨ho.len, hpt.1.1.1, hpt.1.1.2.1⟩ (fun _ => ⟨g, rfl, ho⟩) hf.out hd.out hi.out.bel
  · have d : (gErr act n ps != 0) = true := by simp [hg]
    have HG : Hid (failG act n ps iface = ps.map PV.dat) := by show _ = _; rw [failG, if_pos hg]
    obtain ⟨e, he⟩ : ∃ e, gErr act n ps = e := ⟨_, rfl⟩
    rw [he] at d ⊢
    clear hg he
    go_wp2
    refine bodyPost_ret (v := .agg #[.int .i64 act, .slice A1 n c1]) (by simp [results, Tryz.results75, go_sem, r0, r1]) rfl ?_
    rw [HG.out]
    exact finish_group ⟨HPQ.out.len, HPQ.out.1.1.1, HPQ.out.1.1.2.1⟩ (fun h => by
      obtain ⟨g, e, ho⟩ := HO.out h
      exact ⟨g, e, ho.below HB12.out⟩) HF.out HD.out HBW.out
end Go.Proofs.YtplppbgkkfjknaaGreatDoor
namespace Go.Proofs.YtplppbgkkfjknaaGreatDoor
open Go.RowKit
set_option maxRecDepth 100000

theorem PV.dat_dat (p : PV) : p.dat.dat = p.dat := rfl
theorem map_dat_dat (ps : List PV) : (ps.map PV.dat).map PV.dat = ps.map PV.dat := by
  rw [List.map_map]
  rfl
/-- the stored length is the number of labels -/
def Even (ps : List PV) : Prop := ∀ p ∈ ps, p.ln = p.ls.length
theorem Paths.even {w : World} {B n c : Nat} {A : Option Addr} {ps : List PV} (h : Paths w B A n c ps) : Even ps := fun p hp => (h.2 p hp).len.symm
theorem even_dat (ps : List PV) : Even (ps.map PV.dat) := by
  intro p hp
  obtain ⟨q, _, rfl⟩ := List.mem_map.1 hp
  rfl
theorem pErr_dat {act : Int} {n i : Nat} {p : PV} (h : p.ln = p.ls.length) : pErr act n i p.dat = pErr act n i p := by
  unfold pErr PV.dat
  rw [← h]
theorem chkTo_dat {act : Int} {n : Nat} {ps : List PV} (h : Even ps) : ∀ k, chkTo act n (ps.map PV.dat) k = chkTo act n ps k
  | 0 => rfl
  | k + 1 => by
    rw [chkTo, chkTo, chkTo_dat h k, List.getElem?_map]
    cases hp : ps[k]? with
    | none => rfl
    | some p => simp only [Option.map_some]; rw [pErr_dat (h p (List.mem_of_getElem? hp))]
theorem gErr_dat {act : Int} {n : Nat} {ps : List PV} (h : Even ps) : gErr act n (ps.map PV.dat) = gErr act n ps := by
  unfold gErr
  rw [chkTo_dat h]
theorem wts_dat (ps : List PV) : wts (ps.map PV.dat) = wts ps := by
  unfold wts
  rw [List.map_map]
  rfl
theorem pick_dat {act flow : Int} {n : Nat} {ps : List PV} (h : Even ps) : pick act n (ps.map PV.dat) flow = pick act n ps flow := by
  unfold pick
  rw [gErr_dat h, ← List.map_take, wts_dat]
theorem failG_dat {act iface : Int} {n : Nat} {ps : List PV} (h : Even ps) : failG act n (ps.map PV.dat) iface = failG act n ps iface := by
  unfold failG
  rw [gErr_dat h, map_dat_dat]

/-- a group's paths lie in memory, and their data are ds -/
def GroupAt (w : World) (B : Nat) (A : Option Addr) (n c : Nat) (ds : List PV) : Prop := ∃ qs, Paths w B A n c qs ∧ qs.map PV.dat = ds
def ShortD (ds : List PV) : Prop := ∀ d ∈ ds, d.ls.length ≤ 17592186044416
theorem ShortD.short {w : World} {B n c : Nat} {A : Option Addr} {ds qs : List PV} (h : ShortD ds) (hq : Paths w B A n c qs) (he : qs.map PV.dat = ds) : Short qs := by
  intro p hp
  have h1 := h p.dat (by rw [← he]; exact List.mem_map_of_mem hp)
  rw [hq.even p hp]
  exact h1
section
variable {w w' : World} {B B' n c : Nat} {A : Option Addr} {ds : List PV}
theorem GroupAt.below (h : GroupAt w B A n c ds) (hb : Below B w w') : GroupAt w' B A n c ds := by
  obtain ⟨qs, h1, h2⟩ := h
  exact ⟨qs, h1.below hb, h2⟩
theorem GroupAt.more (h : GroupAt w B A n c ds) (hB : B ≤ B') : GroupAt w B' A n c ds := by
  obtain ⟨qs, h1, h2⟩ := h
  exact ⟨qs, h1.more hB, h2⟩
theorem GroupAt.grow (h : GroupAt w B A n c ds) (hb : Below B w w') (hB : B ≤ B') : GroupAt w' B' A n c ds := (h.below hb).more hB
theorem GroupAt.len (h : GroupAt w B A n c ds) : ds.length = n := by
  obtain ⟨qs, h1, rfl⟩ := h
  rw [List.length_map]
  exact h1.len
theorem GroupAt.even (h : GroupAt w B A n c ds) : Even ds := by
  obtain ⟨qs, h1, rfl⟩ := h
  exact even_dat qs
theorem GroupAt.idem (h : GroupAt w B A n c ds) : ds.map PV.dat = ds := by
  obtain ⟨qs, h1, rfl⟩ := h
  exact map_dat_dat qs
/-- the cells of one path -/
theorem GroupAt.get (h : GroupAt w B A n c ds) {j : Nat} (hj : j < n) :
    ∃ b o d D k, A = some ⟨b, o, none⟩ ∧ b < B ∧ ds[j]? = some d ∧ Ints w B .i64 D d.ls.length k d.ls ∧ w.cell? ⟨b, o + j * 6, none⟩ = some (.int .i64 d.iface) ∧ w.cell? ⟨b, o + j * 6 + 1, none⟩ = some (.int .u32 d.addr) ∧
      w.cell? ⟨b, o + j * 6 + 2, none⟩ = some (.int .u32 d.router) ∧ w.cell? ⟨b, o + j * 6 + 3, none⟩ = some (.int .i64 d.weight) ∧ w.cell? ⟨b, o + j * 6 + 4, none⟩ = some (.slice D d.ls.length k) ∧ w.cell? ⟨b, o + j * 6 + 5, none⟩ = some (.int .i64 d.backup) := by
  obtain ⟨qs, h1, rfl⟩ := h
  obtain ⟨b, o, p, rfl, hb, hp, hi, c0, c1, c2, c3, c4, c5⟩ := h1.get hj
  have he := h1.even p (List.mem_of_getElem? hp)
  refine ⟨b, o, p.dat, p.A, p.lc, rfl, hb, by rw [List.getElem?_map, hp]; rfl, ?_, c0, c1, c2, c3, ?_, c5⟩
  · show Ints w B .i64 p.A p.ls.length p.lc p.ls
    rw [← he]
    exact hi
  · show w.cell? ⟨b, o + j * 6 + 4, none⟩ = some (Value.slice p.A p.ls.length p.lc)
    rw [← he]
    exact c4
end
theorem check_at (A : Option Addr) (n c B : Nat) (act : Int) (ds : List PV) (w : World) (h : GroupAt w B A n c ds) (hB : B ≤ w.heap.size) (hn : n ≤ 1000) :
    Calls Tryz.prog 94 #[.agg #[.int .i64 act, .slice A n c]] w fun e w' => e = .returned (.int .i64 (gErr act n ds)) ∧ Below w.heap.size w w' := by
  obtain ⟨qs, h1, rfl⟩ := h
  rw [gErr_dat h1.even]
  exact check_any A n c B act qs w h1 hB (by omega)
theorem refCheck_at (A : Option Addr) (n c B : Nat) (act : Int) (ds : List PV) (w : World) (h : GroupAt w B A n c ds) (hB : B ≤ w.heap.size) (hn : n ≤ 1000) :
    Calls Tryz.prog 30 #[.agg #[.int .i64 act, .slice A n c]] w fun e w' => e = .returned (.int .i64 (gErr act n ds)) ∧ Below w.heap.size w w' := by
  obtain ⟨qs, h1, rfl⟩ := h
  rw [gErr_dat h1.even]
  exact refCheck_any A n c B act qs w h1 hB (by omega)
theorem pick_at (A : Option Addr) (n c B : Nat) (act flow : Int) (ds : List PV) (w : World) (h : GroupAt w B A n c ds) (hB : B ≤ w.heap.size) (hn : n ≤ 1000) (hf : 0 ≤ flow ∧ flow < 4294967296) :
    Calls Tryz.prog 76 #[.agg #[.int .i64 act, .slice A n c], .int .u32 flow] w fun e w' => e = .returned (.int .i64 (pick act n ds flow)) ∧ Below w.heap.size w w' := by
  obtain ⟨qs, h1, rfl⟩ := h
  rw [pick_dat h1.even]
  exact pick_any A n c B act flow qs w h1 hB (by omega) hf
theorem refPick_at (A : Option Addr) (n c B : Nat) (act flow : Int) (ds : List PV) (w : World) (h : GroupAt w B A n c ds) (hB : B ≤ w.heap.size) (hn : n ≤ 1000) (hf : 0 ≤ flow ∧ flow < 4294967296) :
    Calls Tryz.prog 81 #[.agg #[.int .i64 act, .slice A n c], .int .u32 flow] w fun e w' => e = .returned (.int .i64 (pick act n ds flow)) ∧ Below w.heap.size w w' := by
  obtain ⟨qs, h1, rfl⟩ := h
  rw [pick_dat h1.even]
  exact refPick_any A n c B act flow qs w h1 hB (by omega) hf
/-- the call returns a group -/
def GivesG (act : Int) (n : Nat) (ds : List PV) (w : World) (e : Ending) (w' : World) : Prop :=
  ∃ A c, e = .returned (.agg #[.int .i64 act, .slice A n c]) ∧ GroupAt w' w'.heap.size A n c ds ∧ Below w.heap.size w w'
theorem fail_at (A : Option Addr) (n c : Nat) (act iface : Int) (ds : List PV) (w : World) (h : GroupAt w w.heap.size A n c ds) (hs : ShortD ds) (hn : n ≤ 1000) :
    Calls Tryz.prog 75 #[.agg #[.int .i64 act, .slice A n c], .int .i64 iface] w (GivesG act n (failG act n ds iface) w) := by
  obtain ⟨qs, h1, he⟩ := h
  have h2 := hs.short h1 he
  subst he
  rw [failG_dat h1.even]
  refine (fail_any A n c act iface qs w h1 h2 hn).mono ?_
  rintro e w' ⟨A', c', rs, he, _, hp, hd, _, hb⟩
  exact ⟨A', c', he, ⟨rs, hp, hd⟩, hb⟩
theorem getD_mem {ds : List PV} {j : Nat} : ds.getD j zeroP ∈ ds ∨ ds.getD j zeroP = zeroP := by
  rw [List.getD_eq_getElem?_getD]
  cases h : ds[j]? with
  | none => exact .inr rfl
  | some d => exact .inl (List.mem_of_getElem? h)
theorem shortD_failP {ds : List PV} {iface : Int} {p : PV} (hs : ShortD ds) (hp : p.ls.length ≤ 17592186044416) : (failP ds iface p).ls.length ≤ 17592186044416 := by
  unfold failP
  split
  · split
    · show (bk ds p).ls.length ≤ _
      unfold bk
      rcases getD_mem (ds := ds) (j := p.backup.toNat) with h | h
      · exact hs _ h
      · rw [h]; simp [zeroP]
    · exact hp
  · split
    · exact hp
    · exact hp
theorem shortD_fTo {ds : List PV} {iface : Int} (hs : ShortD ds) : ∀ k, ShortD (fTo ds iface k)
  | 0 => hs
  | k + 1 => by
    intro d hd
    rw [fTo] at hd
    rcases List.mem_or_eq_of_mem_set hd with h | rfl
    · exact shortD_fTo hs k d h
    · refine shortD_failP hs ?_
      rcases getD_mem (ds := ds) (j := k) with h | h
      · exact hs _ h
      · rw [h]; simp [zeroP]
theorem shortD_failG {ds : List PV} {act iface : Int} {n : Nat} (hi : ds.map PV.dat = ds) (hs : ShortD ds) : ShortD (failG act n ds iface) := by
  unfold failG
  rw [hi]
  split
  · exact hs
  · exact shortD_fTo hs _
end Go.Proofs.YtplppbgkkfjknaaGreatDoor
