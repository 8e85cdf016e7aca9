/- The reference's Fail: the walk itself. -/
import Derived.Test.YtlcgjgmhllmekaaRefFail
namespace Go.Proofs.Ytlcgjgmhllmekaa
open Go.RowKit

set_option maxRecDepth 100000 in
set_option maxHeartbeats 4000000 in
theorem refFail_at (A : Option Addr) (n cA : Nat) (act iface : Int) (ds : List PV) (w : World) (hx : GroupAt w w.heap.size A n cA ds) (hs : ShortD ds) (hn : n ≤ 1000) :
    Calls Try.prog 16 #[.agg #[.int .i64 act, .slice A n cA], .int .i64 iface] w (GivesG act n (failG act n ds iface) w) := by
  have HB := Lib.hid (((Below.refl w.heap.size w).alloc (Nat.le_refl _) (.cells #[.int .i64 act, .slice A n cA] 24)).alloc (by simp) (.cells #[.int .i64 0, .slice none 0 0] 24))
  have H1 := Lib.hid (refCheck_at A n cA w.heap.size act ds _ (hx.below HB.out) HB.out.size hn)
  have HX := Lib.hid hx
  have HL := Lib.hid hx.len
  have HDD := Lib.hid hx.idem
  clear hx
  go_enter Try.func16, Try.ntmps16
  go_wp2_with fail
  refine H1.out.mono ?_
  rintro e w1 ⟨rfl, hb1⟩
  have hsz1 : w.heap.size + 2 ≤ w1.heap.size := by have := hb1.size; simpa using this
  have k : ∀ b o, b < w.heap.size + 2 → w1.cell? ⟨b, o, none⟩ = ((w.alloc (.cells #[.int .i64 act, .slice A n cA] 24)).alloc (.cells #[.int .i64 0, .slice none 0 0] 24)).cell? ⟨b, o, none⟩ := fun b o hb' => hb1.cell (p := ⟨b, o, none⟩) (by simpa using hb')
  have kf : ∀ b o, b < w.heap.size + 2 → w1.frozen? ⟨b, o, none⟩ = ((w.alloc (.cells #[.int .i64 act, .slice A n cA] 24)).alloc (.cells #[.int .i64 0, .slice none 0 0] 24)).frozen? ⟨b, o, none⟩ := fun b o hb' => hb1.frozen (p := ⟨b, o, none⟩) (by simpa using hb')
  have b0 : w1.cell? ⟨w.heap.size, 0, none⟩ = some (.int .i64 act) := (k _ _ (by omega)).trans (by go_simp)
  have b1 : w1.cell? ⟨w.heap.size, 1, none⟩ = some (.slice A n cA) := (k _ _ (by omega)).trans (by go_simp)
  have r0 : w1.cell? ⟨w.heap.size + 1, 0, none⟩ = some (.int .i64 0) := (k _ _ (by omega)).trans (by go_simp)
  have r1 : w1.cell? ⟨w.heap.size + 1, 1, none⟩ = some (.slice none 0 0) := (k _ _ (by omega)).trans (by go_simp)
  have f0 : w1.frozen? ⟨w.heap.size + 1, 0, none⟩ = false := (kf _ _ (by omega)).trans (by go_simp)
  have f1 : w1.frozen? ⟨w.heap.size + 1, 1, none⟩ = false := (kf _ _ (by omega)).trans (by go_simp)
  have HBW : Hid (Below w.heap.size w w1) := HB.out.trans (hb1.mono HB.out.size)
  clear hb1 k kf
  by_cases hg : gErr act n ds = 0
  · have G := Lib.hid (good_of hg)
    have HG : Hid (failG act n ds iface = fTo ds iface act.toNat) := by show _ = _; rw [failG, hg, HDD.out]; rfl
    rw [hg]
    obtain ⟨a, rfl⟩ := Int.eq_ofNat_of_zero_le G.out.a0
    rw [Int.toNat_natCast] at HG
    have ha : a ≤ n := by have := G.out.a1; omega
    have HI : Hid (RInv w (w1.alloc (.cells #[.int .i64 a, .slice none 0 0] 24)) A a w1.heap.size n cA (.slice none 0 0) 0 []) := by
      have hb : Below w1.heap.size w1 (w1.alloc (.cells #[.int .i64 a, .slice none 0 0] 24)) := (Below.refl _ _).alloc (Nat.le_refl _) _
      have k : ∀ b o, b < w1.heap.size → (w1.alloc (.cells #[.int .i64 a, .slice none 0 0] 24)).cell? ⟨b, o, none⟩ = w1.cell? ⟨b, o, none⟩ := fun b o hb' => hb.cell (p := ⟨b, o, none⟩) hb'
      have kf : ∀ b o, b < w1.heap.size → (w1.alloc (.cells #[.int .i64 a, .slice none 0 0] 24)).frozen? ⟨b, o, none⟩ = w1.frozen? ⟨b, o, none⟩ := fun b o hb' => hb.frozen (p := ⟨b, o, none⟩) hb'
      exact ⟨(k _ _ (by omega)).trans b0, (k _ _ (by omega)).trans b1, (k _ _ (by omega)).trans r0, (k _ _ (by omega)).trans r1, (kf _ _ (by omega)).trans f0, (kf _ _ (by omega)).trans f1, by go_simp, by go_simp, by go_simp,
        World.ownsRow_nil _ _ _ _, rfl, by simp, HBW.out.trans (hb.mono HBW.out.size), hsz1, by simp⟩
    clear hg HBW HB H1
    have hlt1 : w.heap.size < w1.heap.size := by omega
    have hlt2 : w.heap.size + 1 < w1.heap.size := by omega
    go_wp2
    go_loopw [20] (fun i wr => ∃ (k : Nat) (v : Value) (qs : List PV), k ≤ n ∧ i = .int .i64 k ∧ Hid (RInv w wr A a w1.heap.size n cA v k qs) ∧ Hid (qs.map PV.dat = (fTo ds iface a).take k)) (fun i _ => n - (intOf i).toNat)
    case atStart => exact ⟨0, _, [], Nat.zero_le _, rfl, HI, rfl⟩
    case round =>
      obtain ⟨k, v, qs, hk, rfl, hi, hd⟩ := hrel
      obtain ⟨Av, cv, hv⟩ := own_form hi.out.row
      subst hv
      clear HI b0 b1 r0 r1 f0 f1
      by_cases hlt : k < n
      · obtain ⟨bb, oo, p, D, dk, rfl, hbbB, hp, hil, c0, c1, c2, c3, c4, c5⟩ := (HX.out.below hi.out.bel).get hlt
        have HP := Lib.hid hp
        have HPD : Hid (PV.dat p = p) := by
          show _ = _
          have h2 : (ds.map PV.dat)[k]? = some p := by rw [HDD.out]; exact hp
          rw [List.getElem?_map, hp] at h2
          simpa using h2
        have hpl : p.ls.length ≤ 17592186044416 := hs p (List.mem_of_getElem? hp)
        have b1 := hi.out.b1
        have HIL := Lib.hid hil
        clear hp hil
        go_wp2_with fail
        have HB1 := Lib.hid ((Below.refl wr.heap.size wr).alloc (Nat.le_refl _) (.cells #[.int .i64 p.iface, .int .u32 p.addr, .int .u32 p.router, .int .i64 p.weight, .slice D p.ls.length dk, .int .i64 p.backup] 38))
        refine (copy_fresh D p.ls.length dk p.ls _ ((HIL.out.below (HB1.out.mono hi.out.bel.size)).more (by have := hi.out.bel.size; simp; omega)) hpl).mono ?_
        rintro e w2 ⟨A2, d2, rfl, hi2, hf2, hb2⟩
        have hbb : Below (wr.heap.size + 1) (wr.alloc (.cells #[.int .i64 p.iface, .int .u32 p.addr, .int .u32 p.router, .int .i64 p.weight, .slice D p.ls.length dk, .int .i64 p.backup] 38)) w2 := hb2.mono (by simp)
        have kk : ∀ o, w2.cell? ⟨wr.heap.size, o, none⟩ = (wr.alloc (.cells #[.int .i64 p.iface, .int .u32 p.addr, .int .u32 p.router, .int .i64 p.weight, .slice D p.ls.length dk, .int .i64 p.backup] 38)).cell? ⟨wr.heap.size, o, none⟩ := fun o => hbb.cell (p := ⟨wr.heap.size, o, none⟩) (Nat.lt_succ_self _)
        have kf : ∀ o, w2.frozen? ⟨wr.heap.size, o, none⟩ = (wr.alloc (.cells #[.int .i64 p.iface, .int .u32 p.addr, .int .u32 p.router, .int .i64 p.weight, .slice D p.ls.length dk, .int .i64 p.backup] 38)).frozen? ⟨wr.heap.size, o, none⟩ := fun o => hbb.frozen (p := ⟨wr.heap.size, o, none⟩) (Nat.lt_succ_self _)
        have u0 : w2.cell? ⟨wr.heap.size, 0, none⟩ = some (.int .i64 p.iface) := (kk 0).trans (by go_simp)
        have u1 : w2.cell? ⟨wr.heap.size, 1, none⟩ = some (.int .u32 p.addr) := (kk 1).trans (by go_simp)
        have u2 : w2.cell? ⟨wr.heap.size, 2, none⟩ = some (.int .u32 p.router) := (kk 2).trans (by go_simp)
        have u3 : w2.cell? ⟨wr.heap.size, 3, none⟩ = some (.int .i64 p.weight) := (kk 3).trans (by go_simp)
        have u4 : w2.cell? ⟨wr.heap.size, 4, none⟩ = some (.slice D p.ls.length dk) := (kk 4).trans (by go_simp)
        have u5 : w2.cell? ⟨wr.heap.size, 5, none⟩ = some (.int .i64 p.backup) := (kk 5).trans (by go_simp)
        have g0 : w2.frozen? ⟨wr.heap.size, 0, none⟩ = false := (kf 0).trans (by go_simp)
        have g1 : w2.frozen? ⟨wr.heap.size, 1, none⟩ = false := (kf 1).trans (by go_simp)
        have g2 : w2.frozen? ⟨wr.heap.size, 2, none⟩ = false := (kf 2).trans (by go_simp)
        have g3 : w2.frozen? ⟨wr.heap.size, 3, none⟩ = false := (kf 3).trans (by go_simp)
        have g4 : w2.frozen? ⟨wr.heap.size, 4, none⟩ = false := (kf 4).trans (by go_simp)
        have g5 : w2.frozen? ⟨wr.heap.size, 5, none⟩ = false := (kf 5).trans (by go_simp)
        have hw2s : wr.heap.size + 1 ≤ w2.heap.size := by have := hb2.size; simpa using this
        have HB2 : Hid (Below wr.heap.size wr w2) := HB1.out.trans (hb2.mono (by simp))
        have HF2 : Hid (0 < p.ls.length → ∀ ad, A2 = some ad → wr.heap.size + 1 ≤ ad.block) := fun hm ad had => by have := hf2 hm ad had; simpa using this
        have hap : Apart wr.heap.size A2 p.ls.length := fun hm ad had => by have := HF2.out hm ad had; omega
        have b0 := (hi.out.below HB2.out).b0
        have b1 := (hi.out.below HB2.out).b1
        have o1 := (hi.out.below HB2.out).o1
        have hmg := hi.out.mg
        have hws := HB2.out.size
        have hm2 : w1.heap.size < wr.heap.size := hmg.2
        have hw2 : w.heap.size < wr.heap.size := by omega
        have hb3 : bb < wr.heap.size := by omega
        have HI2 := Lib.hid hi2
        have hw22 : w.heap.size + 2 ≤ wr.heap.size := by omega
        clear kk kf hbb hb2 hf2 c0 c1 c2 c3 c4 c5 hmg
        by_cases hak : a ≤ k
        · have HFK : Hid ((fTo ds iface a)[k]? = some p) := by show _ = _; rw [fTo_ge ds iface hak]; exact HP.out
          clear hi2
          have HW : Hid (Below wr.heap.size wr (w2.setCell ⟨wr.heap.size, 4, none⟩ (.slice A2 p.ls.length d2))) := HB2.out.setCell (p := ⟨wr.heap.size, 4, none⟩) (Nat.le_refl _) _
          have HQ : Hid (Ints (w2.setCell ⟨wr.heap.size, 4, none⟩ (.slice A2 p.ls.length d2)) (w2.setCell ⟨wr.heap.size, 4, none⟩ (.slice A2 p.ls.length d2)).heap.size .i64 ({ p with A := A2, ln := p.ls.length, lc := d2 }).A ({ p with A := A2, ln := p.ls.length, lc := d2 }).ln ({ p with A := A2, ln := p.ls.length, lc := d2 }).lc ({ p with A := A2, ln := p.ls.length, lc := d2 }).ls) := (HI2.out.setApart hap 4 _).more (by simp [World.setCell])
          have HQF : Hid (FreshL wr.heap.size ({ p with A := A2, ln := p.ls.length, lc := d2 })) := fun hm ad had => by have := HF2.out hm ad had; omega
          have HD2 : Hid ((qs ++ [{ p with A := A2, ln := p.ls.length, lc := d2 }]).map PV.dat = (fTo ds iface a).take (k + 1)) := take_step hd.out HFK.out (by exact HPD.out)
          clear HFK hd
          go_wp2_with (at_builtin; refine wpList_append_new rfl _ _ rfl rfl rfl (by simp [World.setCell]) Try.underlying22 path_info rfl (by omega) (hi.out.below HW.out).row (Below.refl 0 _) (Nat.zero_le _) (hi.out.below HW.out).mg.2 rfl (vals_one1 ({ p with A := A2, ln := p.ls.length, lc := d2 })) (by simp only [maxLen]; omega) (by omega) ?_; intro v' w' h1 _ h3 h4; obtain ⟨A5, k5, rfl⟩ := own_form h1; have ha1 := (hi.out.after HW.out h3).1; have ha2 := (hi.out.after HW.out h3).2; have HN := Lib.hid (hi.out.app HW.out (q := { p with A := A2, ln := p.ls.length, lc := d2 }) HQ.out HQF.out h1 h3 h4); clear h1 h3 h4)
          go_roundw
          case rel => exact ⟨k + 1, _, _, by omega, by go_num, HN, HD2⟩
          case measure => simp [intOf]; omega
        · have hka : k < a := by omega
          have HFK : Hid ((fTo ds iface a)[k]? = some (failP ds iface p)) := by show _ = _; rw [fTo_lt ds iface hka (by have := HL.out; omega), getD_of HP.out]
          clear hi2 hak
          by_cases hb0 : p.backup = -1
          · have db : decide (0 ≤ p.backup) = false := by simp; omega
            by_cases hif : p.iface = iface
            · have HFP : Hid (failP ds iface p = { p with weight := 0, backup := -1 }) := failP_zero (by omega) hif
              have de : (p.iface == iface) = true := by simp [hif]
              have dd : (p.iface != iface) = false := by simp [hif]
              clear hif hb0
              have HW : Hid (Below wr.heap.size wr (((w2.setCell ⟨wr.heap.size, 4, none⟩ (.slice A2 p.ls.length d2)).setCell ⟨wr.heap.size, 3, none⟩ (.int .i64 0)).setCell ⟨wr.heap.size, 5, none⟩ (.int .i64 (-1)))) := ((HB2.out.setCell (p := ⟨wr.heap.size, 4, none⟩) (Nat.le_refl _) _).setCell (p := ⟨wr.heap.size, 3, none⟩) (Nat.le_refl _) _).setCell (p := ⟨wr.heap.size, 5, none⟩) (Nat.le_refl _) _
              have HQ : Hid (Ints (((w2.setCell ⟨wr.heap.size, 4, none⟩ (.slice A2 p.ls.length d2)).setCell ⟨wr.heap.size, 3, none⟩ (.int .i64 0)).setCell ⟨wr.heap.size, 5, none⟩ (.int .i64 (-1))) (((w2.setCell ⟨wr.heap.size, 4, none⟩ (.slice A2 p.ls.length d2)).setCell ⟨wr.heap.size, 3, none⟩ (.int .i64 0)).setCell ⟨wr.heap.size, 5, none⟩ (.int .i64 (-1))).heap.size .i64 ({ p with A := A2, ln := p.ls.length, lc := d2, weight := 0, backup := -1 }).A ({ p with A := A2, ln := p.ls.length, lc := d2, weight := 0, backup := -1 }).ln ({ p with A := A2, ln := p.ls.length, lc := d2, weight := 0, backup := -1 }).lc ({ p with A := A2, ln := p.ls.length, lc := d2, weight := 0, backup := -1 }).ls) := (((HI2.out.setApart hap 4 _).setApart hap 3 _).setApart hap 5 _).more (by simp [World.setCell])
              have HQF : Hid (FreshL wr.heap.size ({ p with A := A2, ln := p.ls.length, lc := d2, weight := 0, backup := -1 })) := fun hm ad had => by have := HF2.out hm ad had; omega
              have HD2 : Hid ((qs ++ [{ p with A := A2, ln := p.ls.length, lc := d2, weight := 0, backup := -1 }]).map PV.dat = (fTo ds iface a).take (k + 1)) := take_step hd.out HFK.out (by rw [HFP.out, ← HPD.out]; rfl)
              clear HFK hd
              go_wp2_with (at_builtin; refine wpList_append_new rfl _ _ rfl rfl rfl (by simp [World.setCell]) Try.underlying22 path_info rfl (by omega) (hi.out.below HW.out).row (Below.refl 0 _) (Nat.zero_le _) (hi.out.below HW.out).mg.2 rfl (vals_one1 ({ p with A := A2, ln := p.ls.length, lc := d2, weight := 0, backup := -1 })) (by simp only [maxLen]; omega) (by omega) ?_; intro v' w' h1 _ h3 h4; obtain ⟨A5, k5, rfl⟩ := own_form h1; have ha1 := (hi.out.after HW.out h3).1; have ha2 := (hi.out.after HW.out h3).2; have HN := Lib.hid (hi.out.app HW.out (q := { p with A := A2, ln := p.ls.length, lc := d2, weight := 0, backup := -1 }) HQ.out HQF.out h1 h3 h4); clear h1 h3 h4)
              go_roundw
              case rel => exact ⟨k + 1, _, _, by omega, by go_num, HN, HD2⟩
              case measure => simp [intOf]; omega
            · have HFP : Hid (failP ds iface p = { p with backup := -1 }) := failP_drop (by omega) hif
              have de : (p.iface == iface) = false := by simp [hif]
              have dd : (p.iface != iface) = true := by simp [hif]
              clear hif hb0
              have HW : Hid (Below wr.heap.size wr ((w2.setCell ⟨wr.heap.size, 4, none⟩ (.slice A2 p.ls.length d2)).setCell ⟨wr.heap.size, 5, none⟩ (.int .i64 (-1)))) := (HB2.out.setCell (p := ⟨wr.heap.size, 4, none⟩) (Nat.le_refl _) _).setCell (p := ⟨wr.heap.size, 5, none⟩) (Nat.le_refl _) _
              have HQ : Hid (Ints ((w2.setCell ⟨wr.heap.size, 4, none⟩ (.slice A2 p.ls.length d2)).setCell ⟨wr.heap.size, 5, none⟩ (.int .i64 (-1))) ((w2.setCell ⟨wr.heap.size, 4, none⟩ (.slice A2 p.ls.length d2)).setCell ⟨wr.heap.size, 5, none⟩ (.int .i64 (-1))).heap.size .i64 ({ p with A := A2, ln := p.ls.length, lc := d2, backup := -1 }).A ({ p with A := A2, ln := p.ls.length, lc := d2, backup := -1 }).ln ({ p with A := A2, ln := p.ls.length, lc := d2, backup := -1 }).lc ({ p with A := A2, ln := p.ls.length, lc := d2, backup := -1 }).ls) := ((HI2.out.setApart hap 4 _).setApart hap 5 _).more (by simp [World.setCell])
              have HQF : Hid (FreshL wr.heap.size ({ p with A := A2, ln := p.ls.length, lc := d2, backup := -1 })) := fun hm ad had => by have := HF2.out hm ad had; omega
              have HD2 : Hid ((qs ++ [{ p with A := A2, ln := p.ls.length, lc := d2, backup := -1 }]).map PV.dat = (fTo ds iface a).take (k + 1)) := take_step hd.out HFK.out (by rw [HFP.out, ← HPD.out]; rfl)
              clear HFK hd
              go_wp2_with (at_builtin; refine wpList_append_new rfl _ _ rfl rfl rfl (by simp [World.setCell]) Try.underlying22 path_info rfl (by omega) (hi.out.below HW.out).row (Below.refl 0 _) (Nat.zero_le _) (hi.out.below HW.out).mg.2 rfl (vals_one1 ({ p with A := A2, ln := p.ls.length, lc := d2, backup := -1 })) (by simp only [maxLen]; omega) (by omega) ?_; intro v' w' h1 _ h3 h4; obtain ⟨A5, k5, rfl⟩ := own_form h1; have ha1 := (hi.out.after HW.out h3).1; have ha2 := (hi.out.after HW.out h3).2; have HN := Lib.hid (hi.out.app HW.out (q := { p with A := A2, ln := p.ls.length, lc := d2, backup := -1 }) HQ.out HQF.out h1 h3 h4); clear h1 h3 h4)
              go_roundw
              case rel => exact ⟨k + 1, _, _, by omega, by go_num, HN, HD2⟩
              case measure => simp [intOf]; omega
          · have hz := (pErr_zero (G.out.each k p (by omega) HP.out)).2.2.2
            obtain ⟨b, hbk⟩ := Int.eq_ofNat_of_zero_le (show 0 ≤ p.backup by omega)
            rw [hbk] at u5 hz
            have hbn : b < n := by omega
            obtain ⟨_, _, pb, D2, dk2, he, _, hpb, hil2, c0, c1, c2, c3, c4, c5⟩ := (HX.out.below (hi.out.below HB2.out).bel).get hbn
            cases he
            have HBK : Hid (bk ds p = pb) := by
              show _ = _
              rw [bk, hbk, Int.toNat_natCast]
              exact getD_of hpb
            have HBP := Lib.hid hbk
            have HIL2 := Lib.hid hil2
            have HPB := Lib.hid hpb
            have db : decide ((0 : Int) ≤ (b : Int)) = true := by simp
            clear hz hbk hil2 hpb hb0
            by_cases hq : pb.iface = iface
            · have dq : (pb.iface != iface) = false := by simp [hq]
              have HNK : Hid (¬ (0 ≤ p.backup ∧ (bk ds p).iface ≠ iface)) := fun h => h.2 (by rw [HBK.out]; exact hq)
              clear hq
              by_cases hif : p.iface = iface
              · have HFP : Hid (failP ds iface p = { p with weight := 0, backup := -1 }) := failP_zero HNK.out hif
                have de : (p.iface == iface) = true := by simp [hif]
                have dd : (p.iface != iface) = false := by simp [hif]
                clear hif
                have HW : Hid (Below wr.heap.size wr (((w2.setCell ⟨wr.heap.size, 4, none⟩ (.slice A2 p.ls.length d2)).setCell ⟨wr.heap.size, 3, none⟩ (.int .i64 0)).setCell ⟨wr.heap.size, 5, none⟩ (.int .i64 (-1)))) := ((HB2.out.setCell (p := ⟨wr.heap.size, 4, none⟩) (Nat.le_refl _) _).setCell (p := ⟨wr.heap.size, 3, none⟩) (Nat.le_refl _) _).setCell (p := ⟨wr.heap.size, 5, none⟩) (Nat.le_refl _) _
                have HQ : Hid (Ints (((w2.setCell ⟨wr.heap.size, 4, none⟩ (.slice A2 p.ls.length d2)).setCell ⟨wr.heap.size, 3, none⟩ (.int .i64 0)).setCell ⟨wr.heap.size, 5, none⟩ (.int .i64 (-1))) (((w2.setCell ⟨wr.heap.size, 4, none⟩ (.slice A2 p.ls.length d2)).setCell ⟨wr.heap.size, 3, none⟩ (.int .i64 0)).setCell ⟨wr.heap.size, 5, none⟩ (.int .i64 (-1))).heap.size .i64 ({ p with A := A2, ln := p.ls.length, lc := d2, weight := 0, backup := -1 }).A ({ p with A := A2, ln := p.ls.length, lc := d2, weight := 0, backup := -1 }).ln ({ p with A := A2, ln := p.ls.length, lc := d2, weight := 0, backup := -1 }).lc ({ p with A := A2, ln := p.ls.length, lc := d2, weight := 0, backup := -1 }).ls) := (((HI2.out.setApart hap 4 _).setApart hap 3 _).setApart hap 5 _).more (by simp [World.setCell])
                have HQF : Hid (FreshL wr.heap.size ({ p with A := A2, ln := p.ls.length, lc := d2, weight := 0, backup := -1 })) := fun hm ad had => by have := HF2.out hm ad had; omega
                have HD2 : Hid ((qs ++ [{ p with A := A2, ln := p.ls.length, lc := d2, weight := 0, backup := -1 }]).map PV.dat = (fTo ds iface a).take (k + 1)) := take_step hd.out HFK.out (by rw [HFP.out, ← HPD.out]; rfl)
                clear HFK hd
                go_wp2_with (at_builtin; refine wpList_append_new rfl _ _ rfl rfl rfl (by simp [World.setCell]) Try.underlying22 path_info rfl (by omega) (hi.out.below HW.out).row (Below.refl 0 _) (Nat.zero_le _) (hi.out.below HW.out).mg.2 rfl (vals_one1 ({ p with A := A2, ln := p.ls.length, lc := d2, weight := 0, backup := -1 })) (by simp only [maxLen]; omega) (by omega) ?_; intro v' w' h1 _ h3 h4; obtain ⟨A5, k5, rfl⟩ := own_form h1; have ha1 := (hi.out.after HW.out h3).1; have ha2 := (hi.out.after HW.out h3).2; have HN := Lib.hid (hi.out.app HW.out (q := { p with A := A2, ln := p.ls.length, lc := d2, weight := 0, backup := -1 }) HQ.out HQF.out h1 h3 h4); clear h1 h3 h4)
                go_roundw
                case rel => exact ⟨k + 1, _, _, by omega, by go_num, HN, HD2⟩
                case measure => simp [intOf]; omega
              · have HFP : Hid (failP ds iface p = { p with backup := -1 }) := failP_drop HNK.out hif
                have de : (p.iface == iface) = false := by simp [hif]
                have dd : (p.iface != iface) = true := by simp [hif]
                clear hif
                have HW : Hid (Below wr.heap.size wr ((w2.setCell ⟨wr.heap.size, 4, none⟩ (.slice A2 p.ls.length d2)).setCell ⟨wr.heap.size, 5, none⟩ (.int .i64 (-1)))) := (HB2.out.setCell (p := ⟨wr.heap.size, 4, none⟩) (Nat.le_refl _) _).setCell (p := ⟨wr.heap.size, 5, none⟩) (Nat.le_refl _) _
                have HQ : Hid (Ints ((w2.setCell ⟨wr.heap.size, 4, none⟩ (.slice A2 p.ls.length d2)).setCell ⟨wr.heap.size, 5, none⟩ (.int .i64 (-1))) ((w2.setCell ⟨wr.heap.size, 4, none⟩ (.slice A2 p.ls.length d2)).setCell ⟨wr.heap.size, 5, none⟩ (.int .i64 (-1))).heap.size .i64 ({ p with A := A2, ln := p.ls.length, lc := d2, backup := -1 }).A ({ p with A := A2, ln := p.ls.length, lc := d2, backup := -1 }).ln ({ p with A := A2, ln := p.ls.length, lc := d2, backup := -1 }).lc ({ p with A := A2, ln := p.ls.length, lc := d2, backup := -1 }).ls) := ((HI2.out.setApart hap 4 _).setApart hap 5 _).more (by simp [World.setCell])
                have HQF : Hid (FreshL wr.heap.size ({ p with A := A2, ln := p.ls.length, lc := d2, backup := -1 })) := fun hm ad had => by have := HF2.out hm ad had; omega
                have HD2 : Hid ((qs ++ [{ p with A := A2, ln := p.ls.length, lc := d2, backup := -1 }]).map PV.dat = (fTo ds iface a).take (k + 1)) := take_step hd.out HFK.out (by rw [HFP.out, ← HPD.out]; rfl)
                clear HFK hd
                go_wp2_with (at_builtin; refine wpList_append_new rfl _ _ rfl rfl rfl (by simp [World.setCell]) Try.underlying22 path_info rfl (by omega) (hi.out.below HW.out).row (Below.refl 0 _) (Nat.zero_le _) (hi.out.below HW.out).mg.2 rfl (vals_one1 ({ p with A := A2, ln := p.ls.length, lc := d2, backup := -1 })) (by simp only [maxLen]; omega) (by omega) ?_; intro v' w' h1 _ h3 h4; obtain ⟨A5, k5, rfl⟩ := own_form h1; have ha1 := (hi.out.after HW.out h3).1; have ha2 := (hi.out.after HW.out h3).2; have HN := Lib.hid (hi.out.app HW.out (q := { p with A := A2, ln := p.ls.length, lc := d2, backup := -1 }) HQ.out HQF.out h1 h3 h4); clear h1 h3 h4)
                go_roundw
                case rel => exact ⟨k + 1, _, _, by omega, by go_num, HN, HD2⟩
                case measure => simp [intOf]; omega
            · have dq : (pb.iface != iface) = true := by simp [hq]
              have HK : Hid (0 ≤ p.backup ∧ (bk ds p).iface ≠ iface) := ⟨by rw [HBP.out]; omega, by rw [HBK.out]; exact hq⟩
              clear hq
              by_cases hif : p.iface = iface
              · have HFP : Hid (failP ds iface p = { pb with weight := p.weight, backup := -1 }) := by show _ = _; rw [failP_move HK.out.1 HK.out.2 hif, HBK.out]
                have de : (p.iface == iface) = true := by simp [hif]
                have dd : (p.iface != iface) = false := by simp [hif]
                clear hif
                go_wp2_with fail
                have hpbm := HPB.out
                have hpbl : pb.ls.length ≤ 17592186044416 := hs pb (List.mem_of_getElem? hpbm)
                have HPBD : Hid (PV.dat pb = pb) := by
                  show _ = _
                  have h2 : (ds.map PV.dat)[b]? = some pb := by rw [HDD.out]; exact hpbm
                  rw [List.getElem?_map, hpbm] at h2
                  simpa using h2
                have HB6 : Hid (Below wr.heap.size wr (((((((w2.setCell ⟨wr.heap.size, 4, none⟩ (.slice A2 p.ls.length d2)).setCell ⟨wr.heap.size, 0, none⟩ (.int .i64 pb.iface)).setCell ⟨wr.heap.size, 1, none⟩ (.int .u32 pb.addr)).setCell ⟨wr.heap.size, 2, none⟩ (.int .u32 pb.router)).setCell ⟨wr.heap.size, 3, none⟩ (.int .i64 pb.weight)).setCell ⟨wr.heap.size, 4, none⟩ (.slice D2 pb.ls.length dk2)).setCell ⟨wr.heap.size, 5, none⟩ (.int .i64 pb.backup))) := (((((((HB2.out).setCell (p := ⟨wr.heap.size, 4, none⟩) (Nat.le_refl _) _).setCell (p := ⟨wr.heap.size, 0, none⟩) (Nat.le_refl _) _).setCell (p := ⟨wr.heap.size, 1, none⟩) (Nat.le_refl _) _).setCell (p := ⟨wr.heap.size, 2, none⟩) (Nat.le_refl _) _).setCell (p := ⟨wr.heap.size, 3, none⟩) (Nat.le_refl _) _).setCell (p := ⟨wr.heap.size, 4, none⟩) (Nat.le_refl _) _).setCell (p := ⟨wr.heap.size, 5, none⟩) (Nat.le_refl _) _
                have HB26 : Hid (Below w.heap.size w2 (((((((w2.setCell ⟨wr.heap.size, 4, none⟩ (.slice A2 p.ls.length d2)).setCell ⟨wr.heap.size, 0, none⟩ (.int .i64 pb.iface)).setCell ⟨wr.heap.size, 1, none⟩ (.int .u32 pb.addr)).setCell ⟨wr.heap.size, 2, none⟩ (.int .u32 pb.router)).setCell ⟨wr.heap.size, 3, none⟩ (.int .i64 pb.weight)).setCell ⟨wr.heap.size, 4, none⟩ (.slice D2 pb.ls.length dk2)).setCell ⟨wr.heap.size, 5, none⟩ (.int .i64 pb.backup))) := (((((((Below.refl w.heap.size w2).setCell (p := ⟨wr.heap.size, 4, none⟩) (by show _ ≤ wr.heap.size; omega) _).setCell (p := ⟨wr.heap.size, 0, none⟩) (by show _ ≤ wr.heap.size; omega) _).setCell (p := ⟨wr.heap.size, 1, none⟩) (by show _ ≤ wr.heap.size; omega) _).setCell (p := ⟨wr.heap.size, 2, none⟩) (by show _ ≤ wr.heap.size; omega) _).setCell (p := ⟨wr.heap.size, 3, none⟩) (by show _ ≤ wr.heap.size; omega) _).setCell (p := ⟨wr.heap.size, 4, none⟩) (by show _ ≤ wr.heap.size; omega) _).setCell (p := ⟨wr.heap.size, 5, none⟩) (by show _ ≤ wr.heap.size; omega) _
                have hs6 : Hid (w2.heap.size ≤ (((((((w2.setCell ⟨wr.heap.size, 4, none⟩ (.slice A2 p.ls.length d2)).setCell ⟨wr.heap.size, 0, none⟩ (.int .i64 pb.iface)).setCell ⟨wr.heap.size, 1, none⟩ (.int .u32 pb.addr)).setCell ⟨wr.heap.size, 2, none⟩ (.int .u32 pb.router)).setCell ⟨wr.heap.size, 3, none⟩ (.int .i64 pb.weight)).setCell ⟨wr.heap.size, 4, none⟩ (.slice D2 pb.ls.length dk2)).setCell ⟨wr.heap.size, 5, none⟩ (.int .i64 pb.backup)).heap.size) := HB26.out.size
                clear hpbm
                refine (copy_fresh D2 pb.ls.length dk2 pb.ls _ ((HIL2.out.below HB26.out).more (by have := hs6.out; omega)) hpbl).mono ?_
                rintro e w3 ⟨A3, d3, rfl, hi3, hf3, hb3w⟩
                have kk : ∀ o, w3.cell? ⟨wr.heap.size, o, none⟩ = (((((((w2.setCell ⟨wr.heap.size, 4, none⟩ (.slice A2 p.ls.length d2)).setCell ⟨wr.heap.size, 0, none⟩ (.int .i64 pb.iface)).setCell ⟨wr.heap.size, 1, none⟩ (.int .u32 pb.addr)).setCell ⟨wr.heap.size, 2, none⟩ (.int .u32 pb.router)).setCell ⟨wr.heap.size, 3, none⟩ (.int .i64 pb.weight)).setCell ⟨wr.heap.size, 4, none⟩ (.slice D2 pb.ls.length dk2)).setCell ⟨wr.heap.size, 5, none⟩ (.int .i64 pb.backup)).cell? ⟨wr.heap.size, o, none⟩ := fun o => hb3w.cell (p := ⟨wr.heap.size, o, none⟩) (by show wr.heap.size < _; have := hs6.out; omega)
                have kf : ∀ o, w3.frozen? ⟨wr.heap.size, o, none⟩ = (((((((w2.setCell ⟨wr.heap.size, 4, none⟩ (.slice A2 p.ls.length d2)).setCell ⟨wr.heap.size, 0, none⟩ (.int .i64 pb.iface)).setCell ⟨wr.heap.size, 1, none⟩ (.int .u32 pb.addr)).setCell ⟨wr.heap.size, 2, none⟩ (.int .u32 pb.router)).setCell ⟨wr.heap.size, 3, none⟩ (.int .i64 pb.weight)).setCell ⟨wr.heap.size, 4, none⟩ (.slice D2 pb.ls.length dk2)).setCell ⟨wr.heap.size, 5, none⟩ (.int .i64 pb.backup)).frozen? ⟨wr.heap.size, o, none⟩ := fun o => hb3w.frozen (p := ⟨wr.heap.size, o, none⟩) (by show wr.heap.size < _; have := hs6.out; omega)
                have x0 : w3.cell? ⟨wr.heap.size, 0, none⟩ = some (.int .i64 pb.iface) := (kk 0).trans (by go_simp)
                have x1 : w3.cell? ⟨wr.heap.size, 1, none⟩ = some (.int .u32 pb.addr) := (kk 1).trans (by go_simp)
                have x2 : w3.cell? ⟨wr.heap.size, 2, none⟩ = some (.int .u32 pb.router) := (kk 2).trans (by go_simp)
                have x3 : w3.cell? ⟨wr.heap.size, 3, none⟩ = some (.int .i64 pb.weight) := (kk 3).trans (by go_simp)
                have x4 : w3.cell? ⟨wr.heap.size, 4, none⟩ = some (.slice D2 pb.ls.length dk2) := (kk 4).trans (by go_simp)
                have x5 : w3.cell? ⟨wr.heap.size, 5, none⟩ = some (.int .i64 pb.backup) := (kk 5).trans (by go_simp)
                have y3 : w3.frozen? ⟨wr.heap.size, 3, none⟩ = false := (kf 3).trans (by go_simp)
                have y4 : w3.frozen? ⟨wr.heap.size, 4, none⟩ = false := (kf 4).trans (by go_simp)
                have y5 : w3.frozen? ⟨wr.heap.size, 5, none⟩ = false := (kf 5).trans (by go_simp)
                have HB3 : Hid (Below wr.heap.size wr w3) := HB6.out.trans (hb3w.mono HB6.out.size)
                have HF3 : Hid (0 < pb.ls.length → ∀ ad, A3 = some ad → wr.heap.size + 1 ≤ ad.block) := fun hm ad had => by have := hf3 hm ad had; have := hs6.out; omega
                have hap3 : Apart wr.heap.size A3 pb.ls.length := fun hm ad had => by have := HF3.out hm ad had; omega
                have ob0 := (hi.out.below HB3.out).b0
                have ob1 := (hi.out.below HB3.out).b1
                have oo1 := (hi.out.below HB3.out).o1
                have HI3 := Lib.hid hi3
                have HW : Hid (Below wr.heap.size wr (((w3.setCell ⟨wr.heap.size, 4, none⟩ (.slice A3 pb.ls.length d3)).setCell ⟨wr.heap.size, 3, none⟩ (.int .i64 p.weight)).setCell ⟨wr.heap.size, 5, none⟩ (.int .i64 (-1)))) := (((HB3.out).setCell (p := ⟨wr.heap.size, 4, none⟩) (Nat.le_refl _) _).setCell (p := ⟨wr.heap.size, 3, none⟩) (Nat.le_refl _) _).setCell (p := ⟨wr.heap.size, 5, none⟩) (Nat.le_refl _) _
                have HQ : Hid (Ints (((w3.setCell ⟨wr.heap.size, 4, none⟩ (.slice A3 pb.ls.length d3)).setCell ⟨wr.heap.size, 3, none⟩ (.int .i64 p.weight)).setCell ⟨wr.heap.size, 5, none⟩ (.int .i64 (-1))) (((w3.setCell ⟨wr.heap.size, 4, none⟩ (.slice A3 pb.ls.length d3)).setCell ⟨wr.heap.size, 3, none⟩ (.int .i64 p.weight)).setCell ⟨wr.heap.size, 5, none⟩ (.int .i64 (-1))).heap.size .i64 ({ pb with A := A3, ln := pb.ls.length, lc := d3, weight := p.weight, backup := -1 }).A ({ pb with A := A3, ln := pb.ls.length, lc := d3, weight := p.weight, backup := -1 }).ln ({ pb with A := A3, ln := pb.ls.length, lc := d3, weight := p.weight, backup := -1 }).lc ({ pb with A := A3, ln := pb.ls.length, lc := d3, weight := p.weight, backup := -1 }).ls) := (((HI3.out.setApart hap3 4 _).setApart hap3 3 _).setApart hap3 5 _).more (by simp [World.setCell])
                have HQF : Hid (FreshL wr.heap.size ({ pb with A := A3, ln := pb.ls.length, lc := d3, weight := p.weight, backup := -1 })) := fun hm ad had => by have := HF3.out hm ad had; omega
                have HD2 : Hid ((qs ++ [{ pb with A := A3, ln := pb.ls.length, lc := d3, weight := p.weight, backup := -1 }]).map PV.dat = (fTo ds iface a).take (k + 1)) := take_step hd.out HFK.out (by rw [HFP.out, ← HPBD.out]; rfl)
                clear HFK hd hi3 hf3 hb3w kk kf HB6 HB26 hs6 b0 b1 o1 u0 u1 u2 u3 u4 u5 g0 g1 g2 g3 g4 g5 c0 c1 c2 c3 c4 c5 HB1 HB2 HI2 HF2 hap
                go_wp2_with (at_builtin; refine wpList_append_new rfl _ _ rfl rfl rfl (by simp [World.setCell]) Try.underlying22 path_info rfl (by omega) (hi.out.below HW.out).row (Below.refl 0 _) (Nat.zero_le _) (hi.out.below HW.out).mg.2 rfl (vals_one1 ({ pb with A := A3, ln := pb.ls.length, lc := d3, weight := p.weight, backup := -1 })) (by simp only [maxLen]; omega) (by omega) ?_; intro v' w' h1 _ h3 h4; obtain ⟨A5, k5, rfl⟩ := own_form h1; have ha1 := (hi.out.after HW.out h3).1; have ha2 := (hi.out.after HW.out h3).2; have HN := Lib.hid (hi.out.app HW.out (q := { pb with A := A3, ln := pb.ls.length, lc := d3, weight := p.weight, backup := -1 }) HQ.out HQF.out h1 h3 h4); clear h1 h3 h4)
                go_roundw
                case rel => exact ⟨k + 1, _, _, by omega, by go_num, HN, HD2⟩
                case measure => simp [intOf]; omega
              · have HFP : Hid (failP ds iface p = p) := failP_keep HK.out.1 HK.out.2 hif
                have de : (p.iface == iface) = false := by simp [hif]
                have dd : (p.iface != iface) = true := by simp [hif]
                clear hif
                have HW : Hid (Below wr.heap.size wr (w2.setCell ⟨wr.heap.size, 4, none⟩ (.slice A2 p.ls.length d2))) := HB2.out.setCell (p := ⟨wr.heap.size, 4, none⟩) (Nat.le_refl _) _
                have HQ : Hid (Ints (w2.setCell ⟨wr.heap.size, 4, none⟩ (.slice A2 p.ls.length d2)) (w2.setCell ⟨wr.heap.size, 4, none⟩ (.slice A2 p.ls.length d2)).heap.size .i64 ({ p with A := A2, ln := p.ls.length, lc := d2, backup := (b : Int) }).A ({ p with A := A2, ln := p.ls.length, lc := d2, backup := (b : Int) }).ln ({ p with A := A2, ln := p.ls.length, lc := d2, backup := (b : Int) }).lc ({ p with A := A2, ln := p.ls.length, lc := d2, backup := (b : Int) }).ls) := (HI2.out.setApart hap 4 _).more (by simp [World.setCell])
                have HQF : Hid (FreshL wr.heap.size ({ p with A := A2, ln := p.ls.length, lc := d2, backup := (b : Int) })) := fun hm ad had => by have := HF2.out hm ad had; omega
                have HD2 : Hid ((qs ++ [{ p with A := A2, ln := p.ls.length, lc := d2, backup := (b : Int) }]).map PV.dat = (fTo ds iface a).take (k + 1)) := take_step hd.out HFK.out (by rw [HFP.out, ← HBP.out]; exact HPD.out)
                clear HFK hd
                go_wp2_with (at_builtin; refine wpList_append_new rfl _ _ rfl rfl rfl (by simp [World.setCell]) Try.underlying22 path_info rfl (by omega) (hi.out.below HW.out).row (Below.refl 0 _) (Nat.zero_le _) (hi.out.below HW.out).mg.2 rfl (vals_one1 ({ p with A := A2, ln := p.ls.length, lc := d2, backup := (b : Int) })) (by simp only [maxLen]; omega) (by omega) ?_; intro v' w' h1 _ h3 h4; obtain ⟨A5, k5, rfl⟩ := own_form h1; have ha1 := (hi.out.after HW.out h3).1; have ha2 := (hi.out.after HW.out h3).2; have HN := Lib.hid (hi.out.app HW.out (q := { p with A := A2, ln := p.ls.length, lc := d2, backup := (b : Int) }) HQ.out HQF.out h1 h3 h4); clear h1 h3 h4)
                go_roundw
                case rel => exact ⟨k + 1, _, _, by omega, by go_num, HN, HD2⟩
                case measure => simp [intOf]; omega
      · obtain rfl : k = n := by omega
        have o0 := hi.out.o0
        have o1 := hi.out.o1
        have r0 := hi.out.r0
        have r1 := hi.out.r1
        have f0 := hi.out.f0
        have f1 := hi.out.f1
        go_wp2
        refine bodyPost_ret (v := .agg #[.int .i64 a, .slice Av k cv]) (by simp [results, Try.results16, go_sem, r0, r1]) rfl ?_
        rw [HG.out]
        have hws := hi.out.bel.size
        have hmg := hi.out.mg
        have hbw : Below w.heap.size w ((wr.setCell ⟨w.heap.size + 1, 0, none⟩ (.int .i64 a)).setCell ⟨w.heap.size + 1, 1, none⟩ (.slice Av k cv)) :=
          (hi.out.bel.setCell (p := ⟨w.heap.size + 1, 0, none⟩) (Nat.le_succ _) _).setCell (p := ⟨w.heap.size + 1, 1, none⟩) (Nat.le_succ _) _
        have hrw := ownsRow_setCell_below (ownsRow_setCell_below hi.out.row (a := ⟨w.heap.size + 1, 0, none⟩) (by show w.heap.size + 1 < _; omega) (.int .i64 a)) (a := ⟨w.heap.size + 1, 1, none⟩) (by show w.heap.size + 1 < _; omega) (.slice Av k cv)
        refine ⟨Av, cv, rfl, ⟨qs, ⟨⟨Cells.of_own hrw, hi.out.len⟩, fun p hp => ?_⟩, ?_⟩, hbw⟩
        · obtain ⟨i1, i2, _⟩ := hi.out.labs p hp
          have hap : Apart (w.heap.size + 1) p.A p.ln := fun hm ad had => by have := i2 hm ad had; omega
          exact ((i1.setApart hap 0 _).setApart hap 1 _).more (by simp [World.setCell])
        · rw [hd.out, List.take_of_length_le (by rw [fTo_len, HL.out]; exact Nat.le_refl _)]
  · have d : (gErr act n ds != 0) = true := by simp [hg]
    have HG : Hid (failG act n ds iface = ds) := by show _ = _; rw [failG, if_pos hg]; exact HDD.out
    obtain ⟨e, he⟩ : ∃ e, gErr act n ds = e := ⟨_, rfl⟩
    rw [he] at d ⊢
    clear hg he
    go_wp2
    refine bodyPost_ret (v := .agg #[.int .i64 act, .slice A n cA]) (by simp [results, Try.results16, go_sem, r0, r1]) rfl ?_
    rw [HG.out]
    have hb2 : Below w.heap.size w ((w1.setCell ⟨w.heap.size + 1, 0, none⟩ (.int .i64 act)).setCell ⟨w.heap.size + 1, 1, none⟩ (.slice A n cA)) :=
      (HBW.out.setCell (p := ⟨w.heap.size + 1, 0, none⟩) (Nat.le_succ _) _).setCell (p := ⟨w.heap.size + 1, 1, none⟩) (Nat.le_succ _) _
    exact ⟨A, cA, rfl, HX.out.grow hb2 hb2.size, hb2⟩
end Go.Proofs.Ytlcgjgmhllmekaa
