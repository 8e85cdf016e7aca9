/- BalanceMoves: the walk. -/
import Derived.Test.YtlcgjgmhllmekaaFresh
import Derived.Test.YtlcgjgmhllmekaaWeightsWalk
import Derived.Deep.DeepCutAuto
namespace Go.Proofs.Ytlcgjgmhllmekaa
open Go.RowKit

theorem refCheck_big (A : Option Addr) (n c B : Nat) (act : Int) (ds : List PV) (w : World) (h : GroupAt w B A n c ds) (hB : B ≤ w.heap.size) (hn : n ≤ 140737488355328) :
    Calls Try.prog 11 #[.agg #[.int .i64 act, .slice A n c]] w fun e w' => e = .returned (.int .i64 (gErr act n ds)) ∧ Below w.heap.size w w' := by
  obtain ⟨qs, h1, rfl⟩ := h
  rw [gErr_dat h1.even]
  exact refCheck_any A n c B act qs w h1 hB hn
set_option maxRecDepth 100000 in
set_option maxHeartbeats 8000000 in
theorem moves_walk0 (act flow iface member : Int) (A B : Option Addr) (n c m d : Nat) (ds : List PV) (ws : List Int) (w : World) (hx : GroupAt w w.heap.size A n c ds) (hsd : ShortD ds) (hn0 : n ≤ 140737488355328) (hf : 0 ≤ flow ∧ flow < 4294967296)
    (hy : Ints w w.heap.size .i64 B m d ws) (hw : Wide ws) (hmem : -9223372036854775808 ≤ member ∧ member ≤ 9223372036854775807) :
    Calls Try.prog 4 #[.agg #[.int .i64 act, .slice A n c], .int .u32 flow, .int .i64 iface, .slice B m d, .int .i64 member] w fun e w' => e = .returned (.bool true) ∧ Below w.heap.size w w' := by
  have HS0 : Hid (GBox w act (.slice A n c) (w.alloc (.cells #[.int .i64 act, .slice A n c] 24))) := GBox.of (Below.refl _ _)
  by_cases hn : 100 < m
  · clear hx hy
    go_enter Try.func4, Try.ntmps4
    go_wp2_with fail
    refine (awake_any _).mono ?_
    rintro e w1 ⟨rfl, hb1⟩
    have HB : Hid (Below w.heap.size w w1) := (HS0.out.step hb1).below
    clear hb1 HS0
    go_wp2
    go_ret
    exact ⟨rfl, HB.out⟩
  have hm' : m ≤ 100 := by omega
  have HY := Lib.hid hy
  have HX := Lib.hid hx
  have HW := Lib.hid hw
  have HF := Lib.hid hf
  have HL := Lib.hid hy.len
  have HSD := Lib.hid hsd
  clear hy hx hw hf hn hsd
  go_enter Try.func4, Try.ntmps4
  go_wp2_with fail
  refine (choose_any B m d w.heap.size ws flow _ (HY.out.below HS0.out.below) HS0.out.below.size HW.out HF.out (by omega)).mono ?_
  rintro e w1 ⟨rfl, hb1⟩
  have HS1 : Hid (GBox w act (.slice A n c) w1) := HS0.out.step hb1
  clear hb1 HS0
  obtain ⟨r, hr⟩ : ∃ r, ch ws flow m = r := ⟨_, rfl⟩
  rw [hr]
  have HR := Lib.hid hr
  clear hr
  go_upto_region 4 with fail
  go_cut [33] (fun s wx => s = .bool (decide (0 ≤ member ∧ member < m)) ∧ w1 = wx)
  case' first =>
    by_cases h1 : 0 ≤ member
    case' neg =>
      go_wp2_with fail
      go_meet
      exact ⟨bool_eq (by simp; omega), rfl⟩
    case' pos =>
      go_wp2_with fail
      go_meet
      exact ⟨bool_eq (by simp; omega), rfl⟩
  case' rest =>
    obtain ⟨rfl, rfl⟩ := hcut
  go_upto_if 33 with fail
  go_cut [] (fun wx => GBox w act (.slice A n c) wx)
  case' first =>
    by_cases hin : 0 ≤ member ∧ member < m
    · obtain ⟨q, hq⟩ := Int.eq_ofNat_of_zero_le (a := member) (by omega)
      subst hq
      have hqm : q < m := by omega
      have dn : decide ((0 : Int) ≤ (q : Int) ∧ (q : Int) < (m : Int)) = true := decide_eq_true hin
      have HQ := Lib.hid (set0 ws flow m q HL.out hqm)
      rw [HR.out] at HQ
      go_wp2_with fail
      refine (copyInts_any B none m d 0 0 ws [] w1 ((HY.out.below HS1.out.below).more HS1.out.below.size) (Ints.nil _ _ _) (by omega)).mono ?_
      rintro e w2 ⟨A2, c2, rfl, ho, hb2⟩
      rw [List.append_nil, Nat.add_zero] at ho
      obtain ⟨g, cap, hv, hg1, hg2⟩ := Own.form ho (by omega)
      obtain ⟨rfl, rfl⟩ : A2 = some ⟨g, 0, none⟩ ∧ c2 = cap := by
        injection hv with h1 _ h2
        exact ⟨h1, h2⟩
      have hcell : w2.cell? ⟨g, q, none⟩ = some (.int .i64 (ws.getD q 0)) := ho.cell hqm
      obtain ⟨x, hx⟩ : ∃ x, ws.getD q 0 = x := ⟨_, rfl⟩
      rw [hx] at hcell
      have hfr : w2.frozen? ⟨g, q, none⟩ = false := ho.frozen q
      have HSET := Lib.hid (ho.set q 0)
      have hw' : Hid (Wide (ws.set q 0)) := wide_set HW.out q (by omega)
      have HB2 : Hid (Below w1.heap.size w1 (w2.setCell ⟨g, q, none⟩ (.int .i64 0))) := hb2.setCell (p := ⟨g, q, none⟩) hg1 _
      clear ho hb2 hv hx
      go_wp2_with fail
      refine (choose_any _ m _ _ (ws.set q 0) flow _ HSET.out.ints (Nat.le_refl _) hw'.out HF.out (by omega)).mono ?_
      rintro e w3 ⟨rfl, hb3⟩
      have HS3 : Hid (GBox w act (.slice A n c) w3) := HS1.out.step (HB2.out.trans (hb3.mono HB2.out.size))
      obtain ⟨r', hr'⟩ : ∃ r', ch (ws.set q 0) flow m = r' := ⟨_, rfl⟩
      rw [hr'] at HQ ⊢
      clear hb3 hcell hfr HSET HB2 hr'
      by_cases hrq : r = q + 1
      · have d1 : (((r : Int) - 1) == (q : Int)) = true := by simp; omega
        have d2 : (((r : Int) - 1) != (q : Int)) = false := by simp; omega
        have d3 : (((r' : Int) - 1) == (q : Int)) = false := by have := HQ.out.2; simp; omega
        clear hrq
        go_wp2_with fail
        go_meet
        exact HS3.out
      · have d1 : (((r : Int) - 1) == (q : Int)) = false := by simp; omega
        have d2 : (((r : Int) - 1) != (q : Int)) = true := by simp; omega
        have d3 : (((r' : Int) - 1) != ((r : Int) - 1)) = false := by have := HQ.out.1 hrq; simp; omega
        clear hrq
        go_wp2_with fail
        go_meet
        exact HS3.out
    · have dn : decide (0 ≤ member ∧ member < m) = false := decide_eq_false hin
      go_wp2_with fail
      go_meet
      exact HS1.out
  all_goals
    have HS2 := Lib.hid hcut
    obtain ⟨u0, u1, _⟩ := hcut
    clear HS1
    go_wp2_with fail
    refine (refCheck_big A n c w.heap.size act ds wc (HX.out.below HS2.out.below) HS2.out.below.size hn0).mono ?_
    rintro e w4 ⟨rfl, hb4⟩
    have HS4 : Hid (GBox w act (.slice A n c) w4) := HS2.out.step hb4
    clear hb4 HS2 u0 u1
    by_cases hg : gErr act n ds = 0
    case neg =>
      have d : (gErr act n ds != 0) = true := by simp [hg]
      obtain ⟨ge, hge⟩ : ∃ e, gErr act n ds = e := ⟨_, rfl⟩
      rw [hge] at d ⊢
      clear hg hge
      go_wp2_with fail
      refine (awake_any _).mono ?_
      rintro e w5 ⟨rfl, hb5⟩
      have HB : Hid (Below w.heap.size w w5) := (HS4.out.step hb5).below
      clear hb5
      go_wp2
      go_ret
      exact ⟨rfl, HB.out⟩
    rw [hg]
    have G := Lib.hid (good_of hg)
    have hl := HX.out.len
    have hi := HX.out.idem
    have hn1 : n ≤ 1000 := by have := G.out.n64; omega
    have HNone := Lib.hid (moves_none (iface := iface) G.out hl hi flow)
    have HRange := Lib.hid (pick_range G.out flow)
    have HKeep := Lib.hid (fun (i : Nat) h1 h2 h3 => moves_keep (iface := iface) (flow := flow) (i := i) G.out hl hi h1 h2 h3)
    have HAway := Lib.hid (fun (i : Nat) h1 h2 => moves_away (iface := iface) (flow := flow) (i := i) G.out hl hi h1 h2)
    have HClean := Lib.hid (clean (iface := iface) (flow := flow) G.out hl hi)
    have HMoved := Lib.hid (fun (i : Nat) h1 => moved (iface := iface) (i := i) G.out hl hi h1)
    obtain ⟨fs, hfs⟩ : ∃ e, failG act n ds iface = e := ⟨_, rfl⟩
    obtain ⟨pi, hpi⟩ : ∃ e, pick act n ds flow = e := ⟨_, rfl⟩
    obtain ⟨pk, hpk⟩ : ∃ e, pick act n fs flow = e := ⟨_, rfl⟩
    have HFL : Hid (fs.length = n) := by rw [← hfs]; exact (failG_len _ _ _ _).trans hl
    rw [hfs, hpi, hpk] at HNone
    rw [hpi] at HRange
    rw [hfs, hpk] at HKeep HAway HClean
    rw [hfs] at HMoved
    have HFS := Lib.hid hfs
    have HPI := Lib.hid hpi
    have HPK := Lib.hid hpk
    clear hg hfs hpi hpk hl hi
    obtain ⟨u0, u1, _⟩ := HS4.out
    go_wp2_with fail
    refine (pick_at A n c w.heap.size act flow ds w4 (HX.out.below HS4.out.below) HS4.out.below.size hn1 HF.out).mono ?_
    rintro e w5 ⟨rfl, hb5⟩
    rw [HPI.out]
    have HS5 : Hid (GBox w act (.slice A n c) w5) := HS4.out.step hb5
    clear hb5 HS4 u0 u1
    obtain ⟨u0, u1, _⟩ := HS5.out
    go_wp2_with fail
    refine (fail_at A n c act iface ds w5 (HX.out.grow HS5.out.below HS5.out.below.size) HSD.out hn1).mono ?_
    rintro e w6 ⟨A1, c1, rfl, hG, hb6⟩
    rw [HFS.out] at hG
    have HS6 : Hid (GBox w act (.slice A n c) w6) := HS5.out.step hb6
    have HG := Lib.hid hG
    clear hb6 HS5 hG u0 u1
    have HZ6 : Hid (GBox2 w act (.slice A n c) w6 act (.slice A1 n c1) (w6.alloc (.cells #[.int .i64 act, .slice A1 n c1] 24))) := GBox2.of HS6.out (Below.refl _ _)
    go_wp2_with fail
    refine (pick_at A1 n c1 w6.heap.size act flow fs _ (HG.out.below HZ6.out.below) HZ6.out.below.size hn1 HF.out).mono ?_
    rintro e w7 ⟨rfl, hb7⟩
    rw [HPK.out]
    have HZ7 : Hid (GBox2 w act (.slice A n c) w6 act (.slice A1 n c1) w7) := HZ6.out.step HS6.out hb7
    clear hb7 HZ6
    obtain ⟨u0, u1, u2, u3, _⟩ := HZ7.out
    have HB7 : Hid (Below w.heap.size w w7) := HZ7.out.whole HS6.out
    by_cases hp0 : pi < 0
    · have hk0 := HNone.out hp0
      have d1 : decide (pi < 0) = true := by simp [hp0]
      have d2 : decide (pk < 0) = true := by simp [hk0]
      go_wp2_with fail
      refine (awake_any _).mono ?_
      rintro e w8 ⟨rfl, hb8⟩
      have HB8 : Hid (Below w.heap.size w w8) := below_of HB7.out hb8
      clear hb8
      go_wp2
      go_ret
      exact ⟨rfl, HB8.out⟩
    obtain ⟨i, rfl, hia, hin, hbest, hwt⟩ := HRange.out (by omega)
    have HBest := Lib.hid hbest
    clear hbest hwt HNone HRange HPI
    have HX7 : Hid (GroupAt w7 w.heap.size A n c ds) := HX.out.below HB7.out
    have HG7 : Hid (GroupAt w7 w6.heap.size A1 n c1 fs) := HG.out.below HZ7.out.below
    obtain ⟨b1, o1, p, D, dk, rfl, hb1, hp, _, c0, x1, x2, x3, x4, c5⟩ := HX7.out.get hin
    obtain ⟨b2, o2, q, E, ek, rfl, hb2, hq, _, e0, _, e2, _, _, _⟩ := HG7.out.get hin
    have hpd : ds.getD i zeroP = p := getD_of hp
    have hqd : fs.getD i zeroP = q := getD_of hq
    have hbk := (pErr_zero (G.out.each i p hin hp)).2.2.2
    have hb1' : b1 < w7.heap.size := by have := HB7.out.size; omega
    have hb2' : b2 < w7.heap.size := by have := HZ7.out.below.size; omega
    have hw1 : w.heap.size < w7.heap.size := by have := HS6.out.size; have := HZ7.out.below.size; omega
    have hw2 : w6.heap.size < w7.heap.size := HZ7.out.size
    have hw1s : w.heap.size < w7.heap.size + 1 := Nat.lt_succ_of_lt hw1
    have hw2s : w6.heap.size < w7.heap.size + 1 := Nat.lt_succ_of_lt hw2
    have hb1s : b1 < w7.heap.size + 1 := Nat.lt_succ_of_lt hb1'
    have hb2s : b2 < w7.heap.size + 1 := Nat.lt_succ_of_lt hb2'
    have HO : Hid (Below w.heap.size w (w7.alloc (.cells #[.int .i64 p.iface, .int .u32 p.addr, .int .u32 p.router, .int .i64 p.weight, .slice D p.ls.length dk, .int .i64 p.backup] 38))) := HB7.out.alloc (by omega) _
    have hkeep := HKeep.out i HBest.out hia
    have haway := HAway.out i hia
    have hmoved := HMoved.out i hia
    rw [hpd] at hkeep haway
    rw [hpd, hqd] at hmoved
    have HKP := Lib.hid hkeep
    have HAW := Lib.hid haway
    have HMV := Lib.hid hmoved
    clear hkeep haway hmoved hpd hqd hp0 hp hq HKeep HAway HMoved HX HG HZ7 HS6 HFS HPK HSD HY HW HF HL HR
    have hcase : p.backup = -1 ∨ ∃ k : Nat, p.backup = k ∧ k < n := by
      rcases hbk with h | h
      · exact .inl h
      · exact .inr ⟨p.backup.toNat, by omega, by omega⟩
    clear hbk
    by_cases hpi : p.iface = iface
    case neg =>
      have hqp := HMV.out.1 hpi
      have hki := HKP.out (fun h => hpi h.1)
      have di : (p.iface != iface) = true := by simp [hpi]
      have dq : (q.iface == p.iface) = true := by simp [hqp]
      subst hki
      have HD := Lib.hid hpi
      clear hpi hqp HMV HKP HAW HClean
      rcases hcase with hbn | ⟨k, hbk, hkn⟩
      case' inl =>
        have db : decide (0 ≤ p.backup) = false := by simp; omega
        have db2 : p.backup < 0 := by omega
        clear hbn
        go_upto_region 20 with fail
      case' inr =>
        obtain ⟨b3, o3, r3, F3, fk, hA3, hb3, hr3, _, f0, _⟩ := HX7.out.get (j := k) hkn
        simp only [Option.some.injEq, Addr.mk.injEq] at hA3
        obtain ⟨rfl, rfl, _⟩ := hA3
        rw [hbk] at c5 HO
        have hk0 : (0 : Int) ≤ (k : Int) := by omega
        clear hbk
        go_upto_region 20 with fail
      all_goals
        go_region_held3 (fun w' => w'.cell? ⟨w6.heap.size, 1, none⟩ = some (.slice (some ⟨b2, o2, none⟩) n c1) ∧ w'.cell? ⟨b2, o2 + i * 6, none⟩ = some (.int .i64 q.iface) ∧ w'.cell? ⟨w7.heap.size, 0, none⟩ = some (.int .i64 p.iface) ∧ Hid (Below w.heap.size w w'))
          (first | exact ⟨by go_simp, by go_simp, by go_simp, HO.out.drew⟩ | exact ⟨by go_simp, by go_simp, by go_simp, below_of HO.out.drew HA.out⟩)
          ((go_at_call 9; refine (awake_any _).mono ?_; rintro e w' ⟨rfl, hbA⟩; obtain ⟨hc, _, _⟩ := bcell hbA; have HA := Lib.hid hbA; clear hbA))
        have HB9 : Hid (Below w.heap.size w w') := below_of HO.out.drew HA.out
        clear hc HA
        go_wp2
        go_ret
        exact ⟨rfl, HB9.out⟩
    case pos =>
      have di : (p.iface != iface) = false := by simp [hpi]
      rcases hcase with hbn | ⟨k, hbk, hkn⟩
      case' inl =>
        have db : decide (0 ≤ p.backup) = false := by simp; omega
        have db2 : p.backup < 0 := by omega
        have hne : pk ≠ i := HAW.out ⟨hpi, fun h => by omega⟩
        clear hbn HMV HKP HAW hpi
        go_upto_region 23 with fail
      case' inr =>
        obtain ⟨b3, o3, r3, F3, fk, hA3, hb3, hr3, _, f0, _, f2, _⟩ := HX7.out.get (j := k) hkn
        simp only [Option.some.injEq, Addr.mk.injEq] at hA3
        obtain ⟨rfl, rfl, _⟩ := hA3
        have hrd : bk ds p = r3 := by
          show ds.getD p.backup.toNat zeroP = r3
          rw [hbk, Int.toNat_natCast]
          exact getD_of hr3
        have hb0 : 0 ≤ p.backup := by omega
        rw [hrd] at HKP HAW HMV
        have hk0 : (0 : Int) ≤ (k : Int) := by omega
        by_cases hv : r3.iface = iface
        case neg =>
          have hki : pk = i := HKP.out (fun h => h.2 ⟨hb0, hv⟩)
          obtain ⟨m1, m2⟩ := HMV.out.2 hpi hb0 hv
          have dv : (r3.iface != iface) = true := by simp [hv]
          have dq : (q.iface == r3.iface) = true := by simp [m1]
          have dr : (q.router == r3.router) = true := by simp [m2]
          subst hki
          rw [hbk] at c5 HO
          clear hv m1 m2 hbk hb0 hrd HKP HMV HAW hpi hr3 HClean
          go_upto_region 22 with fail
          go_region_held3 (fun w' => w'.cell? ⟨w6.heap.size, 1, none⟩ = some (.slice (some ⟨b2, o2, none⟩) n c1) ∧ w'.cell? ⟨b2, o2 + i * 6, none⟩ = some (.int .i64 q.iface) ∧ w'.cell? ⟨b2, o2 + i * 6 + 2, none⟩ = some (.int .u32 q.router) ∧ w'.cell? ⟨w.heap.size, 1, none⟩ = some (.slice (some ⟨b1, o1, none⟩) n c) ∧ w'.cell? ⟨b1, o1 + k * 6, none⟩ = some (.int .i64 r3.iface) ∧ w'.cell? ⟨b1, o1 + k * 6 + 2, none⟩ = some (.int .u32 r3.router) ∧ w'.cell? ⟨w7.heap.size, 5, none⟩ = some (.int .i64 k) ∧ Hid (Below w.heap.size w w'))
            (first | exact ⟨by go_simp, by go_simp, by go_simp, by go_simp, by go_simp, by go_simp, by go_simp, HO.out.drew⟩ | exact ⟨by go_simp, by go_simp, by go_simp, by go_simp, by go_simp, by go_simp, by go_simp, below_of HO.out.drew HA.out⟩)
            ((go_at_call 9; refine (awake_any _).mono ?_; rintro e w' ⟨rfl, hbA⟩; obtain ⟨hc, _, _⟩ := bcell hbA; have HA := Lib.hid hbA; clear hbA))
          have HB9 : Hid (Below w.heap.size w w') := below_of HO.out.drew HA.out
          clear hc HA
          go_wp2
          go_ret
          exact ⟨rfl, HB9.out⟩
        case' pos =>
          have hne : pk ≠ i := HAW.out ⟨hpi, fun h => h.2 hv⟩
          have dv : (r3.iface != iface) = false := by simp [hv]
          rw [hbk] at c5 HO
          clear hv hbk hb0 hrd HKP HMV HAW hpi hr3
          go_upto_region 23 with fail
      all_goals
        have dne : (pk != (i : Int)) = true := by simp [hne]
        clear hne
        go_wp2_with fail
        refine (awake_any _).mono ?_
        rintro e w9 ⟨rfl, hbA⟩
        have HB9 : Hid (Below w.heap.size w w9) := below_of HO.out hbA
        have v3 : w9.cell? ⟨w6.heap.size, 1, none⟩ = some (.slice (some ⟨b2, o2, none⟩) n c1) := by
          obtain ⟨hc, _, _⟩ := bcell hbA
          go_simp
        have HG9 : Hid (GroupAt w9 w6.heap.size (some ⟨b2, o2, none⟩) n c1 fs) :=
          (HG7.out.below ((Below.refl w7.heap.size w7).alloc (Nat.le_refl _) _ |>.mono (Nat.le_of_lt hw2))).below (hbA.mono (by simp; omega))
        clear hbA HO c0 x1 x2 x3 x4 c5 e0 e2 u0 u1 u2 u3
        by_cases hk0 : pk < 0
        · have dk0 : decide (pk < 0) = true := by simp [hk0]
          go_wp2
          go_ret
          exact ⟨rfl, HB9.out⟩
        · obtain ⟨kk, rfl, hkk, hki⟩ := HClean.out (by omega)
          obtain ⟨b4, o4, q4, E4, ek4, hA4, _, hq4, _, g0, _⟩ := HG9.out.get (j := kk) hkk
          simp only [Option.some.injEq, Addr.mk.injEq] at hA4
          obtain ⟨rfl, rfl, _⟩ := hA4
          rw [getD_of hq4] at hki
          have dk1 : (q4.iface != iface) = true := by simp [hki]
          have dk2 : ((kk : Int) < 0) = False := by simp
          clear hki hq4 hk0
          go_wp2
          go_ret
          exact ⟨rfl, HB9.out⟩
open Go.ChangeShapes in
theorem balanceMoves_walk (v0 : Value) (flow iface : Int) (B : Option Addr) (m d : Nat) (ws : List Int) (member : Int) (w : World) (h0 : GroupIn w v0) (hf : (Lit.int .u32 flow).wf = true) (_hi : (Lit.int .i64 iface).wf = true)
    (hy : Ints w w.heap.size .i64 B m d ws) (hw : ∀ x ∈ ws, (Lit.int .i64 x).wf = true) (_hr : d * 8 ≤ 140737488351232) (hm : (Lit.int .i64 member).wf = true) :
    Calls Try.prog 4 #[v0, .int .u32 flow, .int .i64 iface, .slice B m d, .int .i64 member] w fun e w' => e = .returned (.bool true) ∧ Below w.heap.size w w' := by
  obtain ⟨act, A, n, c, ds, rfl, hx, hs, hn, _⟩ := h0
  have b3 := bounds_u32 hf
  refine moves_walk0 act flow iface member A B n c m d ds ws w hx hs hn (by omega) hy (fun j => ?_) (bounds_i64 hm)
  rw [List.getD_eq_getElem?_getD]
  cases hj : ws[j]? with
  | none => simp
  | some x => exact bounds_i64 (hw x (List.mem_of_getElem? hj))
end Go.Proofs.Ytlcgjgmhllmekaa
