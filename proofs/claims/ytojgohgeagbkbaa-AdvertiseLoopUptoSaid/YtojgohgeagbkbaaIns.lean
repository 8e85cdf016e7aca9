/- inserted, the program's. -/
import Derived.Test.YtojgohgeagbkbaaCat41
namespace Go.Proofs.Ytojgohgeagbkbaa
open Go.RowKit

set_option linter.unusedVariables false
set_option linter.unusedSimpArgs false
set_option maxHeartbeats 400000 in
theorem cloneIntsOwn_any (A : Option Addr) (n c B : Nat) (xs : List Int) (w : World) (hx : Ints w B .i64 A n c xs) (hB : B ≤ w.heap.size) (hn : n ≤ 1000000) (h0 : 0 < n) :
    Calls Try.prog 79 #[.slice A n c] w (GivesInts 3 .i64 n xs w) := by
  obtain ⟨b, o, rfl, _⟩ := hx.2.2.2 h0
  have he := Lib.run_eql_slice_nil (P := Try.prog) w 52 3 (some ⟨b, o, none⟩) n c 0 0 Try.underlying52
  have hown : Own (w.alloc (.cells #[] 3)) w.heap.size 3 .i64 (.slice (some ⟨w.heap.size, 0, none⟩) 0 0) 0 [] := World.ownsRow_lit (base := w.heap.size) (size := 1) w #[] 0 (Nat.le_refl _) (by simp [maxLen]) rfl
  have hba := belowA w (.cells #[] 3)
  have hx1 : Ints (w.alloc (.cells #[] 3)) B .i64 (some ⟨b, o, none⟩) n c xs := hx.below (hba.mono hB)
  obtain ⟨v1, w1, hrun, ho1, hg1, hat⟩ := Ints.append (P := Try.prog) (t := 52) (ty := 52) Try.underlying52 int_info rfl hown hx1 (by simp only [maxLen]; omega) (by omega) hba.size
  rw [Nat.zero_add, List.nil_append] at ho1
  have HR := Lib.hid hrun
  have HB := Lib.hid (hba.grown hg1 hba.size (by simp [Value.ownBlock]))
  obtain ⟨A2, c2, rfl⟩ := own_form ho1
  have HO := Lib.hid ho1
  clear hrun hg1 hat ho1 hown hx1 hx hba
  go_enter Try.func79, Try.ntmps79
  go_wp2_with (at_builtin; refine wpList_append_run rfl _ _ _ rfl rfl rfl HR.out ?_)
  go_ret
  exact ⟨A2, c2, rfl, HO.out, HB.out⟩
/-- how many segments of a confederation come first -/
def leadN (p : Path) : Nat := if idxP notB p < 0 then p.length else (idxP notB p).toNat
theorem leadN_le (p : Path) : leadN p ≤ p.length := by
  have h := idxP_le (f := notB) p
  unfold leadN
  split <;> omega
/-- numbers before the first segment that is not one of a confederation -/
def insR (p : Path) (l : List Int) : Path :=
  if l.length = 0 then p else p.take (leadN p) ++ (seqs 2 (l ++ flat ((p.drop (leadN p)).take (runL 2 (p.drop (leadN p))))) ++ p.drop (leadN p + runL 2 (p.drop (leadN p))))
/-- the loop of inserted -/
def InsInv (w : World) (l : List Int) (i : Nat) (q' : Path) (m : Nat) (kv lv : Value) (W : World) : Prop :=
  ∃ K q : Nat, Hid (K = i + q ∧ q ≤ runL 2 q') ∧ kv = .int .i64 (K : Int) ∧ Hid (Own W w.heap.size 3 .i64 lv (m + (flat (q'.take q)).length) (l ++ flat (q'.take q))) ∧ Hid (Below w.heap.size w W)
set_option maxRecDepth 100000 in
set_option maxHeartbeats 8000000 in
theorem inserted_any (A : Option Addr) (n c lo hi : Nat) (p : Path) (C : Option Addr) (m d : Nat) (l : List Int) (w : World) (hx : ARecs .i64 w w.heap.size lo hi A n c p) (hl : Ints w w.heap.size .i64 C m d l) (hs : p.length + (flat p).length + m ≤ 1000000) (hhi : hi ≤ w.heap.size) :
    Calls Try.prog 47 #[.slice A n c, .slice C m d] w fun e w' => ∃ A' n' c', e = .returned (.slice A' n' c') ∧ ARecs .i64 w' w'.heap.size lo hi A' n' c' (insR p l) ∧ Below w.heap.size w w' := by
  have HX := Lib.hid hx
  have HXS := Lib.hid hx.segs
  have HL := Lib.hid hl
  have hln := hl.len
  have hpn := hx.segs.len
  by_cases hm0 : m = 0
  · subst hm0
    have HI : Hid (insR p l = p) := by show _ = _; unfold insR; rw [if_pos hln]
    clear hx hl
    go_enter Try.func47, Try.ntmps47
    go_wp2
    go_ret
    exact ⟨A, n, c, rfl, by rw [HI.out]; exact HX.out, Below.refl _ _⟩
  have hmd : ((m : Int) == 0) = false := by simp; omega
  have HI : Hid (insR p l = p.take (leadN p) ++ (seqs 2 (l ++ flat ((p.drop (leadN p)).take (runL 2 (p.drop (leadN p))))) ++ p.drop (leadN p + runL 2 (p.drop (leadN p))))) := by show _ = _; unfold insR; rw [if_neg (by omega)]
  have HC := Lib.hid (indexNot_any A n c p w hx.segs (by omega))
  have HLN : Hid (leadN p = if idxP notB p < 0 then n else (idxP notB p).toNat) := by show _ = _; unfold leadN; rw [hpn]
  have hlle := leadN_le p
  obtain ⟨i, hi0⟩ : ∃ i, leadN p = i := ⟨_, rfl⟩
  rw [hi0] at HI HLN hlle
  clear hx hl hi0
  go_enter Try.func47, Try.ntmps47
  go_wp2_with fail
  refine HC.out.mono ?_
  rintro e w1 ⟨rfl, hb1⟩
  have HB1 := Lib.hid hb1
  clear hb1 HC
  go_upto_if 15 with fail
  go_cut [5] (fun v wx => v = .int .i64 (i : Int) ∧ wx = w1)
  case first =>
    obtain ⟨iq, hiq⟩ : ∃ iq, idxP notB p = iq := ⟨_, rfl⟩
    rw [hiq] at HLN ⊢
    clear hiq
    go_wp2
    all_goals go_meet
    case rel =>
      have h : iq < 0 := by assumption
      exact ⟨by have h2 := HLN.out; rw [if_pos h] at h2; rw [h2], rfl⟩
    case rel =>
      have h : 0 ≤ iq := by assumption
      exact ⟨by have h2 := HLN.out; rw [if_neg (by omega)] at h2; congr 1; omega, rfl⟩
  case rest =>
    obtain ⟨rfl, rfl⟩ := hcut
    clear HLN
    have hw1 := HB1.out.size
    go_wp2_with fail
    refine (cloneIntsOwn_any C m d w.heap.size l wc (HL.out.below HB1.out) hw1 (by omega) (by omega)).mono ?_
    rintro e w2 ⟨D, d2, rfl, ho2, hb2⟩
    obtain ⟨p', hp'⟩ : ∃ p', p.drop i = p' := ⟨_, rfl⟩
    have HB2 := Lib.hid (HB1.out.trans (hb2.mono hw1))
    have HP := Lib.hid hp'
    rw [hp'] at HI
    have HO2 : Hid (InsInv w l i p' m (.int .i64 (i : Int)) (.slice D m d2) w2) := ⟨i, 0, ⟨by omega, Nat.zero_le _⟩, rfl, by show Own _ _ _ _ _ _ _; simp only [List.take_zero, flat, List.flatMap_nil, List.length_nil, Nat.add_zero, List.append_nil]; exact own_mono ho2 hw1, HB2⟩
    clear ho2 hb2 hp' HB1 HB2
    go_wp2
    go_loopw [6, 7] (fun kv lv wr => InsInv w l i p' m kv lv wr) (fun kv _ _ => n - (intOf kv).toNat)
    case atStart => exact HO2.out
    case round =>
      obtain ⟨Kk, q, hK, rfl, ho, hb⟩ := hrel
      obtain ⟨Al, cl, rfl⟩ := own_form ho.out
      clear HO2
      have hwr := hb.out.size
      have hpl : p'.length = n - i := by rw [← HP.out, List.length_drop, hpn]
      have hKn : Kk ≤ n := by have h1 := hK.out; have h2 := runL_le 2 p'; omega
      have hflp : (flat p').length ≤ (flat p).length := by
        rw [← HP.out]
        conv => rhs; rw [← List.take_append_drop i p]
        unfold flat
        rw [List.flatMap_append, List.length_append]
        omega
      have HFP := Lib.hid hflp
      clear hflp
      by_cases hgo : Kk < n ∧ (p'.getD q (0, [])).1 = 2
      case pos =>
        obtain ⟨hlt, hgk⟩ := hgo
        obtain ⟨b, o, f, rfl, hbB, hf, g0, g1, hi⟩ := (HXS.out.below hb.out).get hlt
        obtain ⟨y, fA, fn, fc, xs⟩ := f
        dsimp only at g0 g1 hi
        have hf' : p'[q]? = some (y, xs) := by rw [← HP.out, List.getElem?_drop, ← hK.out.1]; exact hf.out
        obtain rfl : y = 2 := by
          rw [List.getD_eq_getElem?_getD, hf'] at hgk
          exact hgk
        have HJ : Hid (Kk + 1 = i + (q + 1) ∧ q + 1 ≤ runL 2 p') := ⟨by have := hK.out.1; omega, runL_go hK.out.2 hf' rfl⟩
        have hle := seg_le hf'
        have hsu := flat_succ hf'
        have hfl : xs.length = fn := hi.out.len
        have hle' : (flat (p'.take q)).length + fn ≤ (flat p').length := by rw [← hfl]; exact hle
        have hfm := HFP.out
        obtain ⟨A', c', w', hrun, ho', hb'⟩ := push_ints ho.out hi.out hwr (by omega)
        have HR := Lib.hid hrun
        have HO' : Hid (Own w' w.heap.size 3 .i64 (.slice A' (m + (flat (p'.take q)).length + fn) c') (m + (flat (p'.take (q + 1))).length) (l ++ flat (p'.take (q + 1)))) := by
          show Own _ _ _ _ _ _ _
          rw [hsu, List.length_append, ← List.append_assoc, ← Nat.add_assoc]
          show Own _ _ _ _ _ (m + (flat (p'.take q)).length + xs.length) ((l ++ flat (p'.take q)) ++ xs)
          rw [hfl]
          exact ho'
        have HB' := Lib.hid (hb.out.trans hb')
        have hbwr : b < wr.heap.size := by omega
        clear hf hf' hi hle hle' hfl hsu ho' hb' hrun ho hfm hgk HFP hK hpl
        go_wp2_with (at_builtin; refine wpList_append_run rfl _ _ _ rfl rfl rfl HR.out ?_)
        go_roundw
        case rel => exact ⟨Kk + 1, q + 1, HJ, by go_num, HO', HB'⟩
        case measure => simp [intOf]; omega
      -- the end of the run
      have HRUN : Hid (runL 2 p' = q) := by
        show _ = _
        by_cases hlt : Kk < n
        · have hlt' : q < p'.length := by have := hK.out.1; omega
          refine runL_stop hK.out.2 (List.getElem?_eq_getElem hlt') fun h => hgo ⟨hlt, ?_⟩
          rw [List.getD_eq_getElem?_getD, List.getElem?_eq_getElem hlt']
          exact h
        · have h1 := hK.out.1
          rw [runL_end (by have := hK.out.2; omega)]
          omega
      rw [HRUN.out, ← hK.out.1] at HI
      obtain ⟨fs, hrec, hkey, haw, hin⟩ := HX.out
      have hrw := hrec.below hb.out
      have hfl := hrw.2
      obtain ⟨A1, c1, hs1, hy1⟩ := Cells.sliceTo (P := Try.prog) (T := 35) (E := 75) Try.underlying35 (by kernel_rfl) hrw.1 (hi := i) (by omega)
      rw [flat_takeR SV.vals_len] at hy1
      obtain ⟨A3, c3, hs3, hy3⟩ := Cells.sliceFrom (P := Try.prog) (T := 35) (E := 75) Try.underlying35 (by kernel_rfl) hrw.1 (lo := Kk) hKn
      rw [flat_dropR SV.vals_len] at hy3
      have HR1 : Hid (Recs wr w.heap.size 2 A1 i c1 SV.vals (fs.take i)) := ⟨hy1, by rw [List.length_take]; omega⟩
      have HR3 : Hid (Recs wr w.heap.size 2 A3 (n - Kk) c3 SV.vals (fs.drop Kk)) := ⟨hy3, by rw [List.length_drop]; omega⟩
      have HIN : Hid (∀ t ∈ fs, Ints wr w.heap.size .i64 t.A t.n t.c t.xs ∧ Away lo hi t.A t.n) := fun t ht => ⟨(hin t ht).1.below hb.out, (hin t ht).2⟩
      have HKEY := Lib.hid hkey
      obtain ⟨alls, hal⟩ : ∃ alls, l ++ flat (p'.take q) = alls := ⟨_, rfl⟩
      obtain ⟨na, hna⟩ : ∃ na, m + (flat (p'.take q)).length = na := ⟨_, rfl⟩
      have hnal : na ≤ 1000000 := by have h1 := flat_take p' q; have h2 := HFP.out; omega
      rw [hal] at ho HI
      rw [hna] at ho ⊢
      have HAL := Lib.hid ho.out.ints
      have HK := Lib.hid hK.out.1
      have hc1 : (i : Int) ≤ (n : Int) := by omega
      have hc2 : (Kk : Int) ≤ (n : Int) := by omega
      have hc3 : i ≤ n := by omega
      have hguard : Hid (¬ (Kk < n ∧ (p'.getD q (0, [])).1 = 2)) := hgo
      have hblk : Kk < n → ∃ b o y, A = some ⟨b, o, none⟩ ∧ b < wr.heap.size ∧ wr.cell? ⟨b, o + Kk * 2, none⟩ = some (.int .i64 y) ∧ y ≠ 2 := by
        intro hlt
        obtain ⟨b, o, f, e, hbB, hf, g0, g1, hi⟩ := (HXS.out.below hb.out).get hlt
        refine ⟨b, o, f.kind, e, by omega, g0, fun h2 => hgo ⟨hlt, ?_⟩⟩
        have hf' : p'[q]? = some (f.kind, f.xs) := by rw [← HP.out, List.getElem?_drop, ← hK.out.1]; exact hf.out
        rw [List.getD_eq_getElem?_getD, hf']
        exact h2
      clear hrw hy1 hy3 hrec hkey haw hin hal hna ho hgo hK HFP
      by_cases hlt : Kk < n
      case' pos =>
        obtain ⟨b, o, y, rfl, hbwr, g0, hy2⟩ := hblk hlt
        have hy2' : (y == 2) = false := by simpa using hy2
        have hlti : (Kk : Int) < (n : Int) := by omega
        clear hy2
      case' neg =>
        have hlti : ¬ (Kk : Int) < (n : Int) := by omega
      all_goals
        clear hblk hguard
        go_upto_region 11 with fail
        refine wp_region_noPanic ?_
        refine wp_region_held_drew (S := fun _ => True) (by kernel_rfl) trivial (fun _ => ?_)
        refine take_in (i := 0) _ (some 42) (by kernel_rfl) (by kernel_rfl) (by kernel_rfl) (by kernel_rfl) (fun _ _ _ h => h) (by rfl) (fun o ho w hSw => by cases ho; go_simp; (try with_reducible rfl)) trivial ?_
        try simp only [Act.put, List.setIfInBounds_toArray, List.set_cons_zero, List.set_cons_succ]
        refine take_in (i := 1) _ (some 43) (by kernel_rfl) (by kernel_rfl) (by kernel_rfl) (by kernel_rfl) (fun _ _ _ h => h) (by rfl) (fun o ho w hSw => by cases ho; go_simp; (try with_reducible rfl)) trivial ?_
        try simp only [Act.put, List.setIfInBounds_toArray, List.set_cons_zero, List.set_cons_succ]
        refine take_in (i := 2) _ (some 44) (by kernel_rfl) (by kernel_rfl) (by kernel_rfl) (by kernel_rfl) (fun _ _ _ h => h) (by rfl) (fun o ho w hSw => by cases ho; go_simp; (try with_reducible rfl)) trivial ?_
        try simp only [Act.put, List.setIfInBounds_toArray, List.set_cons_zero, List.set_cons_succ]
        refine take_in (i := 3) _ (some 45) (by kernel_rfl) (by kernel_rfl) (by kernel_rfl) (by kernel_rfl) (fun _ _ _ h => h) (by rfl) (fun o ho w hSw => by cases ho; go_simp; (try with_reducible rfl)) trivial ?_
        try simp only [Act.put, List.setIfInBounds_toArray, List.set_cons_zero, List.set_cons_succ]
        refine take_in (i := 5) _ (some 47) (by kernel_rfl) (by kernel_rfl) (by kernel_rfl) (by kernel_rfl) (fun _ _ _ h => h) (by rfl) (fun o ho w hSw => by cases ho; go_simp; (try with_reducible rfl)) trivial ?_
        try simp only [Act.put, List.setIfInBounds_toArray, List.set_cons_zero, List.set_cons_succ]
        refine take_in (i := 6) _ (some 48) (by kernel_rfl) (by kernel_rfl) (by kernel_rfl) (by kernel_rfl) (fun _ _ _ h => h) (by rfl) (fun o ho w hSw => by cases ho; go_simp; (try with_reducible rfl)) trivial ?_
        try simp only [Act.put, List.setIfInBounds_toArray, List.set_cons_zero, List.set_cons_succ]
        refine take_in (i := 7) _ (some 49) (by kernel_rfl) (by kernel_rfl) (by kernel_rfl) (by kernel_rfl) (fun _ _ _ h => h) (by rfl) (fun o ho w hSw => by cases ho; go_simp; (try with_reducible rfl)) trivial ?_
        try simp only [Act.put, List.setIfInBounds_toArray, List.set_cons_zero, List.set_cons_succ]
        refine wpAnyH_ready (rs := [4]) (by kernel_rfl) (by simp) ?_
        refine AllReadyH.cons (o := _) rfl (fun K hK => ?_) AllReadyH.nil
        go_simp
        go_at_call 86
        with_reducible refine (sequences41_any _ _ _ alls wr.drew ((HAL.out.below ((Below.refl wr.heap.size wr).drew)).more (Nat.le_refl _)) hnal).mono ?_
        rintro e wX ⟨A5, m5, c5, rfl, hso, hbx⟩
        obtain ⟨gs, hg1, hg2, hg3, hg4⟩ := hso
        have hbx2 : Below wr.heap.size wr wX := ((Below.refl wr.heap.size wr).drew).trans hbx
        have HBX := Lib.hid hbx2
        have hml : m5 ≤ 1000000 := by have h1 := seqs_len 2 _ alls (Nat.le_refl _); have h2 := HAL.out.len; have h3 : gs.length = (seqs 2 alls).length := (by rw [← hg3, List.length_map]); omega
        obtain ⟨wV, hwV⟩ : ∃ wV, wX.alloc (.cells #[.slice A1 i c1, .slice A5 m5 c5, .slice A3 (n - Kk) c3] 35) = wV := ⟨_, rfl⟩
        have hbv : Below wX.heap.size wX wV := by rw [← hwV]; exact belowA _ _
        have hlit : Cells wV wV.heap.size 1 (some ⟨wX.heap.size, 0, none⟩) 3 3 [.slice A1 i c1, .slice A5 m5 c5, .slice A3 (n - Kk) c3] := by
          rw [← hwV]
          exact Cells.of_own (World.ownsRow_lit (base := wX.heap.size) (size := 1) wX #[.slice A1 i c1, .slice A5 m5 c5, .slice A3 (n - Kk) c3] 3 (Nat.le_refl _) (by simp [maxLen]) rfl)
        have hbV := below3 hbx2 hbv
        have hgr : Recs wX wX.heap.size 2 A5 m5 c5 SV.vals gs := ⟨Cells.of_own hg1, hg2⟩
        have hpr : PartsR wV wV.heap.size (some ⟨wX.heap.size, 0, none⟩) 3 3 [⟨A1, i, c1, fs.take i⟩, ⟨A5, m5, c5, gs⟩, ⟨A3, n - Kk, c3, fs.drop Kk⟩] := by
          refine ⟨hlit, fun s hs => ?_⟩
          simp only [List.mem_cons, List.not_mem_nil, or_false] at hs
          rcases hs with rfl | rfl | rfl
          · exact (HR1.out.below (hbV.mono hwr)).more (Nat.le_trans hwr hbV.size)
          · exact (hgr.below hbv).more hbv.size
          · exact (HR3.out.below (hbV.mono hwr)).more (Nat.le_trans hwr hbV.size)
        have HPR := Lib.hid hpr
        have HG3 := Lib.hid hg3
        have HG4 : Hid (∀ t ∈ gs, Ints wV wV.heap.size .i64 t.A t.n t.c t.xs ∧ Away lo hi t.A t.n) := fun t ht => ⟨((hg4 t ht).1.below hbv).more hbv.size, fun hn ad e => .inr (Nat.le_trans hhi (Nat.le_trans (Nat.le_trans hwr (by show wr.heap.size ≤ wr.drew.heap.size; exact Nat.le_refl _)) ((hg4 t ht).2 hn ad e).1))⟩
        have HBV := Lib.hid hbV
        have hXV : wX.heap.size < wV.heap.size := by rw [← hwV]; simp
        clear hg1 hg2 hg3 hg4 hbx hbx2 hbv hlit hgr hpr hbV
        refine hK.out _ _ trivial (fun _ => ?_)
        clear hK K
        try simp only [Act.put, List.setIfInBounds_toArray, List.set_cons_zero, List.set_cons_succ]
        refine wpAnyH_ready (rs := [8]) (by kernel_rfl) (by simp) ?_
        refine AllReadyH.cons (o := _) rfl (fun K hK => ?_) AllReadyH.nil
        go_simp
        refine hK.out _ _ trivial (fun _ => ?_)
        clear hK K
        try simp only [Act.put, List.setIfInBounds_toArray, List.set_cons_zero, List.set_cons_succ]
        refine wpAnyH_ready (rs := [9]) (by kernel_rfl) (by simp) ?_
        refine AllReadyH.cons (o := _) rfl (fun K hK => ?_) AllReadyH.nil
        go_simp
        go_at_call 85
        with_reducible refine (concatS_any _ 3 3 wV.heap.size _ wV HPR.out (Nat.le_refl _) (by simp only [totR, List.take, List.map, List.sum_cons, List.sum_nil]; omega) (by omega)).mono ?_
        rintro e wY ⟨A6, c6, rfl, ho6, hb6⟩
        have e1 : totR [⟨A1, i, c1, fs.take i⟩, ⟨A5, m5, c5, gs⟩, ⟨A3, n - Kk, c3, fs.drop Kk⟩] 3 = i + (m5 + (n - Kk)) := by simp [totR]
        have e2 : catR [⟨A1, i, c1, fs.take i⟩, ⟨A5, m5, c5, gs⟩, ⟨A3, n - Kk, c3, fs.drop Kk⟩] 3 = fs.take i ++ (gs ++ fs.drop Kk) := by simp [catR]
        rw [e1, e2] at ho6
        rw [e1]
        have HB6 := Lib.hid hb6
        have HO6 := Lib.hid ho6
        clear hb6 ho6 e1 e2
        refine hK.out _ _ trivial (fun _ => ?_)
        clear hK K
        try simp only [Act.put, List.setIfInBounds_toArray, List.set_cons_zero, List.set_cons_succ]
        refine wpAnyH_ready (rs := [10]) (by kernel_rfl) (by simp) ?_
        refine AllReadyH.cons (o := _) rfl (fun K hK => ?_) AllReadyH.nil
        go_simp
        refine hK.out _ _ trivial (fun _ => ?_)
        clear hK K
        try simp only [Act.put, List.setIfInBounds_toArray, List.set_cons_zero, List.set_cons_succ]
        refine wpAnyH_done (by kernel_rfl) ?_ _
        refine NoPanic.normal ?_
        go_wp2
        go_ret
        have hbY := below3 HBV.out HB6.out
        have hfs : fs.length = n := hfl
        have hgl : gs.length = m5 := by have h := HPR.out.2 ⟨A5, m5, c5, gs⟩ (by simp); exact h.2
        refine ⟨A6, _, c6, rfl, ⟨fs.take i ++ (gs ++ fs.drop Kk), ⟨Cells.of_own HO6.out, by simp only [List.length_append, List.length_take, List.length_drop]; omega⟩, ?_, fun hn ad e => .inr ?_, fun t ht => ?_⟩, hb.out.trans (hbY.mono hwr)⟩
        · rw [HI.out, List.map_append, List.map_append, HG3.out, List.map_take, List.map_drop, HKEY.out]
        · have h1 := (World.ownsRow.lt HO6.out ad.block (by rw [e]; rfl)).1
          have h2 := HBV.out.size
          omega
        · simp only [List.mem_append] at ht
          rcases ht with ht | ht | ht
          · have h1 := HIN.out t (List.mem_of_mem_take ht)
            exact ⟨(h1.1.below (hbY.mono hwr)).more (Nat.le_trans hwr hbY.size), h1.2⟩
          · have h1 := HG4.out t ht
            exact ⟨(h1.1.below HB6.out).more HB6.out.size, h1.2⟩
          · have h1 := HIN.out t (List.mem_of_mem_drop ht)
            exact ⟨(h1.1.below (hbY.mono hwr)).more (Nat.le_trans hwr hbY.size), h1.2⟩
end Go.Proofs.Ytojgohgeagbkbaa
