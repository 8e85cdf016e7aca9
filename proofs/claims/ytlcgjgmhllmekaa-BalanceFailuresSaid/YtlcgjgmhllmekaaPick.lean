/- Pick: the program's and the reference's texts return the same path of a group. -/
import Derived.Test.YtlcgjgmhllmekaaCheck
import Derived.Test.YtlcgjgmhllmekaaChoose
namespace Go.Proofs.Ytlcgjgmhllmekaa
open Go.RowKit

theorem int_info : (Try.prog.info? 3).map (fun i => (i.zero, i.size, i.bytes)) = some (some (.int .i64 0), 1, 8) := by kernel_rfl
theorem chkTo_zero {act : Int} {n : Nat} {ps : List PV} {k : Nat} (h : chkTo act n ps k = 0) {j : Nat} {p : PV} (hj : j < k) (hp : ps[j]? = some p) : pErr act n j p = 0 := by
  have h1 : chkTo act n ps (j + 1) = 0 := by
    by_cases h2 : chkTo act n ps (j + 1) = 0
    · exact h2
    · exact absurd h (by rw [chkTo_keep h2 hj]; exact h2)
  have h0 : chkTo act n ps j = 0 := by
    by_cases h2 : chkTo act n ps j = 0
    · exact h2
    · exact absurd h1 (by rw [chkTo_keep h2 (Nat.le_succ j)]; exact h2)
  rw [chkTo, h0, hp] at h1
  simpa using h1
/-- what a group without an error is -/
structure Good (act : Int) (n : Nat) (ps : List PV) : Prop where
  n64 : n ≤ 64
  a0 : 0 ≤ act
  a1 : act ≤ n
  each : ∀ (j : Nat) (p : PV), j < n → ps[j]? = some p → pErr act n j p = 0
theorem good_of {act : Int} {n : Nat} {ps : List PV} (h : gErr act n ps = 0) : Good act n ps := by
  unfold gErr at h
  by_cases h1 : 64 < n
  · rw [if_pos h1] at h; omega
  rw [if_neg h1] at h
  by_cases h2 : act < 0 ∨ (n : Int) < act
  · rw [if_pos h2] at h; omega
  rw [if_neg h2] at h
  exact ⟨by omega, by omega, by omega, fun j p hj hp => chkTo_zero h hj hp⟩
theorem gErr_of_good {act : Int} {n : Nat} {ps : List PV} (h : Good act n ps) : gErr act n ps = 0 := by
  have h1 := h.n64
  have h2 := h.a0
  have h3 := h.a1
  have : ∀ k, k ≤ n → chkTo act n ps k = 0 := by
    intro k
    induction k with
    | zero => intro _; rfl
    | succ k ih =>
      intro hk
      rw [chkTo, ih (by omega)]
      cases hp : ps[k]? with
      | none => simp
      | some p => simpa [hp] using h.each k p (by omega) hp
  rw [gErr, if_neg (by omega), if_neg (by omega)]
  exact this n (Nat.le_refl _)
theorem pErr_zero {act : Int} {np i : Nat} {p : PV} (h : pErr act np i p = 0) : (0 ≤ p.iface ∧ p.iface < 16 ∧ 0 ≤ p.weight ∧ p.weight ≤ 65535) ∧ p.ln ≤ 16 ∧ p.ls.all labOK = true ∧ (p.backup = -1 ∨ ((i : Int) < act ∧ act ≤ p.backup ∧ p.backup < np)) := by
  unfold pErr at h
  by_cases h1 : p.iface < 0 ∨ 16 ≤ p.iface ∨ p.weight < 0 ∨ 65535 < p.weight
  · rw [if_pos h1] at h; omega
  rw [if_neg h1] at h
  by_cases h2 : 16 < p.ln
  · rw [if_pos h2] at h; omega
  rw [if_neg h2] at h
  by_cases h3 : p.ls.all labOK = true
  · rw [if_neg (fun hh => hh h3)] at h
    by_cases h4 : p.backup ≠ -1 ∧ (act ≤ i ∨ p.backup < act ∨ (np : Int) ≤ p.backup)
    · rw [if_pos h4] at h; omega
    · exact ⟨by omega, by omega, h3, by omega⟩
  · rw [if_pos h3] at h; omega
/-- the weights of the paths -/
def wts (ps : List PV) : List Int := ps.map (·.weight)
theorem wts_take_succ {ps : List PV} {q : Nat} {p : PV} (h : ps[q]? = some p) : wts (ps.take (q + 1)) = wts (ps.take q) ++ [p.weight] := by
  rw [wts, wts, List.take_add_one, h]
  simp
theorem good_wide {act : Int} {n : Nat} {ps : List PV} (h : Good act n ps) (hl : ps.length = n) (k : Nat) : Wide (wts (ps.take k)) := by
  intro j
  rw [List.getD_eq_getElem?_getD, wts, List.getElem?_map]
  cases hp : (ps.take k)[j]? with
  | none => simp
  | some p =>
    have hm := List.mem_of_mem_take (List.mem_of_getElem? hp)
    obtain ⟨i, hi, rfl⟩ := List.getElem_of_mem hm
    have := pErr_zero (h.each i ps[i] (by omega) (List.getElem?_eq_getElem hi))
    simp
    omega
/-- the path that a group picks for a flow -/
def pick (act : Int) (n : Nat) (ps : List PV) (flow : Int) : Int := if gErr act n ps ≠ 0 then -1 else (ch (wts (ps.take act.toNat)) flow act.toNat : Int) - 1

set_option maxHeartbeats 2000000 in
theorem pick_any (A : Option Addr) (n c B : Nat) (act flow : Int) (ps : List PV) (w : World) (hx : Paths w B A n c ps) (hB : B ≤ w.heap.size) (hn : n ≤ 140737488355328) (hf : 0 ≤ flow ∧ flow < 4294967296) :
    Calls Try.prog 12 #[.agg #[.int .i64 act, .slice A n c], .int .u32 flow] w fun e w' => e = .returned (.int .i64 (pick act n ps flow)) ∧ Below w.heap.size w w' := by
  have HB := Lib.hid ((Below.refl w.heap.size w).alloc (Nat.le_refl _) (.cells #[.int .i64 act, .slice A n c] 24))
  have HX : Hid (Paths (w.alloc (.cells #[.int .i64 act, .slice A n c] 24)) B A n c ps) := hx.below (HB.out.mono hB)
  have H1 := Lib.hid (check_any A n c B act ps _ HX.out (by have := HB.out.size; omega) hn)
  by_cases hg : gErr act n ps = 0
  · have G := Lib.hid (good_of hg)
    have HP : Hid (pick act n ps flow = (ch (wts (ps.take act.toNat)) flow act.toNat : Int) - 1) := by show _ = _; rw [pick, hg]; rfl
    rw [hg] at H1
    obtain ⟨a, rfl⟩ := Int.eq_ofNat_of_zero_le G.out.a0
    rw [Int.toNat_natCast] at HP
    have ha : a ≤ n := by have := G.out.a1; omega
    have hn64 := G.out.n64
    have hnc := hx.1.1.1
    have HL := Lib.hid hx.len
    clear hg
    go_enter Try.func12, Try.ntmps12
    go_wp2_with fail
    refine H1.out.mono ?_
    rintro e w1 ⟨rfl, hb1⟩
    have HB1 := Lib.hid hb1
    have u0 : w1.cell? ⟨w.heap.size, 0, none⟩ = some (.int .i64 a) := (hb1.cell (p := ⟨w.heap.size, 0, none⟩) (by simp)).trans (by go_simp)
    have u1 : w1.cell? ⟨w.heap.size, 1, none⟩ = some (.slice A n c) := (hb1.cell (p := ⟨w.heap.size, 1, none⟩) (by simp)).trans (by go_simp)
    have HBW : Hid (Below w.heap.size w w1) := HB.out.trans (hb1.mono (by simp))
    have hac : (a : Int) ≤ (c : Int) := by omega
    clear hb1
    go_wp2
    go_loopw [5, 17] (fun v k wr => ∃ q : Nat, q ≤ a ∧ k = .int .i64 q ∧ Hid (Own wr w.heap.size 3 .i64 v q (wts (ps.take q))) ∧ Hid (Below w.heap.size w wr)) (fun _ k _ => a - (intOf k).toNat)
    case atStart => exact ⟨0, Nat.zero_le _, rfl, Own.nil _ _ _ _, HBW⟩
    case round =>
      obtain ⟨q, hq, rfl, ho, hb⟩ := hrel
      by_cases hlt : q < a
      · obtain ⟨b, o, p, rfl, hbB, hp, hl, c0, c1, c2, c3, c4, c5⟩ := (hx.below (hb.out.mono hB)).get (j := q) (by omega)
        have HS := Lib.hid (wts_take_succ hp)
        clear hx hp hl u0 u1
        go_wp2_with (at_builtin; refine wpList_append_int rfl _ _ rfl rfl rfl (by simp) Try.underlying33 int_info rfl (ho.out.alloc _) (hb.out.alloc hb.out.size _) (Nat.le_refl _) (by have := hb.out.size; simp; omega) (by omega) (by simp only [maxLen]; omega) ?_; intro v' w' h1 h2 _ _; have H1 := Lib.hid h1; have H2 := Lib.hid h2; clear h1 h2)
        go_roundw
        case rel => exact ⟨q + 1, by omega, by go_num, by rw [HS.out]; exact H1, H2⟩
        case measure => simp [intOf]; omega
      · obtain rfl : q = a := by omega
        obtain ⟨A2, c2, rfl⟩ := own_form ho.out
        have HW := Lib.hid (good_wide G.out HL.out q)
        clear hx u0 u1
        go_wp2_with fail
        refine (choose_any A2 q c2 _ _ flow wr ho.out.ints (Nat.le_refl _) HW.out hf (by omega)).mono ?_
        rintro e w2 ⟨rfl, hb2⟩
        have HB2 := Lib.hid hb2
        clear hb2
        go_wp2
        go_ret
        exact ⟨ret_int HP.out.symm, hb.out.trans (HB2.out.mono hb.out.size)⟩
  · have HP : Hid (pick act n ps flow = -1) := by show _ = _; rw [pick, if_pos hg]
    have d : (gErr act n ps != 0) = true := by simp [hg]
    obtain ⟨e, he⟩ : ∃ e, gErr act n ps = e := ⟨_, rfl⟩
    rw [he] at H1 d
    clear hx hg he
    go_enter Try.func12, Try.ntmps12
    go_wp2_with fail
    refine H1.out.mono ?_
    rintro e w1 ⟨rfl, hb1⟩
    have HB1 := Lib.hid hb1
    clear hb1
    go_wp2
    go_ret
    exact ⟨ret_int HP.out.symm, HB.out.trans (HB1.out.mono HB.out.size)⟩

set_option maxHeartbeats 2000000 in
theorem refPick_any (A : Option Addr) (n c B : Nat) (act flow : Int) (ps : List PV) (w : World) (hx : Paths w B A n c ps) (hB : B ≤ w.heap.size) (hn : n ≤ 140737488355328) (hf : 0 ≤ flow ∧ flow < 4294967296) :
    Calls Try.prog 13 #[.agg #[.int .i64 act, .slice A n c], .int .u32 flow] w fun e w' => e = .returned (.int .i64 (pick act n ps flow)) ∧ Below w.heap.size w w' := by
  have HB := Lib.hid ((Below.refl w.heap.size w).alloc (Nat.le_refl _) (.cells #[.int .i64 act, .slice A n c] 24))
  have HX : Hid (Paths (w.alloc (.cells #[.int .i64 act, .slice A n c] 24)) B A n c ps) := hx.below (HB.out.mono hB)
  have H1 := Lib.hid (refCheck_any A n c B act ps _ HX.out (by have := HB.out.size; omega) hn)
  by_cases hg : gErr act n ps = 0
  · have G := Lib.hid (good_of hg)
    have HP : Hid (pick act n ps flow = (ch (wts (ps.take act.toNat)) flow act.toNat : Int) - 1) := by show _ = _; rw [pick, hg]; rfl
    rw [hg] at H1
    obtain ⟨a, rfl⟩ := Int.eq_ofNat_of_zero_le G.out.a0
    rw [Int.toNat_natCast] at HP
    have ha : a ≤ n := by have := G.out.a1; omega
    have hn64 := G.out.n64
    have hnc := hx.1.1.1
    have HL := Lib.hid hx.len
    clear hg
    go_enter Try.func13, Try.ntmps13
    go_wp2_with fail
    refine H1.out.mono ?_
    rintro e w1 ⟨rfl, hb1⟩
    have HB1 := Lib.hid hb1
    have u0 : w1.cell? ⟨w.heap.size, 0, none⟩ = some (.int .i64 a) := (hb1.cell (p := ⟨w.heap.size, 0, none⟩) (by simp)).trans (by go_simp)
    have u1 : w1.cell? ⟨w.heap.size, 1, none⟩ = some (.slice A n c) := (hb1.cell (p := ⟨w.heap.size, 1, none⟩) (by simp)).trans (by go_simp)
    have HBW : Hid (Below w.heap.size w w1) := HB.out.trans (hb1.mono (by simp))
    have hac : (a : Int) ≤ (c : Int) := by omega
    clear hb1
    go_wp2
    go_loopw [5, 17] (fun v k wr => ∃ q : Nat, q ≤ a ∧ k = .int .i64 q ∧ Hid (Own wr w.heap.size 3 .i64 v q (wts (ps.take q))) ∧ Hid (Below w.heap.size w wr)) (fun _ k _ => a - (intOf k).toNat)
    case atStart => exact ⟨0, Nat.zero_le _, rfl, Own.nil _ _ _ _, HBW⟩
    case round =>
      obtain ⟨q, hq, rfl, ho, hb⟩ := hrel
      by_cases hlt : q < a
      · obtain ⟨b, o, p, rfl, hbB, hp, hl, c0, c1, c2, c3, c4, c5⟩ := (hx.below (hb.out.mono hB)).get (j := q) (by omega)
        have HS := Lib.hid (wts_take_succ hp)
        clear hx hp hl u0 u1
        go_wp2_with (at_builtin; refine wpList_append_int rfl _ _ rfl rfl rfl (by simp) Try.underlying33 int_info rfl (ho.out.alloc _) (hb.out.alloc hb.out.size _) (Nat.le_refl _) (by have := hb.out.size; simp; omega) (by omega) (by simp only [maxLen]; omega) ?_; intro v' w' h1 h2 _ _; have H1 := Lib.hid h1; have H2 := Lib.hid h2; clear h1 h2)
        go_roundw
        case rel => exact ⟨q + 1, by omega, by go_num, by rw [HS.out]; exact H1, H2⟩
        case measure => simp [intOf]; omega
      · obtain rfl : q = a := by omega
        obtain ⟨A2, c2, rfl⟩ := own_form ho.out
        have HW := Lib.hid (good_wide G.out HL.out q)
        clear hx u0 u1
        go_wp2_with fail
        refine (refChoose_any A2 q c2 _ _ flow wr ho.out.ints (Nat.le_refl _) HW.out hf (by omega)).mono ?_
        rintro e w2 ⟨rfl, hb2⟩
        have HB2 := Lib.hid hb2
        clear hb2
        go_wp2
        go_ret
        exact ⟨ret_int HP.out.symm, hb.out.trans (HB2.out.mono hb.out.size)⟩
  · have HP : Hid (pick act n ps flow = -1) := by show _ = _; rw [pick, if_pos hg]
    have d : (gErr act n ps != 0) = true := by simp [hg]
    obtain ⟨e, he⟩ : ∃ e, gErr act n ps = e := ⟨_, rfl⟩
    rw [he] at H1 d
    clear hx hg he
    go_enter Try.func13, Try.ntmps13
    go_wp2_with fail
    refine H1.out.mono ?_
    rintro e w1 ⟨rfl, hb1⟩
    have HB1 := Lib.hid hb1
    clear hb1
    go_wp2
    go_ret
    exact ⟨ret_int HP.out.symm, HB.out.trans (HB1.out.mono HB.out.size)⟩
end Go.Proofs.Ytlcgjgmhllmekaa
