/- balance.clone returns a group in new memory with the same numbers and labels: the walk. -/
import Derived.Test.YtlcgjgmhllmekaaClone
namespace Go.Proofs.Ytlcgjgmhllmekaa
open Go.RowKit

/-- the labels lie in memory made since -/
def FreshL (B : Nat) (p : PV) : Prop := 0 < p.ln → ∀ ad, p.A = some ad → B ≤ ad.block
/-- a group in new memory -/
def GivesGroup (act : Int) (n : Nat) (ds : List PV) (w : World) (e : Ending) (w' : World) : Prop :=
  ∃ A c qs, e = .returned (.agg #[.int .i64 act, .slice A n c]) ∧ (0 < n → ∃ g, A = some ⟨g, 0, none⟩ ∧ OwnP w' w.heap.size g n c qs) ∧ Paths w' w'.heap.size A n c qs ∧ qs.map PV.dat = ds ∧ (∀ p ∈ qs, FreshL w.heap.size p) ∧ Below w.heap.size w w'

/-- every label list is short enough for memory -/
def Short (ps : List PV) : Prop := ∀ p ∈ ps, p.ln ≤ 17592186044416

/-- the world in the midst of clone's loop -/
structure CInv (w wr : World) (act : Int) (g n c : Nat) (qs : List PV) : Prop where
  b0 : wr.cell? ⟨w.heap.size, 0, none⟩ = some (.int .i64 act)
  b1 : wr.cell? ⟨w.heap.size, 1, none⟩ = some (.slice (some ⟨g, 0, none⟩) n c)
  r0 : wr.cell? ⟨w.heap.size + 1, 0, none⟩ = some (.int .i64 0)
  r1 : wr.cell? ⟨w.heap.size + 1, 1, none⟩ = some (.slice none 0 0)
  f0 : wr.frozen? ⟨w.heap.size + 1, 0, none⟩ = false
  f1 : wr.frozen? ⟨w.heap.size + 1, 1, none⟩ = false
  own : OwnP wr (w.heap.size + 2) g n c qs
  ap : ∀ p ∈ qs, Apart (w.heap.size + 1) p.A p.ln
  bel : Below w.heap.size w wr
theorem CInv.below {w wr w' : World} {act : Int} {g n c : Nat} {qs : List PV} (h : CInv w wr act g n c qs) (hb : Below wr.heap.size wr w') : CInv w w' act g n c qs := by
  have h1 := h.own.lt
  have k : ∀ b o, b < wr.heap.size → w'.cell? ⟨b, o, none⟩ = wr.cell? ⟨b, o, none⟩ := fun b o hb' => hb.cell (p := ⟨b, o, none⟩) hb'
  have kf : ∀ b o, b < wr.heap.size → w'.frozen? ⟨b, o, none⟩ = wr.frozen? ⟨b, o, none⟩ := fun b o hb' => hb.frozen (p := ⟨b, o, none⟩) hb'
  exact ⟨(k _ _ (by omega)).trans h.b0, (k _ _ (by omega)).trans h.b1, (k _ _ (by omega)).trans h.r0, (k _ _ (by omega)).trans h.r1, (kf _ _ (by omega)).trans h.f0, (kf _ _ (by omega)).trans h.f1, h.own.below hb, h.ap, h.bel.trans (hb.mono h.bel.size)⟩
theorem CInv.set {w wr : World} {act : Int} {g n c : Nat} {qs : List PV} (h : CInv w wr act g n c qs) {j k : Nat} {p q : PV} {v : Value} (hp : qs[j]? = some p) (hq : q.vals = p.vals.set k v) (hk : k < 6)
    (hi : Ints wr wr.heap.size .i64 q.A q.ln q.lc q.ls) (ha : Apart g q.A q.ln) (ha2 : Apart (w.heap.size + 1) q.A q.ln) : CInv w (wr.setCell ⟨g, j * 6 + k, none⟩ v) act g n c (qs.set j q) := by
  have h1 := h.own.lt
  have c1 : ∀ b o, b ≠ g → (wr.setCell ⟨g, j * 6 + k, none⟩ v).cell? ⟨b, o, none⟩ = wr.cell? ⟨b, o, none⟩ := fun b o hne => World.cell?_setCell_other wr _ _ _ (fun e => hne (by injection e with e; exact e.symm))
  have c2 : ∀ b o, (wr.setCell ⟨g, j * 6 + k, none⟩ v).frozen? ⟨b, o, none⟩ = wr.frozen? ⟨b, o, none⟩ := fun b o => by go_simp
  exact ⟨(c1 _ _ (by omega)).trans h.b0, (c1 _ _ (by omega)).trans h.b1, (c1 _ _ (by omega)).trans h.r0, (c1 _ _ (by omega)).trans h.r1, (c2 _ _).trans h.f0, (c2 _ _).trans h.f1, h.own.set hp hq hk hi ha, (fun r hr => by
    rcases List.mem_or_eq_of_mem_set hr with hr | rfl
    · exact h.ap r hr
    · exact ha2), h.bel.setCell (p := ⟨g, j * 6 + k, none⟩) (by show _ ≤ g; omega) v⟩

theorem s_ints {w W : World} {act : Int} {g n c q : Nat} {qs : List PV} {p : PV} {P1 P2 P3 : Prop} (hp : Hid (qs[q]? = some p)) (hs : P1 ∧ P2 ∧ P3 ∧ Hid (CInv w W act g n c qs)) : Ints W W.heap.size .i64 p.A p.ln p.lc p.ls :=
  (hs.2.2.2.out.own.labs p (List.mem_of_getElem? hp.out)).1
theorem s_step {w W w' : World} {act : Int} {g n c q : Nat} {qs : List PV} {p : PV} {P1 P2 P3 : Prop} (hp : Hid (qs[q]? = some p)) (hs : P1 ∧ P2 ∧ P3 ∧ Hid (CInv w W act g n c qs)) (hb : Below W.heap.size W w') :
    w'.cell? ⟨w.heap.size, 1, none⟩ = some (.slice (some ⟨g, 0, none⟩) n c) ∧ w'.cell? ⟨g, q * 6 + 4, none⟩ = some (.slice p.A p.ln p.lc) ∧ w'.frozen? ⟨g, q * 6 + 4, none⟩ = false ∧ Hid (CInv w w' act g n c qs) := by
  have h := hs.2.2.2.out.below hb
  exact ⟨h.b1, (h.own.get hp.out).2.2.2.2.1, h.own.frozen _, h⟩

theorem map_set_same {qs : List PV} {q : Nat} {p p' : PV} (hp : qs[q]? = some p) (hd : p'.dat = p.dat) : (qs.set q p').map PV.dat = qs.map PV.dat := by
  rw [List.map_set, hd]
  refine List.ext_getElem? fun i => ?_
  rw [List.getElem?_set]
  by_cases h : q = i
  · subst h
    obtain ⟨hl, rfl⟩ := List.getElem?_eq_some_iff.1 hp
    simp [hl]
  · rw [if_neg h]
theorem Short.set {qs : List PV} {q : Nat} {p : PV} (h : Short qs) (hp : p.ln ≤ 17592186044416) : Short (qs.set q p) := by
  intro r hr
  rcases List.mem_or_eq_of_mem_set hr with hr | rfl
  · exact h r hr
  · exact hp

set_option maxHeartbeats 2000000 in
theorem clone_any (A : Option Addr) (n c : Nat) (act : Int) (ps : List PV) (w : World) (hx : Paths w w.heap.size A n c ps) (hs : Short ps) (hn : n ≤ 1000) :
    Calls Try.prog 29 #[.agg #[.int .i64 act, .slice A n c]] w (GivesGroup act n (ps.map PV.dat) w) := by
  have HB := Lib.hid (((Below.refl w.heap.size w).alloc (Nat.le_refl _) (.cells #[.int .i64 act, .slice A n c] 24)).alloc (by simp) (.cells #[.int .i64 0, .slice none 0 0] 24))
  have hx1 : Recs ((w.alloc (.cells #[.int .i64 act, .slice A n c] 24)).alloc (.cells #[.int .i64 0, .slice none 0 0] 24)) ((w.alloc (.cells #[.int .i64 act, .slice A n c] 24)).alloc (.cells #[.int .i64 0, .slice none 0 0] 24)).heap.size 6 A n c PV.vals ps :=
    (hx.1.below HB.out).more HB.out.size
  have H1 := Lib.hid (clonePaths_any A n c ps _ hx1 hn)
  have HL := Lib.hid hx.len
  by_cases h0 : n = 0
  · subst h0
    clear hx1
    go_enter Try.func29, Try.ntmps29
    go_wp2_with fail
    refine H1.out.mono ?_
    rintro e w1 ⟨A1, c1, rfl, _, hc1, hc2, hb1⟩
    have u0 : w1.cell? ⟨w.heap.size, 0, none⟩ = some (.int .i64 act) := (hb1.cell (p := ⟨w.heap.size, 0, none⟩) (by simp; omega)).trans (by go_simp)
    have u1 : w1.cell? ⟨w.heap.size, 1, none⟩ = some (.slice A 0 c) := (hb1.cell (p := ⟨w.heap.size, 1, none⟩) (by simp; omega)).trans (by go_simp)
    have u2 : w1.frozen? ⟨w.heap.size, 1, none⟩ = false := (hb1.frozen (p := ⟨w.heap.size, 1, none⟩) (by simp; omega)).trans (by go_simp)
    have v0 : w1.cell? ⟨w.heap.size + 1, 0, none⟩ = some (.int .i64 0) := (hb1.cell (p := ⟨w.heap.size + 1, 0, none⟩) (by simp)).trans (by go_simp)
    have v1 : w1.cell? ⟨w.heap.size + 1, 1, none⟩ = some (.slice none 0 0) := (hb1.cell (p := ⟨w.heap.size + 1, 1, none⟩) (by simp)).trans (by go_simp)
    have v2 : w1.frozen? ⟨w.heap.size + 1, 0, none⟩ = false := (hb1.frozen (p := ⟨w.heap.size + 1, 0, none⟩) (by simp)).trans (by go_simp)
    have v3 : w1.frozen? ⟨w.heap.size + 1, 1, none⟩ = false := (hb1.frozen (p := ⟨w.heap.size + 1, 1, none⟩) (by simp)).trans (by go_simp)
    have HB1 := Lib.hid hb1
    clear hb1
    go_wp2
    go_loop [11] (fun k => k = .int .i64 0) (fun _ => 0)
    case atStart => rfl
    case round =>
      obtain rfl := hrel
      have HB2 : Hid (Below w.heap.size w (((w1.setCell ⟨w.heap.size, 1, none⟩ (.slice A1 0 c1)).setCell ⟨w.heap.size + 1, 0, none⟩ (.int .i64 act)).setCell ⟨w.heap.size + 1, 1, none⟩ (.slice A1 0 c1))) :=
        (((HB.out.trans (HB1.out.mono HB.out.size)).setCell (p := ⟨w.heap.size, 1, none⟩) (Nat.le_refl _) _).setCell (p := ⟨w.heap.size + 1, 0, none⟩) (Nat.le_succ _) _).setCell (p := ⟨w.heap.size + 1, 1, none⟩) (Nat.le_succ _) _
      have HPS : Hid (ps = []) := List.eq_nil_of_length_eq_zero HL.out
      clear hx hs
      go_wp2
      refine bodyPost_ret (v := .agg #[.int .i64 act, .slice A1 0 c1]) (by simp [results, Try.results29, go_sem, v0, v1]) rfl ⟨A1, c1, [], rfl, fun h => absurd h (by omega), ⟨⟨⟨hc1, hc2, rfl, fun h => absurd h (by omega)⟩, rfl⟩, by simp⟩, by rw [HPS.out], by simp, HB2.out⟩
  · have hpos : 0 < n := by omega
    have HBL : Hid (∀ p ∈ ps, Ints w w.heap.size .i64 p.A p.ln p.lc p.ls) := hx.2
    clear hx1 hx
    go_enter Try.func29, Try.ntmps29
    go_wp2_with fail
    refine H1.out.mono ?_
    rintro e w1 ⟨A1, c1, rfl, hown, hc1, hc2, hb1⟩
    obtain ⟨g, rfl, hrow⟩ := hown hpos
    have hb0 : Below w.heap.size w w1 := HB.out.trans (hb1.mono HB.out.size)
    have hrow2 : w1.ownsRow (w.heap.size + 2) 38 6 (.slice (some ⟨g, 0, none⟩) n c1) n (ps.flatMap PV.vals) := own_mono hrow (by simp)
    have hlt := hrow2.lt g rfl
    have u0 : w1.cell? ⟨w.heap.size, 0, none⟩ = some (.int .i64 act) := (hb1.cell (p := ⟨w.heap.size, 0, none⟩) (by simp; omega)).trans (by go_simp)
    have u1 : w1.cell? ⟨w.heap.size, 1, none⟩ = some (.slice A n c) := (hb1.cell (p := ⟨w.heap.size, 1, none⟩) (by simp; omega)).trans (by go_simp)
    have u2 : w1.frozen? ⟨w.heap.size, 1, none⟩ = false := (hb1.frozen (p := ⟨w.heap.size, 1, none⟩) (by simp; omega)).trans (by go_simp)
    have v0 : w1.cell? ⟨w.heap.size + 1, 0, none⟩ = some (.int .i64 0) := (hb1.cell (p := ⟨w.heap.size + 1, 0, none⟩) (by simp)).trans (by go_simp)
    have v1 : w1.cell? ⟨w.heap.size + 1, 1, none⟩ = some (.slice none 0 0) := (hb1.cell (p := ⟨w.heap.size + 1, 1, none⟩) (by simp)).trans (by go_simp)
    have v2 : w1.frozen? ⟨w.heap.size + 1, 0, none⟩ = false := (hb1.frozen (p := ⟨w.heap.size + 1, 0, none⟩) (by simp)).trans (by go_simp)
    have v3 : w1.frozen? ⟨w.heap.size + 1, 1, none⟩ = false := (hb1.frozen (p := ⟨w.heap.size + 1, 1, none⟩) (by simp)).trans (by go_simp)
    have HI : Hid (CInv w (w1.setCell ⟨w.heap.size, 1, none⟩ (.slice (some ⟨g, 0, none⟩) n c1)) act g n c1 ps) := by
      have hb2 : Below w.heap.size w (w1.setCell ⟨w.heap.size, 1, none⟩ (.slice (some ⟨g, 0, none⟩) n c1)) := hb0.setCell (p := ⟨w.heap.size, 1, none⟩) (Nat.le_refl _) _
      have hap : ∀ p ∈ ps, ∀ b', w.heap.size ≤ b' → Apart b' p.A p.ln := by
        intro p hp b' hb' hm ad had
        obtain ⟨b, o, e, hb, _⟩ := (HBL.out p hp).2.2.2 hm
        rw [e] at had
        injection had with had
        subst had
        show b ≠ b'
        omega
      refine ⟨by go_simp, by go_simp, by go_simp, by go_simp, by go_simp, by go_simp, ⟨ownsRow_setCell_below hrow2 (by show w.heap.size < _; omega) _, HL.out, fun p hp => ?_⟩, fun p hp => hap p hp _ (by omega), hb2⟩
      exact ⟨((HBL.out p hp).below hb2).more hb2.size, hap p hp g (by omega)⟩
    clear hown hrow hrow2 hb0 hb1 u0 v0 v1 v2 v3
    go_wp2
    go_loopw [11] (fun k wr => ∃ (q : Nat) (qs : List PV), q ≤ n ∧ k = .int .i64 q ∧ Hid (CInv w wr act g n c1 qs) ∧ Hid (qs.map PV.dat = ps.map PV.dat) ∧ Hid (Short qs) ∧ Hid (∀ j p, j < q → qs[j]? = some p → FreshL w.heap.size p)) (fun k _ => n - (intOf k).toNat)
    case atStart => exact ⟨0, ps, Nat.zero_le _, rfl, HI, rfl, hs, fun j p hj => absurd hj (by omega)⟩
    case round =>
      obtain ⟨q, qs, hq, rfl, hi, hd, hsh, hfr⟩ := hrel
      clear HI hs HBL u1 u2
      by_cases hlt2 : q < n
      · obtain ⟨p, hp⟩ : ∃ p, qs[q]? = some p := ⟨qs[q]'(by rw [hi.out.own.len]; exact hlt2), List.getElem?_eq_getElem _⟩
        have HP := Lib.hid hp
        have hln : p.ln ≤ 17592186044416 := hsh.out p (List.mem_of_getElem? hp)
        have b1 := hi.out.b1
        have e4 := (hi.out.own.get hp).2.2.2.2.1
        have ef := hi.out.own.frozen (q * 6 + 4)
        clear hp
        go_wp2_with fail
        have hgne : g ≠ w.heap.size := by omega
        have b1d : wr.drew.cell? ⟨w.heap.size, 1, none⟩ = some (.slice (some ⟨g, 0, none⟩) n c1) := b1
        have HID : Hid (CInv w wr.drew act g n c1 qs) := hi.out.below (Below.refl _ _).drew
        clear HB H1 HL h0
        go_region_with (go_at_call 30; refine (cloneInts_any _ _ _ p.ls _ ((HID.out.own.labs p (List.mem_of_getElem? HP.out)).1) hln).mono ?_; rintro e w' ⟨A2, c2, rfl, hi2, hf2, hb2⟩; have HI3 : Hid (CInv w w' act g n c1 qs) := HID.out.below hb2; have k1 := HI3.out.b1; have k2 := (HI3.out.own.get HP.out).2.2.2.2.1; have k3 := HI3.out.own.frozen (q * 6 + 4); have HI2 := Lib.hid hi2; have HF2 := Lib.hid hf2; clear hi2 hf2 hb2)
        all_goals
          have HN : Hid (CInv w (w'.setCell ⟨g, q * 6 + 4, none⟩ (.slice A2 p.ln c2)) act g n c1 (qs.set q { p with A := A2, lc := c2 })) :=
            HI3.out.set (q := { p with A := A2, lc := c2 }) HP.out rfl (by omega) HI2.out (fun hm ad had => by have h1 := HF2.out hm ad had; have h2 := HID.out.own.lt; omega) (fun hm ad had => by have h1 := HF2.out hm ad had; have h2 := HID.out.own.lt; omega)
          have HD : Hid ((qs.set q { p with A := A2, lc := c2 }).map PV.dat = ps.map PV.dat) := (map_set_same (p' := { p with A := A2, lc := c2 }) HP.out rfl).trans hd.out
          have HS : Hid (Short (qs.set q { p with A := A2, lc := c2 })) := Short.set hsh.out hln
          have HFR : Hid (∀ j r, j < q + 1 → (qs.set q { p with A := A2, lc := c2 })[j]? = some r → FreshL w.heap.size r) := by
            intro j r hj hr
            rw [List.getElem?_set] at hr
            by_cases hjq : q = j
            · subst hjq
              have hl := (List.getElem?_eq_some_iff.1 HP.out).1
              rw [if_pos rfl, if_pos hl] at hr
              simp only [Option.some.injEq] at hr
              subst hr
              intro hm ad had
              have h1 := HF2.out hm ad had
              have h2 := HID.out.bel.size
              omega
            · rw [if_neg hjq] at hr
              exact hfr.out j r (by omega) hr
          clear b1 e4 ef b1d k1 k2 k3 HI2 HF2 HI3 HID
          go_wp2
          go_roundw
          case rel => exact ⟨q + 1, _, by omega, by go_num, HN, HD, HS, HFR⟩
          case measure => simp [intOf]; omega
      · obtain rfl : q = n := by omega
        have b0 := hi.out.b0
        have b1 := hi.out.b1
        have r0 := hi.out.r0
        have r1 := hi.out.r1
        have f0 := hi.out.f0
        have f1 := hi.out.f1
        have HW : Hid (OwnP ((wr.setCell ⟨w.heap.size + 1, 0, none⟩ (.int .i64 act)).setCell ⟨w.heap.size + 1, 1, none⟩ (.slice (some ⟨g, 0, none⟩) q c1)) w.heap.size g q c1 qs) := by
          have h := hi.out.own
          have hg := h.lt
          refine ⟨own_mono (ownsRow_setCell_below (ownsRow_setCell_below h.row (by show w.heap.size + 1 < _; omega) _) (by show w.heap.size + 1 < _; omega) _) (by omega), h.len, fun p hp => ⟨?_, (h.labs p hp).2⟩⟩
          have h2 := ((h.labs p hp).1.setApart (hi.out.ap p hp) 0 (.int .i64 act)).setApart (hi.out.ap p hp) 1 (.slice (some ⟨g, 0, none⟩) q c1)
          exact h2.more (by simp [World.setCell])
        have HB2 : Hid (Below w.heap.size w ((wr.setCell ⟨w.heap.size + 1, 0, none⟩ (.int .i64 act)).setCell ⟨w.heap.size + 1, 1, none⟩ (.slice (some ⟨g, 0, none⟩) q c1))) :=
          (hi.out.bel.setCell (p := ⟨w.heap.size + 1, 0, none⟩) (Nat.le_succ _) _).setCell (p := ⟨w.heap.size + 1, 1, none⟩) (Nat.le_succ _) _
        clear HB H1 HL h0
        go_wp2
        refine bodyPost_ret (v := .agg #[.int .i64 act, .slice (some ⟨g, 0, none⟩) q c1]) (by simp [results, Try.results29, go_sem, r0, r1]) rfl ⟨some ⟨g, 0, none⟩, c1, qs, rfl, fun _ => ⟨g, rfl, HW.out⟩, HW.out.paths, hd.out, fun p hp => by
          obtain ⟨j, hj, rfl⟩ := List.getElem_of_mem hp
          exact hfr.out j _ (by rw [← HW.out.len]; exact hj) (List.getElem?_eq_getElem hj), HB2.out⟩
end Go.Proofs.Ytlcgjgmhllmekaa
