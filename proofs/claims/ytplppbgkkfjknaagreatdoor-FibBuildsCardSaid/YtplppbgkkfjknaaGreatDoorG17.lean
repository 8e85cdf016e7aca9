/- fib.cloneGroup: as balance.clone. fib.Lookup. slices.Clone of addresses, neighbors, label rows, label hops. A row of label rows of the call's own, and one of its cells written (for cloneEntries). fib.cloneEntries. The group of a route, plain; a row of paths under a write elsewhere. -/
import Derived.Test.YtplppbgkkfjknaaGreatDoorG16
namespace Go.Proofs.YtplppbgkkfjknaaGreatDoor
open Go.RowKit

set_option linter.unusedVariables false
set_option linter.unusedSimpArgs false
set_option maxHeartbeats 2000000 in
theorem cloneGroup_any (A : Option Addr) (n c : Nat) (act : Int) (ps : List PV) (w : World) (hx : Paths w w.heap.size A n c ps) (hs : Short ps) (hn : n ≤ 1000) :
    Calls Tryz.prog 35 #[.agg #[.int .i64 act, .slice A n c]] w (GivesGroup act n (ps.map PV.dat) w) := by
  have HB := Lib.hid (((Below.refl w.heap.size w).alloc (Nat.le_refl _) (.cells #[.int .i64 act, .slice A n c] 47)).alloc (by simp) (.cells #[.int .i64 0, .slice none 0 0] 47))
  have hx1 : Recs ((w.alloc (.cells #[.int .i64 act, .slice A n c] 47)).alloc (.cells #[.int .i64 0, .slice none 0 0] 47)) ((w.alloc (.cells #[.int .i64 act, .slice A n c] 47)).alloc (.cells #[.int .i64 0, .slice none 0 0] 47)).heap.size 6 A n c PV.vals ps :=
    (hx.1.below HB.out).more HB.out.size
  have H1 := Lib.hid (clonePaths_any A n c ps _ hx1 hn)
  have HL := Lib.hid hx.len
  by_cases h0 : n = 0
  · subst h0
    clear hx1
    go_enter Tryz.func35, Tryz.ntmps35
    go_wp2_with fail
    refine H1.out.mono ?_
    rintro e w1 ⟨A1, c1, rfl, _, hc1, hc2, hb1⟩
    have u0 : w1.cell? ⟨w.heap.size, 0, none⟩ = some (.int .i64 act) := (hb1.cell (p := ⟨w.heap.size, 0, none⟩) (by simp; omega)).trans (by go_simp)
    have u1 : w1.cell? ⟨w.heap.size, 1, none⟩ = some (.slice A 0 c) := (hb1.cell (p := ⟨w.heap.size, 1, none⟩) (by simp; omega)).trans (by go_simp)
    have u2 : w1.frozen? ⟨w.heap.size, 1, none⟩ = false := (hb1.frozen (p := ⟨w.heap.size, 1, none⟩) (by simp; omega)).trans (by go_simp)
    have v0 : w1.cell? ⟨w.heap.size + 1, 0, none⟩ = some (.int .i64 0) := (hb1.cell (p := ⟨w.heap.size + 1, 0, none⟩) (by simp)).trans (by go_simp)
    have v1 : w1.cell? ⟨w.heap.size + 1, 1, none⟩ = some (.slice none 0 0) := (hb1.cell (p := ⟨w.heap.size + 1, 1, none⟩) (by simp)).trans (by go_simp)
    have v2 : w1.frozen? ⟨w.heap.size + 1, 0, none⟩ = false := (hb1.frozen (p := ⟨w.heap.size + 1, 0, none⟩) (by simp)).trans (by go_simp)
    have v3 : w1.frozen? ⟨w.heap.size + 1, 1, none⟩ = false := (hb1.frozen (p := ⟨w.heap.size + 1, 1, none⟩) (by simp)).trans (by go_simp)
    have HB1 := Lib.hid hb1
    clear hb1
    go_wp2
    go_loop [11] (fun k => k = .int .i64 0) (fun _ => 0)
    case atStart => rfl
    case round =>
      obtain rfl := hrel
      have HB2 : Hid (Below w.heap.size w (((w1.setCell ⟨w.heap.size, 1, none⟩ (.slice A1 0 c1)).setCell ⟨w.heap.size + 1, 0, none⟩ (.int .i64 act)).setCell ⟨w.heap.size + 1, 1, none⟩ (.slice A1 0 c1))) :=
        (((HB.out.trans (HB1.out.mono HB.out.size)).setCell (p := ⟨w.heap.size, 1, none⟩) (Nat.le_refl _) _).setCell (p := ⟨w.heap.size + 1, 0, none⟩) (Nat.le_succ _) _).setCell (p := ⟨w.heap.size + 1, 1, none⟩) (Nat.le_succ _) _
      have HPS : Hid (ps = []) := List.eq_nil_of_length_eq_zero HL.out
      clear hx hs
      go_wp2
      refine bodyPost_ret (v := .agg #[.int .i64 act, .slice A1 0 c1]) (by simp [results, Tryz.results35, go_sem, v0, v1]) rfl ⟨A1, c1, [], rfl, fun h => absurd h (by omega), ⟨⟨⟨hc1, hc2, rfl, fun h => absurd h (by omega)⟩, rfl⟩, by simp⟩, by rw [HPS.out], by simp, HB2.out⟩
  · have hpos : 0 < n := by omega
    have HBL : Hid (∀ p ∈ ps, Ints w w.heap.size .i64 p.A p.ln p.lc p.ls) := hx.2
    clear hx1 hx
    go_enter Tryz.func35, Tryz.ntmps35
    go_wp2_with fail
    refine H1.out.mono ?_
    rintro e w1 ⟨A1, c1, rfl, hown, hc1, hc2, hb1⟩
    obtain ⟨g, rfl, hrow⟩ := hown hpos
    have hb0 : Below w.heap.size w w1 := HB.out.trans (hb1.mono HB.out.size)
    have hrow2 : w1.ownsRow (w.heap.size + 2) 57 6 (.slice (some ⟨g, 0, none⟩) n c1) n (ps.flatMap PV.vals) := own_mono hrow (by simp)
    have hlt := hrow2.lt g rfl
    have u0 : w1.cell? ⟨w.heap.size, 0, none⟩ = some (.int .i64 act) := (hb1.cell (p := ⟨w.heap.size, 0, none⟩) (by simp; omega)).trans (by go_simp)
    have u1 : w1.cell? ⟨w.heap.size, 1, none⟩ = some (.slice A n c) := (hb1.cell (p := ⟨w.heap.size, 1, none⟩) (by simp; omega)).trans (by go_simp)
    have u2 : w1.frozen? ⟨w.heap.size, 1, none⟩ = false := (hb1.frozen (p := ⟨w.heap.size, 1, none⟩) (by simp; omega)).trans (by go_simp)
    have v0 : w1.cell? ⟨w.heap.size + 1, 0, none⟩ = some (.int .i64 0) := (hb1.cell (p := ⟨w.heap.size + 1, 0, none⟩) (by simp)).trans (by go_simp)
    have v1 : w1.cell? ⟨w.heap.size + 1, 1, none⟩ = some (.slice none 0 0) := (hb1.cell (p := ⟨w.heap.size + 1, 1, none⟩) (by simp)).trans (by go_simp)
    have v2 : w1.frozen? ⟨w.heap.size + 1, 0, none⟩ = false := (hb1.frozen (p := ⟨w.heap.size + 1, 0, none⟩) (by simp)).trans (by go_simp)
    have v3 : w1.frozen? ⟨w.heap.size + 1, 1, none⟩ = false := (hb1.frozen (p := ⟨w.heap.size + 1, 1, none⟩) (by simp)).trans (by go_simp)
    have HI : Hid (CInv w (w1.setCell ⟨w.heap.size, 1, none⟩ (.slice (some ⟨g, 0, none⟩) n c1)) act g n c1 ps) := by
      have hb2 : Below w.heap.size w (w1.setCell ⟨w.heap.size, 1, none⟩ (.slice (some ⟨g, 0, none⟩) n c1)) := hb0.setCell (p := ⟨w.heap.size, 1, none⟩) (Nat.le_refl _) _
      have hap : ∀ p ∈ ps, ∀ b', w.heap.size ≤ b' → Apart b' p.A p.ln := by
        intro p hp b' hb' hm ad had
        obtain ⟨b, o, e, hb, _⟩ := (HBL.out p hp).2.2.2 hm
        rw [e] at had
        injection had with had
        subst had
        show b ≠ b'
        omega
      refine ⟨by go_simp, by go_simp, by go_simp, by go_simp, by go_simp, by go_simp, ⟨ownsRow_setCell_below hrow2 (by show w.heap.size < _; omega) _, HL.out, fun p hp => ?_⟩, fun p hp => hap p hp _ (by omega), hb2⟩
      exact ⟨((HBL.out p hp).below hb2).more hb2.size, hap p hp g (by omega)⟩
    clear hown hrow hrow2 hb0 hb1 u0 v0 v1 v2 v3
    go_wp2
    go_loopw [11] (fun k wr => ∃ (q : Nat) (qs : List PV), q ≤ n ∧ k = .int .i64 q ∧ Hid (CInv w wr act g n c1 qs) ∧ Hid (qs.map PV.dat = ps.map PV.dat) ∧ Hid (Short qs) ∧ Hid (∀ j p, j < q → qs[j]? = some p → FreshL w.heap.size p)) (fun k _ => n - (intOf k).toNat)
    case atStart => exact ⟨0, ps, Nat.zero_le _, rfl, HI, rfl, hs, fun j p hj => absurd hj (by omega)⟩
    case round =>
      obtain ⟨q, qs, hq, rfl, hi, hd, hsh, hfr⟩ := hrel
      clear HI hs HBL u1 u2
      by_cases hlt2 : q < n
      · obtain ⟨p, hp⟩ : ∃ p, qs[q]? = some p := ⟨qs[q]'(by rw [hi.out.own.len]; exact hlt2), List.getElem?_eq_getElem _⟩
        have HP := Lib.hid hp
        have hln : p.ln ≤ 17592186044416 := hsh.out p (List.mem_of_getElem? hp)
        have b1 := hi.out.b1
        have e4 := (hi.out.own.get hp).2.2.2.2.1
        have ef := hi.out.own.frozen (q * 6 + 4)
        clear hp
        go_wp2_with fail
        have hgne : g ≠ w.heap.size := by omega
        have b1d : wr.drew.cell? ⟨w.heap.size, 1, none⟩ = some (.slice (some ⟨g, 0, none⟩) n c1) := b1
        have HID : Hid (CInv w wr.drew act g n c1 qs) := hi.out.below (Below.refl _ _).drew
        clear HB H1 HL h0
        go_region_with (go_at_call 69; refine (cloneInts_any _ _ _ p.ls _ ((HID.out.own.labs p (List.mem_of_getElem? HP.out)).1) hln).mono ?_; rintro e w' ⟨A2, c2, rfl, hi2, hf2, hb2⟩; have HI3 : Hid (CInv w w' act g n c1 qs) := HID.out.below hb2; have k1 := HI3.out.b1; have k2 := (HI3.out.own.get HP.out).2.2.2.2.1; have k3 := HI3.out.own.frozen (q * 6 + 4); have HI2 := Lib.hid hi2; have HF2 := Lib.hid hf2; clear hi2 hf2 hb2)
        all_goals
          have HN : Hid (CInv w (w'.setCell ⟨g, q * 6 + 4, none⟩ (.slice A2 p.ln c2)) act g n c1 (qs.set q { p with A := A2, lc := c2 })) :=
            HI3.out.set (q := { p with A := A2, lc := c2 }) HP.out rfl (by omega) HI2.out (fun hm ad had => by have h1 := HF2.out hm ad had; have h2 := HID.out.own.lt; omega) (fun hm ad had => by have h1 := HF2.out hm ad had; have h2 := HID.out.own.lt; omega)
          have HD : Hid ((qs.set q { p with A := A2, lc := c2 }).map PV.dat = ps.map PV.dat) := (map_set_same (p' := { p with A := A2, lc := c2 }) HP.out rfl).trans hd.out
          have HS : Hid (Short (qs.set q { p with A := A2, lc := c2 })) := Short.set hsh.out hln
          have HFR : Hid (∀ j r, j < q + 1 → (qs.set q { p with A := A2, lc := c2 })[j]? = some r → FreshL w.heap.size r) := by
            intro j r hj hr
            rw [List.getElem?_set] at hr
            by_cases hjq : q = j
            · subst hjq
              have hl := (List.getElem?_eq_some_iff.1 HP.out).1
              rw [if_pos rfl, if_pos hl] at hr
              simp only [Option.some.injEq] at hr
              subst hr
              intro hm ad had
              have h1 := HF2.out hm ad had
              have h2 := HID.out.bel.size
              omega
            · rw [if_neg hjq] at hr
              exact hfr.out j r (by omega) hr
          clear b1 e4 ef b1d k1 k2 k3 HI2 HF2 HI3 HID
          go_wp2
          go_roundw
          case rel => exact ⟨q + 1, _, by omega, by go_num, HN, HD, HS, HFR⟩
          case measure => simp [intOf]; omega
      · obtain rfl : q = n := by omega
        have b0 := hi.out.b0
        have b1 := hi.out.b1
        have r0 := hi.out.r0
        have r1 := hi.out.r1
        have f0 := hi.out.f0
        have f1 := hi.out.f1
        have HW : Hid (OwnP ((wr.setCell ⟨w.heap.size + 1, 0, none⟩ (.int .i64 act)).setCell ⟨w.heap.size + 1, 1, none⟩ (.slice (some ⟨g, 0, none⟩) q c1)) w.heap.size g q c1 qs) := by
          have h := hi.out.own
          have hg := h.lt
          refine ⟨own_mono (ownsRow_setCell_below (ownsRow_setCell_below h.row (by show w.heap.size + 1 < _; omega) _) (by show w.heap.size + 1 < _; omega) _) (by omega), h.len, fun p hp => ⟨?_, (h.labs p hp).2⟩⟩
          have h2 := ((h.labs p hp).1.setApart (hi.out.ap p hp) 0 (.int .i64 act)).setApart (hi.out.ap p hp) 1 (.slice (some ⟨g, 0, none⟩) q c1)
          exact h2.more (by simp [World.setCell])
        have HB2 : Hid (Below w.heap.size w ((wr.setCell ⟨w.heap.size + 1, 0, none⟩ (.int .i64 act)).setCell ⟨w.heap.size + 1, 1, none⟩ (.slice (some ⟨g, 0, none⟩) q c1))) :=
          (hi.out.bel.setCell (p := ⟨w.heap.size + 1, 0, none⟩) (Nat.le_succ _) _).setCell (p := ⟨w.heap.size + 1, 1, none⟩) (Nat.le_succ _) _
        clear HB H1 HL h0
        go_wp2
        refine bodyPost_ret (v := .agg #[.int .i64 act, .slice (some ⟨g, 0, none⟩) q c1]) (by simp [results, Tryz.results35, go_sem, r0, r1]) rfl ⟨some ⟨g, 0, none⟩, c1, qs, rfl, fun _ => ⟨g, rfl, HW.out⟩, HW.out.paths, hd.out, fun p hp => by
          obtain ⟨j, hj, rfl⟩ := List.getElem_of_mem hp
          exact hfr.out j _ (by rw [← HW.out.len]; exact hj) (List.getElem?_eq_getElem hj), HB2.out⟩
end Go.Proofs.YtplppbgkkfjknaaGreatDoor
namespace Go.Proofs.YtplppbgkkfjknaaGreatDoor
open Go.RowKit

set_option linter.unusedVariables false
set_option linter.unusedSimpArgs false
/-- the entry that a table has for an address -/
def rowFor (es : List Ent) (a : Nat) : Option Ent := if es.all validE = true then longest (ofE es) a else none
/-- the group that a table has for an address -/
def lookG (es : List Ent) (gs : List GE) (a : Nat) : Option GE := (rowFor es a).bind fun x => if x.v < 0 then none else gs[x.v.toNat]?
def GivesFib (o : Option GE) (w : World) (e : Ending) (w' : World) : Prop := match o with
  | none => e = .returned (.tuple #[.agg #[.int .i64 0, .slice none 0 0], .bool false]) ∧ Below w.heap.size w w'
  | some g => ∃ A c qs, e = .returned (.tuple #[.agg #[.int .i64 g.act, .slice A g.n c], .bool true]) ∧ Paths w' w'.heap.size A g.n c qs ∧ qs.map PV.dat = g.ps.map PV.dat ∧ (∀ p ∈ qs, FreshL w.heap.size p) ∧ Below w.heap.size w w'
set_option maxRecDepth 100000 in
set_option maxHeartbeats 4000000 in
theorem lookup_fib_any (tA gA lA bA nA : Option Addr) (tn tc gn gc ln lc bn bc nn nc : Nat) (B : Nat) (es : List Ent) (gs : List GE) (a : Nat) (w : World) (ht : Ents w B tA tn tc es) (hg : Grps w B gA gn gc gs) (hB : B ≤ w.heap.size) (hn : tn ≤ 140737488355328) (ha : a < 4294967296)
    (hs : ∀ g ∈ gs, g.n ≤ 1000 ∧ Short g.ps) :
    Calls Tryz.prog 15 #[.agg #[.slice tA tn tc, .slice gA gn gc, .slice lA ln lc, .slice bA bn bc, .slice nA nn nc], .int .u32 a] w (GivesFib (lookG es gs a) w) := by
  obtain ⟨w1, hw1⟩ : ∃ w1, (w.alloc (.cells #[.slice tA tn tc, .slice gA gn gc, .slice lA ln lc, .slice bA bn bc, .slice nA nn nc] 35)).alloc (.cells #[.int .i64 0, .slice none 0 0] 47) = w1 := ⟨_, rfl⟩
  have HF1 : Hid (Blk w1 w.heap.size 35 [.slice tA tn tc, .slice gA gn gc, .slice lA ln lc, .slice bA bn bc, .slice nA nn nc]) := by show Blk _ _ _ _; rw [← hw1]; exact (Blk.new w _ _).keep (belowA _ _)
  have HP1 : Hid (Blk w1 (w.heap.size + 1) 47 [.int .i64 0, .slice none 0 0]) := by show Blk _ _ _ _; rw [← hw1]; exact Blk.new2 w _ _ _
  have HB1 : Hid (Below w.heap.size w w1) := by show Below _ _ _; rw [← hw1]; exact below3 (belowA _ _) (belowA _ _)
  have hlt1 := HP1.out.lt
  have hlt0 : w.heap.size < w1.heap.size := by omega
  have f0 := HF1.out.cell 0
  simp only [List.getElem?_cons_zero, List.getElem?_cons_succ] at f0
  have HGW : Hid (∀ W, Below w.heap.size w W → Grps W B gA gn gc gs) := fun W h => hg.below (h.mono hB)
  have HGL : Hid (gs.length = gn) := hg.1.2
  have HS := Lib.hid hs
  have HT := Lib.hid (of_trie_any tA tn tc es w1 ((ht.below (HB1.out.mono hB)).more (by omega)) hn)
  clear ht hg hs
  go_enter Tryz.func15, Tryz.ntmps15
  go_wp2_with fail
  refine HT.out.mono ?_
  rintro e w2 (⟨hbad, rfl, hb2⟩ | ⟨hok, T, M, m, rfl, hTr, hEM, hb2⟩)
  · have HB2 := Lib.hid (below3 HB1.out hb2)
    have HP2 := Lib.hid (HP1.out.keep hb2)
    have HF : Hid (lookG es gs a = none) := by
      show _ = _
      unfold lookG rowFor
      rw [if_neg (by rw [hbad]; simp)]
      rfl
    clear HT hb2 hbad hw1 f0
    obtain ⟨w3, hw3⟩ : ∃ w3, w2.setRow (w.heap.size + 1) #[.int .i64 0, .slice none 0 0] = w3 := ⟨_, rfl⟩
    have HB3 : Hid (Blk w3 (w.heap.size + 1) 47 [.int .i64 0, .slice none 0 0]) := by show Blk _ _ _ _; rw [← hw3]; exact HP2.out.row _
    have HL3 : Hid (Below w.heap.size w w3) := by show Below _ _ _; rw [← hw3]; exact HB2.out.trans ((Save.row (w.heap.size + 1) w2 _).below (by omega) HB2.out.size)
    go_wp2_with (refine wpList_store_blk rfl 47 _ _ rfl (w.heap.size + 1) rfl rfl HP2.out (by kernel_rfl) rfl (by kernel_rfl) ?_)
    try rw [hw3]
    refine bodyPost_ret (results_cell_row2 rfl _ (w.heap.size + 1) _ rfl HB3.out Tryz.underlying47 rfl (by kernel_rfl)) rfl ?_
    rw [HF.out]
    exact ⟨rfl, HL3.out⟩
  have hE : EM M = ofE es := funext hEM
  have HLk := Lib.hid (lookup_any T w1.heap.size M m a w2 hTr ha)
  rw [hE] at HLk
  have HR : Hid (lookG es gs a = (longest (ofE es) a).bind fun x => if x.v < 0 then none else gs[x.v.toNat]?) := by
    show _ = _
    unfold lookG rowFor
    rw [if_pos hok]
  have HB2 := Lib.hid (below3 HB1.out hb2)
  have HP2 := Lib.hid (HP1.out.keep hb2)
  have HF2 := Lib.hid (HF1.out.keep hb2)
  have hsz2 := hb2.size
  obtain ⟨X, hX⟩ : ∃ X, longest (ofE es) a = X := ⟨_, rfl⟩
  rw [hX] at HLk HR
  clear HT hb2 hok hTr hEM hE hX hw1 f0 HF1 HP1 HB1
  go_wp2_with fail
  refine HLk.out.mono ?_
  rintro e w3 ⟨he, hb3⟩
  have HB3 := Lib.hid (below3 HB2.out hb3)
  have HP3 := Lib.hid (HP2.out.keep hb3)
  have HF3 := Lib.hid (HF2.out.keep hb3)
  have hsz3 := hb3.size
  clear HLk hb3 HP2 HF2
  cases X with
  | none =>
    have he2 : e = .returned (.tuple #[.agg #[.int .u32 0, .int .i64 0, .int .i64 0], .bool false]) := he
    subst he2
    clear he
    have HF : Hid (lookG es gs a = none) := HR.out
    obtain ⟨w4, hw4⟩ : ∃ w4, w3.alloc (.cells #[.int .u32 0, .int .i64 0, .int .i64 0] 79) = w4 := ⟨_, rfl⟩
    have hba : Below w3.heap.size w3 w4 := by rw [← hw4]; exact belowA _ _
    have HE4 : Hid (Blk w4 w3.heap.size 79 [.int .u32 0, .int .i64 0, .int .i64 0]) := by show Blk _ _ _ _; rw [← hw4]; exact Blk.new w3 _ _
    have hsr := Save.row w3.heap.size w4 #[.int .u32 0, .int .i64 0, .int .i64 0]
    have HP4 : Hid (Blk (w4.setRow w3.heap.size #[.int .u32 0, .int .i64 0, .int .i64 0]) (w.heap.size + 1) 47 [.int .i64 0, .slice none 0 0]) := (HP3.out.keep hba).save hsr (by omega)
    have HB4 : Hid (Below w.heap.size w (w4.setRow w3.heap.size #[.int .u32 0, .int .i64 0, .int .i64 0])) := (below3 HB3.out hba).trans (hsr.below (by omega) (by have := hba.size; omega))
    obtain ⟨w5, hw5⟩ : ∃ w5, (w4.setRow w3.heap.size #[.int .u32 0, .int .i64 0, .int .i64 0]).setRow (w.heap.size + 1) #[.int .i64 0, .slice none 0 0] = w5 := ⟨_, rfl⟩
    have HB5 : Hid (Blk w5 (w.heap.size + 1) 47 [.int .i64 0, .slice none 0 0]) := by show Blk _ _ _ _; rw [← hw5]; exact HP4.out.row _
    have HL5 : Hid (Below w.heap.size w w5) := by show Below _ _ _; rw [← hw5]; exact HB4.out.trans ((Save.row (w.heap.size + 1) (w4.setRow w3.heap.size #[.int .u32 0, .int .i64 0, .int .i64 0]) _).below (by omega) HB4.out.size)
    clear hba hsr
    go_wp2_with (first | (refine wpList_store_blk rfl 79 _ _ rfl w3.heap.size rfl rfl HE4.out (by kernel_rfl) rfl (by kernel_rfl) ?_) | (refine wpList_store_blk rfl 47 _ _ rfl (w.heap.size + 1) rfl rfl HP4.out (by kernel_rfl) rfl (by kernel_rfl) ?_))
    try rw [hw5]
    refine bodyPost_ret (results_cell_row2 rfl _ (w.heap.size + 1) _ rfl HB5.out Tryz.underlying47 rfl (by kernel_rfl)) rfl ?_
    rw [HF.out]
    exact ⟨rfl, HL5.out⟩
  | some x =>
    obtain ⟨xa, xl, xv⟩ := x
    have he2 : e = .returned (.tuple #[.agg #[.int .u32 xa, .int .i64 xl, .int .i64 xv], .bool true]) := he
    subst he2
    clear he
    have HR2 : Hid (lookG es gs a = if xv < 0 then none else gs[xv.toNat]?) := HR.out
    obtain ⟨w4, hw4⟩ : ∃ w4, w3.alloc (.cells #[.int .u32 xa, .int .i64 xl, .int .i64 xv] 79) = w4 := ⟨_, rfl⟩
    have hba : Below w3.heap.size w3 w4 := by rw [← hw4]; exact belowA _ _
    have HE4 : Hid (Blk w4 w3.heap.size 79 [.int .u32 xa, .int .i64 xl, .int .i64 xv]) := by show Blk _ _ _ _; rw [← hw4]; exact Blk.new w3 _ _
    have HP4 := Lib.hid (HP3.out.keep hba)
    have HF4 := Lib.hid (HF3.out.keep hba)
    have HB4 := Lib.hid (below3 HB3.out hba)
    have e2 := HE4.out.cell 2
    have f1 := HF4.out.cell 1
    simp only [List.getElem?_cons_zero, List.getElem?_cons_succ] at e2 f1
    have hlt4 := HE4.out.lt
    have hF4l := HF4.out.lt
    clear hba HP3 HF3 HR
    by_cases h0 : xv < 0
    · have HF : Hid (lookG es gs a = none) := by show _ = _; rw [HR2.out, if_pos h0]
      have d0 : decide (xv < 0) = true := decide_eq_true h0
      clear h0
      obtain ⟨w5, hw5⟩ : ∃ w5, w4.setRow (w.heap.size + 1) #[.int .i64 0, .slice none 0 0] = w5 := ⟨_, rfl⟩
      have HB5 : Hid (Blk w5 (w.heap.size + 1) 47 [.int .i64 0, .slice none 0 0]) := by show Blk _ _ _ _; rw [← hw5]; exact HP4.out.row _
      have HL5 : Hid (Below w.heap.size w w5) := by show Below _ _ _; rw [← hw5]; exact HB4.out.trans ((Save.row (w.heap.size + 1) w4 _).below (by omega) HB4.out.size)
      go_wp2_with (refine wpList_store_blk rfl 47 _ _ rfl (w.heap.size + 1) rfl rfl HP4.out (by kernel_rfl) rfl (by kernel_rfl) ?_)
      try rw [hw5]
      refine bodyPost_ret (results_cell_row2 rfl _ (w.heap.size + 1) _ rfl HB5.out Tryz.underlying47 rfl (by kernel_rfl)) rfl ?_
      rw [HF.out]
      exact ⟨rfl, HL5.out⟩
    obtain ⟨k, rfl⟩ : ∃ k : Nat, xv = k := ⟨xv.toNat, by omega⟩
    have d0 : decide ((k : Int) < 0) = false := decide_eq_false h0
    by_cases hk : k < gn
    case neg =>
      have HF : Hid (lookG es gs a = none) := by
        show _ = _
        rw [HR2.out, if_neg h0, Int.toNat_natCast, List.getElem?_eq_none (by rw [HGL.out]; omega)]
      clear h0
      obtain ⟨w5, hw5⟩ : ∃ w5, w4.setRow (w.heap.size + 1) #[.int .i64 0, .slice none 0 0] = w5 := ⟨_, rfl⟩
      have HB5 : Hid (Blk w5 (w.heap.size + 1) 47 [.int .i64 0, .slice none 0 0]) := by show Blk _ _ _ _; rw [← hw5]; exact HP4.out.row _
      have HL5 : Hid (Below w.heap.size w w5) := by show Below _ _ _; rw [← hw5]; exact HB4.out.trans ((Save.row (w.heap.size + 1) w4 _).below (by omega) HB4.out.size)
      go_wp2_with (refine wpList_store_blk rfl 47 _ _ rfl (w.heap.size + 1) rfl rfl HP4.out (by kernel_rfl) rfl (by kernel_rfl) ?_)
      try rw [hw5]
      refine bodyPost_ret (results_cell_row2 rfl _ (w.heap.size + 1) _ rfl HB5.out Tryz.underlying47 rfl (by kernel_rfl)) rfl ?_
      rw [HF.out]
      exact ⟨rfl, HL5.out⟩
    obtain ⟨b, o, g, rfl, hbB, hgk, hgp, c0, c1⟩ := (HGW.out _ HB4.out).get hk
    have hbw : b < w4.heap.size := by have := HB4.out.size; omega
    obtain ⟨hg1, hg2⟩ := HS.out g (List.mem_of_getElem? hgk)
    have HF : Hid (lookG es gs a = some g) := by
      show _ = _
      rw [HR2.out, if_neg h0, Int.toNat_natCast, hgk]
    obtain ⟨gx, gA2, gn2, gc2, gp⟩ := g
    dsimp only at hgp c0 c1 hg1 hg2
    have HC := Lib.hid (cloneGroup_any gA2 gn2 gc2 gx gp w4 (hgp.more (by have := HB4.out.size; omega)) hg2 hg1)
    clear hgp hg1 hg2 hgk h0
    go_wp2_with fail
    refine HC.out.mono ?_
    rintro e w5 ⟨A, c, qs, rfl, hq0, hq1, hq2, hq3, hb5⟩
    have HP5 := Lib.hid (HP4.out.keep hb5)
    have HB5 := Lib.hid (below3 HB4.out hb5)
    have hsz5 := hb5.size
    have HQ1 := Lib.hid hq1
    have HQ0 : Hid (0 < gn2 → ∀ ad, A = some ad → w4.heap.size ≤ ad.block) := by
      intro hn ad e
      obtain ⟨g, e2, ho⟩ := hq0 hn
      rw [e] at e2
      injection e2 with e2
      subst e2
      exact ho.lt.1
    have HQ2 := Lib.hid hq2
    have HQ3 : Hid (∀ p ∈ qs, FreshL w4.heap.size p) := hq3
    clear HC hb5 hq0 hq1 hq2 hq3 e2 f1 c0 c1
    obtain ⟨w6, hw6⟩ : ∃ w6, w5.setRow (w.heap.size + 1) #[.int .i64 gx, .slice A gn2 c] = w6 := ⟨_, rfl⟩
    have HB6 : Hid (Blk w6 (w.heap.size + 1) 47 [.int .i64 gx, .slice A gn2 c]) := by show Blk _ _ _ _; rw [← hw6]; exact HP5.out.row _
    have HL6 : Hid (Below w.heap.size w w6) := by show Below _ _ _; rw [← hw6]; exact HB5.out.trans ((Save.row (w.heap.size + 1) w5 _).below (by omega) HB5.out.size)
    go_wp2_with (refine wpList_store_blk rfl 47 _ _ rfl (w.heap.size + 1) rfl rfl HP5.out (by kernel_rfl) rfl (by kernel_rfl) ?_)
    try rw [hw6]
    refine bodyPost_ret (results_cell_row2 rfl _ (w.heap.size + 1) _ rfl HB6.out Tryz.underlying47 rfl (by kernel_rfl)) rfl ?_
    rw [HF.out]
    refine ⟨A, c, qs, rfl, ?_, HQ2.out, fun p hp hl ad e => ?_, HL6.out⟩
    · have hsr : Save (w.heap.size + 1) w5 w6 := by rw [← hw6]; exact Save.row _ _ _
      have h4 := HB4.out.size
      refine Paths.more ⟨⟨cells_save HQ1.out.1.1 hsr (Nat.le_refl _) ?_, HQ1.out.1.2⟩, fun p hp => ints_save (HQ1.out.2 p hp) hsr (Nat.le_refl _) ?_⟩ hsr.size
      · intro hn ad e
        have := HQ0.out hn ad e
        omega
      · intro hn ad e
        have := HQ3.out p hp hn ad e
        omega
    · have := HQ3.out p hp hl ad e
      have h4 := HB4.out.size
      omega
end Go.Proofs.YtplppbgkkfjknaaGreatDoor
namespace Go.Proofs.YtplppbgkkfjknaaGreatDoor
open Go.RowKit

set_option linter.unusedVariables false
set_option linter.unusedSimpArgs false
def GivesRow (T : TypeId) (size n : Nat) (vs : List Value) (w : World) (e : Ending) (w' : World) : Prop :=
  ∃ A c, e = .returned (.slice A n c) ∧ w'.ownsRow w.heap.size T size (.slice A n c) n vs ∧ Below w.heap.size w w'
theorem addr_info52 : (Tryz.prog.info? 42).map (fun i => (i.zero, i.size, i.bytes)) = some (some (.int .u32 0), 1, 4) := by kernel_rfl
set_option maxHeartbeats 1000000 in
theorem addr_clone_any (A : Option Addr) (n c B : Nat) (vs : List Value) (w : World) (hx : Cells w B 1 A n c vs) (hB : B ≤ w.heap.size) (h1 : ∀ u ∈ vs, u.oneCell' = true) (hn : n ≤ 1000000) :
    Calls Tryz.prog 54 #[.slice A n c] w (GivesRow 42 1 n vs w) := by
  rcases A with _ | ad
  · have h0 : n = 0 := by
      rcases Nat.eq_zero_or_pos n with h | h
      · exact h
      · obtain ⟨_, _, h, _⟩ := hx.2.2.2 h
        cases h
    subst h0
    obtain rfl : vs = [] := List.eq_nil_of_length_eq_zero (by simpa using hx.2.2.1)
    have hc : c ≤ maxLen := hx.2.1
    have he := Lib.run_eql_slice_nil (P := Tryz.prog) w 23 42 none 0 c 0 0 Tryz.underlying23
    clear hx
    go_enter Tryz.func54, Tryz.ntmps54
    go_wp2
    go_ret
    exact ⟨none, 0, rfl, World.ownsRow_nil _ _ _ _, Below.refl _ _⟩
  · have he := Lib.run_eql_slice_nil (P := Tryz.prog) w 23 42 (some ad) n c 0 0 Tryz.underlying23
    have hown : (w.alloc (.cells #[] 42)).ownsRow w.heap.size 42 1 (.slice (some ⟨w.heap.size, 0, none⟩) 0 0) 0 [] := World.ownsRow_lit w #[] 0 (Nat.le_refl _) (by simp [maxLen]) rfl
    have hx1 : Cells (w.alloc (.cells #[] 42)) B 1 (some ad) n c vs := hx.below ((belowA w _).mono hB)
    obtain ⟨v1, w1, hrun, ho1, hg1, hat⟩ := Cells.append (P := Tryz.prog) (t := 23) (ty := 23) Tryz.underlying23 addr_info52 rfl (by omega) hown (hx1.more (B' := (w.alloc (.cells #[] 42)).heap.size) (by simp; omega)) h1 (by simp only [maxLen]; omega) (by omega) (by simp)
    rw [Nat.zero_add, List.nil_append] at ho1
    have HR := Lib.hid hrun
    have HB := Lib.hid (((Below.refl w.heap.size w).alloc (Nat.le_refl _) _).grown hg1 (by simp) (by simp [Value.ownBlock]))
    obtain ⟨A2, c2, rfl⟩ := own_form ho1
    have HO := Lib.hid ho1
    clear hrun hg1 hat ho1 hown hx1 hx h1
    go_enter Tryz.func54, Tryz.ntmps54
    go_wp2_with (at_builtin; refine wpList_append_run rfl _ _ _ rfl rfl rfl HR.out ?_)
    go_ret
    exact ⟨A2, c2, rfl, HO.out, HB.out⟩
theorem hop_info52 : (Tryz.prog.info? 81).map (fun i => (i.zero, i.size, i.bytes)) = some (some (.agg #[.int .i64 0, .int .u32 0, .int .u32 0]), 3, 16) := by kernel_rfl
set_option maxHeartbeats 1000000 in
theorem hop_clone_any (A : Option Addr) (n c B : Nat) (vs : List Value) (w : World) (hx : Cells w B 3 A n c vs) (hB : B ≤ w.heap.size) (h1 : ∀ u ∈ vs, u.oneCell' = true) (hn : n ≤ 1000000) :
    Calls Tryz.prog 56 #[.slice A n c] w (GivesRow 81 3 n vs w) := by
  rcases A with _ | ad
  · have h0 : n = 0 := by
      rcases Nat.eq_zero_or_pos n with h | h
      · exact h
      · obtain ⟨_, _, h, _⟩ := hx.2.2.2 h
        cases h
    subst h0
    obtain rfl : vs = [] := List.eq_nil_of_length_eq_zero (by simpa using hx.2.2.1)
    have hc : c ≤ maxLen := hx.2.1
    have he := Lib.run_eql_slice_nil (P := Tryz.prog) w 27 81 none 0 c 0 0 Tryz.underlying27
    clear hx
    go_enter Tryz.func56, Tryz.ntmps56
    go_wp2
    go_ret
    exact ⟨none, 0, rfl, World.ownsRow_nil _ _ _ _, Below.refl _ _⟩
  · have he := Lib.run_eql_slice_nil (P := Tryz.prog) w 27 81 (some ad) n c 0 0 Tryz.underlying27
    have hown : (w.alloc (.cells #[] 81)).ownsRow w.heap.size 81 3 (.slice (some ⟨w.heap.size, 0, none⟩) 0 0) 0 [] := World.ownsRow_lit w #[] 0 (Nat.le_refl _) (by simp [maxLen]) rfl
    have hx1 : Cells (w.alloc (.cells #[] 81)) B 3 (some ad) n c vs := hx.below ((belowA w _).mono hB)
    obtain ⟨v1, w1, hrun, ho1, hg1, hat⟩ := Cells.append (P := Tryz.prog) (t := 27) (ty := 27) Tryz.underlying27 hop_info52 rfl (by omega) hown (hx1.more (B' := (w.alloc (.cells #[] 81)).heap.size) (by simp; omega)) h1 (by simp only [maxLen]; omega) (by omega) (by simp)
    rw [Nat.zero_add, List.nil_append] at ho1
    have HR := Lib.hid hrun
    have HB := Lib.hid (((Below.refl w.heap.size w).alloc (Nat.le_refl _) _).grown hg1 (by simp) (by simp [Value.ownBlock]))
    obtain ⟨A2, c2, rfl⟩ := own_form ho1
    have HO := Lib.hid ho1
    clear hrun hg1 hat ho1 hown hx1 hx h1
    go_enter Tryz.func56, Tryz.ntmps56
    go_wp2_with (at_builtin; refine wpList_append_run rfl _ _ _ rfl rfl rfl HR.out ?_)
    go_ret
    exact ⟨A2, c2, rfl, HO.out, HB.out⟩
theorem lent_info52 : (Tryz.prog.info? 84).map (fun i => (i.zero, i.size, i.bytes)) = some (some (.agg #[.int .i64 0, .slice none 0 0]), 2, 32) := by kernel_rfl
set_option maxHeartbeats 1000000 in
theorem lent_clone_any (A : Option Addr) (n c B : Nat) (vs : List Value) (w : World) (hx : Cells w B 2 A n c vs) (hB : B ≤ w.heap.size) (h1 : ∀ u ∈ vs, u.oneCell' = true) (hn : n ≤ 1000000) :
    Calls Tryz.prog 88 #[.slice A n c] w (GivesRow 84 2 n vs w) := by
  rcases A with _ | ad
  · have h0 : n = 0 := by
      rcases Nat.eq_zero_or_pos n with h | h
      · exact h
      · obtain ⟨_, _, h, _⟩ := hx.2.2.2 h
        cases h
    subst h0
    obtain rfl : vs = [] := List.eq_nil_of_length_eq_zero (by simpa using hx.2.2.1)
    have hc : c ≤ maxLen := hx.2.1
    have he := Lib.run_eql_slice_nil (P := Tryz.prog) w 25 84 none 0 c 0 0 Tryz.underlying25
    clear hx
    go_enter Tryz.func88, Tryz.ntmps88
    go_wp2
    go_ret
    exact ⟨none, 0, rfl, World.ownsRow_nil _ _ _ _, Below.refl _ _⟩
  · have he := Lib.run_eql_slice_nil (P := Tryz.prog) w 25 84 (some ad) n c 0 0 Tryz.underlying25
    have hown : (w.alloc (.cells #[] 84)).ownsRow w.heap.size 84 2 (.slice (some ⟨w.heap.size, 0, none⟩) 0 0) 0 [] := World.ownsRow_lit w #[] 0 (Nat.le_refl _) (by simp [maxLen]) rfl
    have hx1 : Cells (w.alloc (.cells #[] 84)) B 2 (some ad) n c vs := hx.below ((belowA w _).mono hB)
    obtain ⟨v1, w1, hrun, ho1, hg1, hat⟩ := Cells.append (P := Tryz.prog) (t := 25) (ty := 25) Tryz.underlying25 lent_info52 rfl (by omega) hown (hx1.more (B' := (w.alloc (.cells #[] 84)).heap.size) (by simp; omega)) h1 (by simp only [maxLen]; omega) (by omega) (by simp)
    rw [Nat.zero_add, List.nil_append] at ho1
    have HR := Lib.hid hrun
    have HB := Lib.hid (((Below.refl w.heap.size w).alloc (Nat.le_refl _) _).grown hg1 (by simp) (by simp [Value.ownBlock]))
    obtain ⟨A2, c2, rfl⟩ := own_form ho1
    have HO := Lib.hid ho1
    clear hrun hg1 hat ho1 hown hx1 hx h1
    go_enter Tryz.func88, Tryz.ntmps88
    go_wp2_with (at_builtin; refine wpList_append_run rfl _ _ _ rfl rfl rfl HR.out ?_)
    go_ret
    exact ⟨A2, c2, rfl, HO.out, HB.out⟩
theorem lhop_info52 : (Tryz.prog.info? 105).map (fun i => (i.zero, i.size, i.bytes)) = some (some (.agg #[.int .u32 0, .int .i64 0]), 2, 16) := by kernel_rfl
set_option maxHeartbeats 1000000 in
theorem lhop_clone_any (A : Option Addr) (n c B : Nat) (vs : List Value) (w : World) (hx : Cells w B 2 A n c vs) (hB : B ≤ w.heap.size) (h1 : ∀ u ∈ vs, u.oneCell' = true) (hn : n ≤ 1000000) :
    Calls Tryz.prog 89 #[.slice A n c] w (GivesRow 105 2 n vs w) := by
  rcases A with _ | ad
  · have h0 : n = 0 := by
      rcases Nat.eq_zero_or_pos n with h | h
      · exact h
      · obtain ⟨_, _, h, _⟩ := hx.2.2.2 h
        cases h
    subst h0
    obtain rfl : vs = [] := List.eq_nil_of_length_eq_zero (by simpa using hx.2.2.1)
    have hc : c ≤ maxLen := hx.2.1
    have he := Lib.run_eql_slice_nil (P := Tryz.prog) w 69 105 none 0 c 0 0 Tryz.underlying69
    clear hx
    go_enter Tryz.func89, Tryz.ntmps89
    go_wp2
    go_ret
    exact ⟨none, 0, rfl, World.ownsRow_nil _ _ _ _, Below.refl _ _⟩
  · have he := Lib.run_eql_slice_nil (P := Tryz.prog) w 69 105 (some ad) n c 0 0 Tryz.underlying69
    have hown : (w.alloc (.cells #[] 105)).ownsRow w.heap.size 105 2 (.slice (some ⟨w.heap.size, 0, none⟩) 0 0) 0 [] := World.ownsRow_lit w #[] 0 (Nat.le_refl _) (by simp [maxLen]) rfl
    have hx1 : Cells (w.alloc (.cells #[] 105)) B 2 (some ad) n c vs := hx.below ((belowA w _).mono hB)
    obtain ⟨v1, w1, hrun, ho1, hg1, hat⟩ := Cells.append (P := Tryz.prog) (t := 69) (ty := 69) Tryz.underlying69 lhop_info52 rfl (by omega) hown (hx1.more (B' := (w.alloc (.cells #[] 105)).heap.size) (by simp; omega)) h1 (by simp only [maxLen]; omega) (by omega) (by simp)
    rw [Nat.zero_add, List.nil_append] at ho1
    have HR := Lib.hid hrun
    have HB := Lib.hid (((Below.refl w.heap.size w).alloc (Nat.le_refl _) _).grown hg1 (by simp) (by simp [Value.ownBlock]))
    obtain ⟨A2, c2, rfl⟩ := own_form ho1
    have HO := Lib.hid ho1
    clear hrun hg1 hat ho1 hown hx1 hx h1
    go_enter Tryz.func89, Tryz.ntmps89
    go_wp2_with (at_builtin; refine wpList_append_run rfl _ _ _ rfl rfl rfl HR.out ?_)
    go_ret
    exact ⟨A2, c2, rfl, HO.out, HB.out⟩
end Go.Proofs.YtplppbgkkfjknaaGreatDoor
namespace Go.Proofs.YtplppbgkkfjknaaGreatDoor
open Go.RowKit

set_option linter.unusedVariables false
set_option linter.unusedSimpArgs false
/-- a row of label rows of the call's own in block g, with hops that lie elsewhere -/
structure OwnE (w : World) (base g n c : Nat) (es : List EV) : Prop where
  row : w.ownsRow base 84 2 (.slice (some ⟨g, 0, none⟩) n c) n (es.flatMap EV.vals)
  len : es.length = n
  hops : ∀ e ∈ es, Hops w w.heap.size e.A e.n e.c e.hs ∧ Apart g e.A e.n
theorem OwnE.below {w w' : World} {base g n c : Nat} {es : List EV} (h : OwnE w base g n c es) (hb : Below w.heap.size w w') : OwnE w' base g n c es :=
  ⟨row_below h.row hb, h.len, fun e he => ⟨((h.hops e he).1.below hb).more hb.size, (h.hops e he).2⟩⟩
theorem OwnE.tab {w : World} {base g n c : Nat} {es : List EV} (h : OwnE w base g n c es) : Tab w w.heap.size (some ⟨g, 0, none⟩) n c es := ⟨⟨Cells.of_own h.row, h.len⟩, fun e he => (h.hops e he).1⟩
theorem OwnE.lt {w : World} {base g n c : Nat} {es : List EV} (h : OwnE w base g n c es) : base ≤ g ∧ g < w.heap.size := h.row.lt g rfl
theorem OwnE.frozen {w : World} {base g n c : Nat} {es : List EV} (h : OwnE w base g n c es) (j : Nat) : w.frozen? ⟨g, j, none⟩ = false := World.ownsRow.frozenAt h.row j
theorem flat_setE {f : EV → List Value} (hf : ∀ r, (f r).length = 2) : ∀ {ps : List EV} {j k : Nat} {p q : EV} {v : Value}, ps[j]? = some p → f q = (f p).set k v → k < 2 → (ps.set j q).flatMap f = (ps.flatMap f).set (j * 2 + k) v
  | [], j, k, p, q, v, h, _, _ => by simp at h
  | x :: ps, 0, k, p, q, v, h, hq, hk => by
    simp only [List.getElem?_cons_zero, Option.some.injEq] at h
    subst h
    rw [List.set_cons_zero, List.flatMap_cons, List.flatMap_cons, hq, Nat.zero_mul, Nat.zero_add, List.set_append_left _ _ (by rw [hf]; exact hk)]
  | x :: ps, j + 1, k, p, q, v, h, hq, hk => by
    simp only [List.getElem?_cons_succ] at h
    rw [List.set_cons_succ, List.flatMap_cons, List.flatMap_cons, flat_setE hf h hq hk, List.set_append_right _ _ (by rw [hf]; omega), hf]
    congr 2
    omega
/-- the hops of one label row are written -/
theorem OwnE.setHops {w : World} {base g n c : Nat} {es : List EV} (h : OwnE w base g n c es) {j : Nat} {p : EV} (hp : es[j]? = some p) (A : Option Addr) (m d : Nat) (hs : List HV) (hi : Hops w w.heap.size A m d hs) (ha : Apart g A m) :
    OwnE (w.setCell ⟨g, j * 2 + 1, none⟩ (.slice A m d)) base g n c (es.set j { p with A := A, n := m, c := d, hs := hs }) := by
  have hsv : Save g w (w.setCell ⟨g, j * 2 + 1, none⟩ (.slice A m d)) := Save.set
  have hsz : (w.setCell ⟨g, j * 2 + 1, none⟩ (.slice A m d)).heap.size = w.heap.size := by simp [World.setCell]
  refine ⟨?_, by rw [List.length_set]; exact h.len, fun r hr => ?_⟩
  · rw [flat_setE EV.vals_len hp (v := .slice A m d) (k := 1) rfl (by omega)]
    exact (World.ownsRow.stored h.row (j * 2 + 1) (.slice A m d)).1
  · rw [hsz]
    rcases List.mem_or_eq_of_mem_set hr with hr | rfl
    · exact ⟨⟨cells_save (h.hops r hr).1.1 hsv (Nat.le_refl _) (h.hops r hr).2, (h.hops r hr).1.2⟩, (h.hops r hr).2⟩
    · exact ⟨⟨cells_save hi.1 hsv (Nat.le_refl _) ha, hi.2⟩, ha⟩
end Go.Proofs.YtplppbgkkfjknaaGreatDoor
namespace Go.Proofs.YtplppbgkkfjknaaGreatDoor
open Go.RowKit

set_option linter.unusedVariables false
set_option linter.unusedSimpArgs false
def EV.dat (e : EV) : Int × List HV := (e.inn, e.hs)
def GivesEnts (n : Nat) (ds : List (Int × List HV)) (w : World) (e : Ending) (w' : World) : Prop :=
  ∃ A c qs, e = .returned (.slice A n c) ∧ (0 < n → ∃ g, A = some ⟨g, 0, none⟩ ∧ OwnE w' w.heap.size g n c qs) ∧ Tab w' w'.heap.size A n c qs ∧ qs.map EV.dat = ds ∧ Below w.heap.size w w'
theorem ev_one (es : List EV) : ∀ u ∈ es.flatMap EV.vals, u.oneCell' = true := by
  intro u hu
  obtain ⟨e, _, he⟩ := List.mem_flatMap.1 hu
  unfold EV.vals at he
  simp only [List.mem_cons, List.not_mem_nil, or_false] at he
  rcases he with rfl | rfl <;> rfl
theorem hv_one (es : List HV) : ∀ u ∈ es.flatMap HV.vals, u.oneCell' = true := by
  intro u hu
  obtain ⟨e, _, he⟩ := List.mem_flatMap.1 hu
  unfold HV.vals at he
  simp only [List.mem_cons, List.not_mem_nil, or_false] at he
  rcases he with rfl | rfl <;> rfl
def EntI (w : World) (g n c : Nat) (ds : List (Int × List HV)) (iv : Value) (W : World) : Prop :=
  ∃ (k : Nat) (qs : List EV), k ≤ n ∧ iv = .int .i64 k ∧ Hid (OwnE W w.heap.size g n c qs) ∧ Hid (qs.map EV.dat = ds) ∧ Hid (∀ p ∈ qs, p.n ≤ 1000) ∧ Hid (Below w.heap.size w W)
set_option maxRecDepth 100000 in
set_option maxHeartbeats 4000000 in
theorem cloneEnts_any (A : Option Addr) (n c : Nat) (es : List EV) (w : World) (hx : Tab w w.heap.size A n c es) (hn : n ≤ 1000) (hh : ∀ e ∈ es, e.n ≤ 1000) :
    Calls Tryz.prog 55 #[.slice A n c] w (GivesEnts n (es.map EV.dat) w) := by
  have HX := Lib.hid hx
  have HH := Lib.hid hh
  have HL : Hid (es.length = n) := hx.1.2
  have HC := Lib.hid (lent_clone_any A n c w.heap.size (es.flatMap EV.vals) w hx.1.1 (Nat.le_refl _) (ev_one es) (by omega))
  clear hx hh
  go_enter Tryz.func55, Tryz.ntmps55
  go_wp2_with fail
  refine HC.out.mono ?_
  rintro e w2 ⟨A2, c2, rfl, ho, hb⟩
  have HB := Lib.hid hb
  have HO := Lib.hid ho
  clear HC hb
  rcases Nat.eq_zero_or_pos n with h0 | h0
  · subst h0
    have he : es = [] := List.length_eq_zero_iff.1 HL.out
    subst he
    clear ho
    go_wp2
    go_loopw [9] (fun iv wr => iv = .int .i64 0 ∧ wr = w2) (fun _ _ => 0)
    case atStart => exact ⟨rfl, rfl⟩
    case round =>
      obtain ⟨rfl, rfl⟩ := hrel
      go_wp2
      go_ret
      exact ⟨A2, c2, [], rfl, fun h => absurd h (by omega), ⟨⟨Cells.of_own HO.out, rfl⟩, fun e he => by cases he⟩, rfl, HB.out⟩
  obtain ⟨g, hg⟩ : ∃ g, A2 = some ⟨g, 0, none⟩ := by
    rcases ho.2 with ⟨_, h2⟩ | ⟨q, cap, cur, hv, _⟩
    · omega
    · injection hv with hv
      exact ⟨q, hv⟩
  subst hg
  have hgl := World.ownsRow.lt ho g rfl
  have hI : EntI w g n c2 (es.map EV.dat) (.int .i64 (0 : Nat)) w2 := by
    refine ⟨0, es, Nat.zero_le _, rfl, ⟨HO.out, HL.out, fun e he => ⟨Recs.more (Recs.below (HX.out.2 e he) HB.out) HB.out.size, fun hn ad e2 => ?_⟩⟩, rfl, HH.out, HB⟩
    obtain ⟨b, o, e3, hb3, _⟩ := (HX.out.2 e he).1.2.2.2 (by omega)
    rw [e2] at e3
    injection e3 with e3
    subst e3
    show b ≠ g
    omega
  have HI := Lib.hid hI
  clear hI ho
  go_wp2
  go_loopw [9] (fun iv wr => EntI w g n c2 (es.map EV.dat) iv wr) (fun iv _ => n - (intOf iv).toNat)
  case atStart => exact HI.out
  case round =>
    obtain ⟨k, qs, hk, rfl, hO, hD, hS, hB⟩ := hrel
    clear HI hgl
    obtain ⟨hg1, hg2⟩ := hO.out.lt
    by_cases hlt : k < n
    case neg =>
      obtain rfl : k = n := by omega
      go_wp2
      go_ret
      exact ⟨some ⟨g, 0, none⟩, c2, qs, rfl, fun _ => ⟨g, rfl, hO.out⟩, hO.out.tab, hD.out, hB.out⟩
    obtain ⟨b, o, p, hA, _, hpk, hph, c0, c1⟩ := hO.out.tab.get hlt
    injection hA with hA
    injection hA with hA1 hA2
    subst hA1 hA2
    rw [Nat.zero_add] at c0 c1
    have HP := Lib.hid hpk
    have hpn := hS.out p (List.mem_of_getElem? hpk)
    have HC := Lib.hid (lhop_clone_any p.A p.n p.c wr.heap.size (p.hs.flatMap HV.vals) wr hph.1 (Nat.le_refl _) (hv_one p.hs) (by omega))
    have HPL : Hid (p.hs.length = p.n) := hph.2
    have hf := hO.out.frozen (k * 2 + 1)
    clear hpk hph
    go_wp2_with fail
    refine HC.out.mono ?_
    rintro e w4 ⟨A4, c4, rfl, ho4, hb4⟩
    have HO4 := Lib.hid (hO.out.below hb4)
    have HB4 := Lib.hid (below3 hB.out hb4)
    have HH4 : Hid (Hops w4 w4.heap.size A4 p.n c4 p.hs) := ⟨Cells.of_own ho4, HPL.out⟩
    have HAP : Hid (Apart g A4 p.n) := fun hn ad e => by
      have := (World.ownsRow.lt ho4 ad.block (by rw [e]; rfl)).1
      omega
    have hf4 := HO4.out.frozen (k * 2 + 1)
    have hg4 := HO4.out.lt.2
    have d1 : w4.cell? ⟨g, k * 2 + 1, none⟩ = some (.slice p.A p.n p.c) := (hb4.cell (p := ⟨g, k * 2 + 1, none⟩) hg2).trans c1
    have HN : Hid (OwnE (w4.setCell ⟨g, k * 2 + 1, none⟩ (.slice A4 p.n c4)) w.heap.size g n c2 (qs.set k { p with A := A4, n := p.n, c := c4, hs := p.hs })) := HO4.out.setHops HP.out A4 p.n c4 p.hs HH4.out HAP.out
    have HBN : Hid (Below w.heap.size w (w4.setCell ⟨g, k * 2 + 1, none⟩ (.slice A4 p.n c4))) := HB4.out.trans ((Save.set (g := g) (w := w4)).below hg1 HB4.out.size)
    have HDN : Hid ((qs.set k { p with A := A4, n := p.n, c := c4, hs := p.hs }).map EV.dat = es.map EV.dat) := by
      show _ = _
      rw [List.map_set, ← hD.out]
      apply List.ext_getElem?
      intro j
      rw [List.getElem?_set]
      split
      · rename_i h
        subst h
        rw [List.length_map, if_pos (by have h := (List.getElem?_eq_some_iff.1 HP.out).1; exact h), List.getElem?_map, HP.out]
        rfl
      · rfl
    have HSN : Hid (∀ q ∈ qs.set k { p with A := A4, n := p.n, c := c4, hs := p.hs }, q.n ≤ 1000) := by
      intro q hq
      rcases List.mem_or_eq_of_mem_set hq with hq | rfl
      · exact hS.out q hq
      · exact hpn
    clear HC ho4 hb4 c0 c1 hf
    go_wp2
    go_roundw
    case rel => exact ⟨k + 1, _, by omega, by go_num, HN, HDN, HSN, HBN⟩
    case measure => simp [intOf]; omega
end Go.Proofs.YtplppbgkkfjknaaGreatDoor
namespace Go.Proofs.YtplppbgkkfjknaaGreatDoor
open Go.RowKit

set_option linter.unusedVariables false
set_option linter.unusedSimpArgs false
def pathOf (os : List LO) (h : XH) : PV := ⟨h.iface, h.addr, h.router, h.weight, none, (labelR h.va h.vl h.router os).length, 0, labelR h.va h.vl h.router os, -1⟩
def backOf (os : List LO) (h : XH) (x : PV) : PV := ⟨x.iface, x.addr, x.router, h.weight, none, (labelR h.va h.vl x.router os).length, 0, labelR h.va h.vl x.router os, -1⟩
def hopAtX (hs : List XH) (i : Nat) : XH := (hs[i]?).getD ⟨0, 0, 0, 0, 0, 0⟩
def addBack (bs : List BK) (os : List LO) (ps : List PV) (i : Nat) (h : XH) : List PV :=
  match backR h.va h.vl h.router bs with
  | some x => if 64 ≤ ps.length then ps else (ps.set i { (ps[i]?).getD (pathOf os h) with backup := ps.length }) ++ [backOf os h x]
  | none => ps
/-- the paths after the backups of the first k hops -/
def grpTo (bs : List BK) (os : List LO) (hs : List XH) : Nat → List PV
  | 0 => hs.map (pathOf os)
  | k + 1 => addBack bs os (grpTo bs os hs k) k (hopAtX hs k)
/-- the paths of the group of a route (as data) -/
def groupR (bs : List BK) (os : List LO) (hs : List XH) : List PV := grpTo bs os hs hs.length
theorem PRow.save {w w' : World} {base n g : Nat} {v : Value} {ps : List PV} (h : PRow w base v n ps) (hs : Save g w w') (hg : g < base) : PRow w' base v n ps := by
  refine ⟨row_save h.row hs fun e => ?_, h.len, fun p hp => ⟨(ints_save (h.labs p hp).1 hs (Nat.le_refl _) fun hn ad e => ?_).more hs.size, (h.labs p hp).2⟩⟩
  · have := World.ownsRow.lt h.row _ e
    omega
  · have := ((h.labs p hp).2 hn ad e).1
    omega
theorem PRow.form {w : World} {base n c : Nat} {A : Option Addr} {ps : List PV} (h : PRow w base (.slice A n c) n ps) (hn : 0 < n) : ∃ g, A = some ⟨g, 0, none⟩ ∧ base ≤ g ∧ g < w.heap.size := by
  obtain ⟨g, cap, hv, hg⟩ := World.ownsRow.form h.row hn
  simp only [Value.slice.injEq, true_and] at hv
  obtain ⟨rfl, rfl⟩ := hv
  have := World.ownsRow.lt h.row g rfl
  exact ⟨g, rfl, this.1, this.2⟩
theorem PRow.frozen {w : World} {base n c g : Nat} {ps : List PV} (h : PRow w base (.slice (some ⟨g, 0, none⟩) n c) n ps) (j : Nat) : w.frozen? ⟨g, j, none⟩ = false := World.ownsRow.frozenAt h.row j
theorem PRow.get {w : World} {base n c g : Nat} {ps : List PV} (h : PRow w base (.slice (some ⟨g, 0, none⟩) n c) n ps) {j : Nat} {p : PV} (hp : ps[j]? = some p) {k : Nat} (hk : k < 6) : w.cell? ⟨g, j * 6 + k, none⟩ = p.vals[k]? := by
  have hj : j < n := by
    rw [← h.len]
    exact (List.getElem?_eq_some_iff.1 hp).1
  rw [World.ownsRow.cellAt h.row (j * 6 + k) (by omega), flat_get PV.vals_len hp hk]
theorem PRow.paths {w : World} {base n c : Nat} {A : Option Addr} {ps : List PV} (h : PRow w base (.slice A n c) n ps) : Paths w w.heap.size A n c ps := ⟨⟨Cells.of_own h.row, h.len⟩, fun p hp => (h.labs p hp).1⟩
/-- the backup of one path is written -/
theorem PRow.setBackup {w : World} {base n c g : Nat} {ps : List PV} (h : PRow w base (.slice (some ⟨g, 0, none⟩) n c) n ps) {j : Nat} {p : PV} (hp : ps[j]? = some p) (x : Int) :
    PRow (w.setCell ⟨g, j * 6 + 5, none⟩ (.int .i64 x)) base (.slice (some ⟨g, 0, none⟩) n c) n (ps.set j { p with backup := x }) := by
  have hsv : Save g w (w.setCell ⟨g, j * 6 + 5, none⟩ (.int .i64 x)) := Save.set
  have hsz : (w.setCell ⟨g, j * 6 + 5, none⟩ (.int .i64 x)).heap.size = w.heap.size := by simp [World.setCell]
  have key : ∀ q ∈ ps, Ints (w.setCell ⟨g, j * 6 + 5, none⟩ (.int .i64 x)) w.heap.size .i64 q.A q.ln q.lc q.ls ∧ (0 < q.ln → ∀ ad, q.A = some ad → base ≤ ad.block ∧ (Value.slice (some ⟨g, 0, none⟩) n c).ownBlock ≠ some ad.block) := fun q hq =>
    ⟨ints_save (h.labs q hq).1 hsv (Nat.le_refl _) fun hn ad e => (fun e2 => ((h.labs q hq).2 hn ad e).2 (by rw [e2]; rfl)), (h.labs q hq).2⟩
  refine ⟨?_, by rw [List.length_set]; exact h.len, fun r hr => ?_⟩
  · rw [flat_set PV.vals_len hp (q := { p with backup := x }) (v := .int .i64 x) (k := 5) rfl (by omega)]
    exact (World.ownsRow.stored h.row (j * 6 + 5) (.int .i64 x)).1
  · rw [hsz]
    rcases List.mem_or_eq_of_mem_set hr with hr | rfl
    · exact key r hr
    · exact key p (List.mem_of_getElem? hp)
theorem set_dat {ps : List PV} {j : Nat} {p : PV} (hp : ps[j]? = some p) (x : Int) : (ps.set j { p with backup := x }).map PV.dat = (ps.map PV.dat).set j { p.dat with backup := x } := by
  rw [List.map_set]
  rfl
theorem addBack_len (bs : List BK) (os : List LO) (ps : List PV) (i : Nat) (h : XH) : ps.length ≤ (addBack bs os ps i h).length ∧ (addBack bs os ps i h).length ≤ ps.length + 1 := by
  unfold addBack
  split
  · split
    · omega
    · rw [List.length_append, List.length_set]
      simp
  · omega
theorem grpTo_len (bs : List BK) (os : List LO) (hs : List XH) : ∀ k, hs.length ≤ (grpTo bs os hs k).length ∧ (grpTo bs os hs k).length ≤ hs.length + k
  | 0 => by unfold grpTo; simp
  | k + 1 => by
    have := grpTo_len bs os hs k
    have h2 := addBack_len bs os (grpTo bs os hs k) k (hopAtX hs k)
    rw [grpTo]
    omega
end Go.Proofs.YtplppbgkkfjknaaGreatDoor
