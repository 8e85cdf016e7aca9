/- balance.clone returns a group in new memory with the same numbers and labels. balance.clone returns a group in new memory with the same numbers and labels: the walk. balance.Fail: what it returns of a group. -/
import Derived.Test.YtplppbgkkfjknaaGreatDoorG6
import Derived.Deep.RegionHeld3
import Derived.Deep.RegionWith
import Derived.BigRegion
namespace Go.Proofs.YtplppbgkkfjknaaGreatDoor
open Go.RowKit
set_option maxRecDepth 100000

theorem path_info : (Tryz.prog.info? 57).map (fun i => (i.zero, i.size, i.bytes)) = some (some (.agg #[.int .i64 0, .int .u32 0, .int .u32 0, .int .i64 0, .slice none 0 0, .int .i64 0]), 6, 56) := by kernel_rfl
theorem vals_one (ps : List PV) : ∀ u ∈ ps.flatMap PV.vals, u.oneCell' = true := by
  intro u hu
  obtain ⟨p, _, hp⟩ := List.mem_flatMap.1 hu
  simp only [PV.vals, List.mem_cons, List.not_mem_nil, or_false] at hp
  rcases hp with rfl | rfl | rfl | rfl | rfl | rfl <;> rfl

/-- a slice of paths of the call's own, or an empty one -/
def GivesPaths (n : Nat) (ps : List PV) (w : World) (e : Ending) (w' : World) : Prop :=
  ∃ A c, e = .returned (.slice A n c) ∧ (0 < n → ∃ g, A = some ⟨g, 0, none⟩ ∧ w'.ownsRow w.heap.size 57 6 (.slice (some ⟨g, 0, none⟩) n c) n (ps.flatMap PV.vals)) ∧ n ≤ c ∧ c ≤ maxLen ∧ Below w.heap.size w w'

set_option maxHeartbeats 400000 in
theorem clonePaths_any (A : Option Addr) (n c : Nat) (ps : List PV) (w : World) (hx : Recs w w.heap.size 6 A n c PV.vals ps) (hn : n ≤ 1000) :
    Calls Tryz.prog 68 #[.slice A n c] w (GivesPaths n ps w) := by
  rcases A with _ | ad
  · have h0 : n = 0 := by
      rcases Nat.eq_zero_or_pos n with h | h
      · exact h
      · obtain ⟨_, _, h, _⟩ := hx.1.2.2.2 h
        cases h
    subst h0
    have he := Lib.run_eql_slice_nil (P := Tryz.prog) w 45 57 none 0 c 0 0 Tryz.underlying45
    clear hx
    go_enter Tryz.func68, Tryz.ntmps68
    go_wp2
    go_ret
    exact ⟨none, 0, rfl, fun h => absurd h (by omega), Nat.le_refl _, by simp [maxLen], Below.refl _ _⟩
  · have he := Lib.run_eql_slice_nil (P := Tryz.prog) w 45 57 (some ad) n c 0 0 Tryz.underlying45
    have hown : (w.alloc (.cells #[] 57)).ownsRow w.heap.size 57 6 (.slice (some ⟨w.heap.size, 0, none⟩) 0 0) 0 [] := World.ownsRow_lit w #[] 0 (Nat.le_refl _) (by simp [maxLen]) rfl
    have hx1 : Cells (w.alloc (.cells #[] 57)) w.heap.size 6 (some ad) n c (ps.flatMap PV.vals) := hx.1.keep fun p hp => World.cell?_alloc_lt w _ p (by omega)
    obtain ⟨v1, w1, hrun, ho1, hg1, hat⟩ := Cells.append (P := Tryz.prog) (t := 45) (ty := 45) Tryz.underlying45 path_info rfl (by omega) hown hx1 (vals_one ps) (by simp only [maxLen]; omega) (by omega) (by simp)
    rw [Nat.zero_add, List.nil_append] at ho1
    have HR := Lib.hid hrun
    have HB := Lib.hid (((Below.refl w.heap.size w).alloc (Nat.le_refl _) _).grown hg1 (by simp) (by simp [Value.ownBlock]))
    obtain ⟨A2, c2, rfl⟩ := own_form ho1
    have HO := Lib.hid ho1
    clear hrun hg1 hat ho1 hown hx1 hx
    go_enter Tryz.func68, Tryz.ntmps68
    go_wp2_with (at_builtin; refine wpList_append_run rfl _ _ _ rfl rfl rfl HR.out ?_)
    go_ret
    have hc := Cells.of_own HO.out
    refine ⟨A2, c2, rfl, fun h => ?_, hc.1, hc.2.1, HB.out⟩
    obtain ⟨g, cap, hv, hg⟩ := World.ownsRow.form HO.out h
    simp only [Value.slice.injEq, true_and] at hv
    obtain ⟨rfl, rfl⟩ := hv
    exact ⟨g, rfl, HO.out⟩

/-- the numbers and labels of a path, the labels' place forgotten -/
def PV.dat (p : PV) : PV := { p with A := none, ln := p.ls.length, lc := 0 }
/-- the block of a slice that is not empty is another one -/
def Apart (g : Nat) (A : Option Addr) (n : Nat) : Prop := 0 < n → ∀ ad, A = some ad → ad.block ≠ g
/-- a row of paths of the call's own in block g, with labels that lie elsewhere -/
structure OwnP (w : World) (base g n c : Nat) (ps : List PV) : Prop where
  row : w.ownsRow base 57 6 (.slice (some ⟨g, 0, none⟩) n c) n (ps.flatMap PV.vals)
  len : ps.length = n
  labs : ∀ p ∈ ps, Ints w w.heap.size .i64 p.A p.ln p.lc p.ls ∧ Apart g p.A p.ln
section
variable {w w' : World} {base g n c : Nat} {ps : List PV}
theorem OwnP.paths (h : OwnP w base g n c ps) : Paths w w.heap.size (some ⟨g, 0, none⟩) n c ps := ⟨⟨Cells.of_own h.row, h.len⟩, fun p hp => (h.labs p hp).1⟩
theorem OwnP.lt (h : OwnP w base g n c ps) : base ≤ g ∧ g < w.heap.size := h.row.lt g rfl
theorem OwnP.below (h : OwnP w base g n c ps) (hb : Below w.heap.size w w') : OwnP w' base g n c ps := by
  refine ⟨?_, h.len, fun p hp => ⟨((h.labs p hp).1.below hb).more hb.size, (h.labs p hp).2⟩⟩
  obtain ⟨h1, h2⟩ := h.row
  refine ⟨h1, ?_⟩
  rcases h2 with h2 | ⟨g', cap, cur, hv, hg, hh, r⟩
  · exact .inl h2
  · refine .inr ⟨g', cap, cur, hv, hg, ?_, r⟩
    rw [hb.block g' ?_]
    · exact hh
    · rcases Nat.lt_or_ge g' w.heap.size with hl | hl
      · exact hl
      · rw [Array.getElem?_eq_none hl] at hh
        cases hh
theorem OwnP.get (h : OwnP w base g n c ps) {j : Nat} {p : PV} (hp : ps[j]? = some p) :
    w.cell? ⟨g, j * 6, none⟩ = some (.int .i64 p.iface) ∧ w.cell? ⟨g, j * 6 + 1, none⟩ = some (.int .u32 p.addr) ∧ w.cell? ⟨g, j * 6 + 2, none⟩ = some (.int .u32 p.router) ∧
      w.cell? ⟨g, j * 6 + 3, none⟩ = some (.int .i64 p.weight) ∧ w.cell? ⟨g, j * 6 + 4, none⟩ = some (.slice p.A p.ln p.lc) ∧ w.cell? ⟨g, j * 6 + 5, none⟩ = some (.int .i64 p.backup) := by
  have hj : j < n := by
    rw [← h.len]
    exact (List.getElem?_eq_some_iff.1 hp).1
  have hk : ∀ k, k < 6 → w.cell? ⟨g, j * 6 + k, none⟩ = p.vals[k]? := by
    intro k hk
    rw [World.ownsRow.cellAt h.row (j * 6 + k) (by omega), flat_get PV.vals_len hp hk]
  exact ⟨hk 0 (by omega), hk 1 (by omega), hk 2 (by omega), hk 3 (by omega), hk 4 (by omega), hk 5 (by omega)⟩
theorem OwnP.frozen (h : OwnP w base g n c ps) (j : Nat) : w.frozen? ⟨g, j, none⟩ = false := World.ownsRow.frozenAt h.row j
theorem Ints.setApart {B : Nat} {k : IntKind} {A : Option Addr} {m d : Nat} {xs : List Int} (h : Ints w B k A m d xs) (ha : Apart g A m) (j : Nat) (v : Value) : Ints (w.setCell ⟨g, j, none⟩ v) B k A m d xs := by
  refine ⟨h.1, h.2.1, h.2.2.1, fun hm => ?_⟩
  obtain ⟨b, o, e, hb, hc⟩ := h.2.2.2 hm
  have hne : b ≠ g := ha hm _ e
  exact ⟨b, o, e, hb, fun i hi => by
    rw [World.cell?_setCell_other w _ _ _ (fun he => hne (by injection he with he; exact he.symm))]
    exact hc i hi⟩
theorem flat_set {f : PV → List Value} (hf : ∀ r, (f r).length = 6) : ∀ {ps : List PV} {j k : Nat} {p q : PV} {v : Value}, ps[j]? = some p → f q = (f p).set k v → k < 6 → (ps.set j q).flatMap f = (ps.flatMap f).set (j * 6 + k) v
  | [], j, k, p, q, v, h, _, _ => by simp at h
  | x :: ps, 0, k, p, q, v, h, hq, hk => by
    simp only [List.getElem?_cons_zero, Option.some.injEq] at h
    subst h
    rw [List.set_cons_zero, List.flatMap_cons, List.flatMap_cons, hq, Nat.zero_mul, Nat.zero_add, List.set_append_left _ _ (by rw [hf]; exact hk)]
  | x :: ps, j + 1, k, p, q, v, h, hq, hk => by
    simp only [List.getElem?_cons_succ] at h
    rw [List.set_cons_succ, List.flatMap_cons, List.flatMap_cons, flat_set hf h hq hk, List.set_append_right _ _ (by rw [hf]; omega), hf]
    congr 2
    omega
/-- one cell of one path is written -/
theorem OwnP.set (h : OwnP w base g n c ps) {j k : Nat} {p q : PV} {v : Value} (hp : ps[j]? = some p) (hq : q.vals = p.vals.set k v) (hk : k < 6) (hi : Ints w w.heap.size .i64 q.A q.ln q.lc q.ls) (ha : Apart g q.A q.ln) :
    OwnP (w.setCell ⟨g, j * 6 + k, none⟩ v) base g n c (ps.set j q) := by
  refine ⟨?_, by rw [List.length_set]; exact h.len, fun r hr => ?_⟩
  · rw [flat_set PV.vals_len hp hq hk]
    exact (World.ownsRow.stored h.row (j * 6 + k) v).1
  · have hsz : (w.setCell ⟨g, j * 6 + k, none⟩ v).heap.size = w.heap.size := by simp [World.setCell]
    rw [hsz]
    rcases List.mem_or_eq_of_mem_set hr with hr | rfl
    · exact ⟨(h.labs r hr).1.setApart (h.labs r hr).2 _ _, (h.labs r hr).2⟩
    · exact ⟨hi.setApart ha _ _, ha⟩
end
end Go.Proofs.YtplppbgkkfjknaaGreatDoor
namespace Go.Proofs.YtplppbgkkfjknaaGreatDoor
open Go.RowKit
set_option maxRecDepth 100000

/-- the labels lie in memory made since -/
def FreshL (B : Nat) (p : PV) : Prop := 0 < p.ln → ∀ ad, p.A = some ad → B ≤ ad.block
/-- a group in new memory -/
def GivesGroup (act : Int) (n : Nat) (ds : List PV) (w : World) (e : Ending) (w' : World) : Prop :=
  ∃ A c qs, e = .returned (.agg #[.int .i64 act, .slice A n c]) ∧ (0 < n → ∃ g, A = some ⟨g, 0, none⟩ ∧ OwnP w' w.heap.size g n c qs) ∧ Paths w' w'.heap.size A n c qs ∧ qs.map PV.dat = ds ∧ (∀ p ∈ qs, FreshL w.heap.size p) ∧ Below w.heap.size w w'

/-- every label list is short enough for memory -/
def Short (ps : List PV) : Prop := ∀ p ∈ ps, p.ln ≤ 17592186044416

/-- the world in the midst of clone's loop -/
structure CInv (w wr : World) (act : Int) (g n c : Nat) (qs : List PV) : Prop where
  b0 : wr.cell? ⟨w.heap.size, 0, none⟩ = some (.int .i64 act)
  b1 : wr.cell? ⟨w.heap.size, 1, none⟩ = some (.slice (some ⟨g, 0, none⟩) n c)
  r0 : wr.cell? ⟨w.heap.size + 1, 0, none⟩ = some (.int .i64 0)
  r1 : wr.cell? ⟨w.heap.size + 1, 1, none⟩ = some (.slice none 0 0)
  f0 : wr.frozen? ⟨w.heap.size + 1, 0, none⟩ = false
  f1 : wr.frozen? ⟨w.heap.size + 1, 1, none⟩ = false
  own : OwnP wr (w.heap.size + 2) g n c qs
  ap : ∀ p ∈ qs, Apart (w.heap.size + 1) p.A p.ln
  bel : Below w.heap.size w wr
theorem CInv.below {w wr w' : World} {act : Int} {g n c : Nat} {qs : List PV} (h : CInv w wr act g n c qs) (hb : Below wr.heap.size wr w') : CInv w w' act g n c qs := by
  have h1 := h.own.lt
  have k : ∀ b o, b < wr.heap.size → w'.cell? ⟨b, o, none⟩ = wr.cell? ⟨b, o, none⟩ := fun b o hb' => hb.cell (p := ⟨b, o, none⟩) hb'
  have kf : ∀ b o, b < wr.heap.size → w'.frozen? ⟨b, o, none⟩ = wr.frozen? ⟨b, o, none⟩ := fun b o hb' => hb.frozen (p := ⟨b, o, none⟩) hb'
  exact ⟨(k _ _ (by omega)).trans h.b0, (k _ _ (by omega)).trans h.b1, (k _ _ (by omega)).trans h.r0, (k _ _ (by omega)).trans h.r1, (kf _ _ (by omega)).trans h.f0, (kf _ _ (by omega)).trans h.f1, h.own.below hb, h.ap, h.bel.trans (hb.mono h.bel.size)⟩
theorem CInv.set {w wr : World} {act : Int} {g n c : Nat} {qs : List PV} (h : CInv w wr act g n c qs) {j k : Nat} {p q : PV} {v : Value} (hp : qs[j]? = some p) (hq : q.vals = p.vals.set k v) (hk : k < 6)
    (hi : Ints wr wr.heap.size .i64 q.A q.ln q.lc q.ls) (ha : Apart g q.A q.ln) (ha2 : Apart (w.heap.size + 1) q.A q.ln) : CInv w (wr.setCell ⟨g, j * 6 + k, none⟩ v) act g n c (qs.set j q) := by
  have h1 := h.own.lt
  have c1 : ∀ b o, b ≠ g → (wr.setCell ⟨g, j * 6 + k, none⟩ v).cell? ⟨b, o, none⟩ = wr.cell? ⟨b, o, none⟩ := fun b o hne => World.cell?_setCell_other wr _ _ _ (fun e => hne (by injection e with e; exact e.symm))
  have c2 : ∀ b o, (wr.setCell ⟨g, j * 6 + k, none⟩ v).frozen? ⟨b, o, none⟩ = wr.frozen? ⟨b, o, none⟩ := fun b o => by go_simp
  exact ⟨(c1 _ _ (by omega)).trans h.b0, (c1 _ _ (by omega)).trans h.b1, (c1 _ _ (by omega)).trans h.r0, (c1 _ _ (by omega)).trans h.r1, (c2 _ _).trans h.f0, (c2 _ _).trans h.f1, h.own.set hp hq hk hi ha, (fun r hr => by
    rcases List.mem_or_eq_of_mem_set hr with hr | rfl
    · exact h.ap r hr
    · exact ha2), h.bel.setCell (p := ⟨g, j * 6 + k, none⟩) (by show _ ≤ g; omega) v⟩

theorem s_ints {w W : World} {act : Int} {g n c q : Nat} {qs : List PV} {p : PV} {P1 P2 P3 : Prop} (hp : Hid (qs[q]? = some p)) (hs : P1 ∧ P2 ∧ P3 ∧ Hid (CInv w W act g n c qs)) : Ints W W.heap.size .i64 p.A p.ln p.lc p.ls :=
  (hs.2.2.2.out.own.labs p (List.mem_of_getElem? hp.out)).1
theorem s_step {w W w' : World} {act : Int} {g n c q : Nat} {qs : List PV} {p : PV} {P1 P2 P3 : Prop} (hp : Hid (qs[q]? = some p)) (hs : P1 ∧ P2 ∧ P3 ∧ Hid (CInv w W act g n c qs)) (hb : Below W.heap.size W w') :
    w'.cell? ⟨w.heap.size, 1, none⟩ = some (.slice (some ⟨g, 0, none⟩) n c) ∧ w'.cell? ⟨g, q * 6 + 4, none⟩ = some (.slice p.A p.ln p.lc) ∧ w'.frozen? ⟨g, q * 6 + 4, none⟩ = false ∧ Hid (CInv w w' act g n c qs) := by
  have h := hs.2.2.2.out.below hb
  exact ⟨h.b1, (h.own.get hp.out).2.2.2.2.1, h.own.frozen _, h⟩

theorem map_set_same {qs : List PV} {q : Nat} {p p' : PV} (hp : qs[q]? = some p) (hd : p'.dat = p.dat) : (qs.set q p').map PV.dat = qs.map PV.dat := by
  rw [List.map_set, hd]
  refine List.ext_getElem? fun i => ?_
  rw [List.getElem?_set]
  by_cases h : q = i
  · subst h
    obtain ⟨hl, rfl⟩ := List.getElem?_eq_some_iff.1 hp
    simp [hl]
  · rw [if_neg h]
theorem Short.set {qs : List PV} {q : Nat} {p : PV} (h : Short qs) (hp : p.ln ≤ 17592186044416) : Short (qs.set q p) := by
  intro r hr
  rcases List.mem_or_eq_of_mem_set hr with hr | rfl
  · exact h r hr
  · exact hp

set_option maxHeartbeats 2000000 in
theorem clone_any (A : Option Addr) (n c : Nat) (act : Int) (ps : List PV) (w : World) (hx : Paths w w.heap.size A n c ps) (hs : Short ps) (hn : n ≤ 1000) :
    Calls Tryz.prog 106 #[.agg #[.int .i64 act, .slice A n c]] w (GivesGroup act n (ps.map PV.dat) w) := by
  have HB := Lib.hid (((Below.refl w.heap.size w).alloc (Nat.le_refl _) (.cells #[.int .i64 act, .slice A n c] 47)).alloc (by simp) (.cells #[.int .i64 0, .slice none 0 0] 47))
  have hx1 : Recs ((w.alloc (.cells #[.int .i64 act, .slice A n c] 47)).alloc (.cells #[.int .i64 0, .slice none 0 0] 47)) ((w.alloc (.cells #[.int .i64 act, .slice A n c] 47)).alloc (.cells #[.int .i64 0, .slice none 0 0] 47)).heap.size 6 A n c PV.vals ps :=
    (hx.1.below HB.out).more HB.out.size
  have H1 := Lib.hid (clonePaths_any A n c ps _ hx1 hn)
  have HL := Lib.hid hx.len
  by_cases h0 : n = 0
  · subst h0
    clear hx1
    go_enter Tryz.func106, Tryz.ntmps106
    go_wp2_with fail
    refine H1.out.mono ?_
    rintro e w1 ⟨A1, c1, rfl, _, hc1, hc2, hb1⟩
    have u0 : w1.cell? ⟨w.heap.size, 0, none⟩ = some (.int .i64 act) := (hb1.cell (p := ⟨w.heap.size, 0, none⟩) (by simp; omega)).trans (by go_simp)
    have u1 : w1.cell? ⟨w.heap.size, 1, none⟩ = some (.slice A 0 c) := (hb1.cell (p := ⟨w.heap.size, 1, none⟩) (by simp; omega)).trans (by go_simp)
    have u2 : w1.frozen? ⟨w.heap.size, 1, none⟩ = false := (hb1.frozen (p := ⟨w.heap.size, 1, none⟩) (by simp; omega)).trans (by go_simp)
    have v0 : w1.cell? ⟨w.heap.size + 1, 0, none⟩ = some (.int .i64 0) := (hb1.cell (p := ⟨w.heap.size + 1, 0, none⟩) (by simp)).trans (by go_simp)
    have v1 : w1.cell? ⟨w.heap.size + 1, 1, none⟩ = some (.slice none 0 0) := (hb1.cell (p := ⟨w.heap.size + 1, 1, none⟩) (by simp)).trans (by go_simp)
    have v2 : w1.frozen? ⟨w.heap.size + 1, 0, none⟩ = false := (hb1.frozen (p := ⟨w.heap.size + 1, 0, none⟩) (by simp)).trans (by go_simp)
    have v3 : w1.frozen? ⟨w.heap.size + 1, 1, none⟩ = false := (hb1.frozen (p := ⟨w.heap.size + 1, 1, none⟩) (by simp)).trans (by go_simp)
    have HB1 := Lib.hid hb1
    clear hb1
    go_wp2
    go_loop [11] (fun k => k = .int .i64 0) (fun _ => 0)
    case atStart => rfl
    case round =>
      obtain rfl := hrel
      have HB2 : Hid (Below w.heap.size w (((w1.setCell ⟨w.heap.size, 1, none⟩ (.slice A1 0 c1)).setCell ⟨w.heap.size + 1, 0, none⟩ (.int .i64 act)).setCell ⟨w.heap.size + 1, 1, none⟩ (.slice A1 0 c1))) :=
        (((HB.out.trans (HB1.out.mono HB.out.size)).setCell (p := ⟨w.heap.size, 1, none⟩) (Nat.le_refl _) _).setCell (p := ⟨w.heap.size + 1, 0, none⟩) (Nat.le_succ _) _).setCell (p := ⟨w.heap.size + 1, 1, none⟩) (Nat.le_succ _) _
      have HPS : Hid (ps = []) := List.eq_nil_of_length_eq_zero HL.out
      clear hx hs
      go_wp2
      refine bodyPost_ret (v := .agg #[.int .i64 act, .slice A1 0 c1]) (by simp [results, Tryz.results106, go_sem, v0, v1]) rfl ⟨A1, c1, [], rfl, fun h => absurd h (by omega), ⟨⟨⟨hc1, hc2, rfl, fun h => absurd h (by omega)⟩, rfl⟩, by simp⟩, by rw [HPS.out], by simp, HB2.out⟩
  · have hpos : 0 < n := by omega
    have HBL : Hid (∀ p ∈ ps, Ints w w.heap.size .i64 p.A p.ln p.lc p.ls) := hx.2
    clear hx1 hx
    go_enter Tryz.func106, Tryz.ntmps106
    go_wp2_with fail
    refine H1.out.mono ?_
    rintro e w1 ⟨A1, c1, rfl, hown, hc1, hc2, hb1⟩
    obtain ⟨g, rfl, hrow⟩ := hown hpos
    have hb0 : Below w.heap.size w w1 := HB.out.trans (hb1.mono HB.out.size)
    have hrow2 : w1.ownsRow (w.heap.size + 2) 57 6 (.slice (some ⟨g, 0, none⟩) n c1) n (ps.flatMap PV.vals) := own_mono hrow (by simp)
    have hlt := hrow2.lt g rfl
    have u0 : w1.cell? ⟨w.heap.size, 0, none⟩ = some (.int .i64 act) := (hb1.cell (p := ⟨w.heap.size, 0, none⟩) (by simp; omega)).trans (by go_simp)
    have u1 : w1.cell? ⟨w.heap.size, 1, none⟩ = some (.slice A n c) := (hb1.cell (p := ⟨w.heap.size, 1, none⟩) (by simp; omega)).trans (by go_simp)
    have u2 : w1.frozen? ⟨w.heap.size, 1, none⟩ = false := (hb1.frozen (p := ⟨w.heap.size, 1, none⟩) (by simp; omega)).trans (by go_simp)
    have v0 : w1.cell? ⟨w.heap.size + 1, 0, none⟩ = some (.int .i64 0) := (hb1.cell (p := ⟨w.heap.size + 1, 0, none⟩) (by simp)).trans (by go_simp)
    have v1 : w1.cell? ⟨w.heap.size + 1, 1, none⟩ = some (.slice none 0 0) := (hb1.cell (p := ⟨w.heap.size + 1, 1, none⟩) (by simp)).trans (by go_simp)
    have v2 : w1.frozen? ⟨w.heap.size + 1, 0, none⟩ = false := (hb1.frozen (p := ⟨w.heap.size + 1, 0, none⟩) (by simp)).trans (by go_simp)
    have v3 : w1.frozen? ⟨w.heap.size + 1, 1, none⟩ = false := (hb1.frozen (p := ⟨w.heap.size + 1, 1, none⟩) (by simp)).trans (by go_simp)
    have HI : Hid (CInv w (w1.setCell ⟨w.heap.size, 1, none⟩ (.slice (some ⟨g, 0, none⟩) n c1)) act g n c1 ps) := by
      have hb2 : Below w.heap.size w (w1.setCell ⟨w.heap.size, 1, none⟩ (.slice (some ⟨g, 0, none⟩) n c1)) := hb0.setCell (p := ⟨w.heap.size, 1, none⟩) (Nat.le_refl _) _
      have hap : ∀ p ∈ ps, ∀ b', w.heap.size ≤ b' → Apart b' p.A p.ln := by
        intro p hp b' hb' hm ad had
        obtain ⟨b, o, e, hb, _⟩ := (HBL.out p hp).2.2.2 hm
        rw [e] at had
        injection had with had
        subst had
        show b ≠ b'
        omega
      refine ⟨by go_simp, by go_simp, by go_simp, by go_simp, by go_simp, by go_simp, ⟨ownsRow_setCell_below hrow2 (by show w.heap.size < _; omega) _, HL.out, fun p hp => ?_⟩, fun p hp => hap p hp _ (by omega), hb2⟩
      exact ⟨((HBL.out p hp).below hb2).more hb2.size, hap p hp g (by omega)⟩
    clear hown hrow hrow2 hb0 hb1 u0 v0 v1 v2 v3
    go_wp2
    go_loopw [11] (fun k wr => ∃ (q : Nat) (qs : List PV), q ≤ n ∧ k = .int .i64 q ∧ Hid (CInv w wr act g n c1 qs) ∧ Hid (qs.map PV.dat = ps.map PV.dat) ∧ Hid (Short qs) ∧ Hid (∀ j p, j < q → qs[j]? = some p → FreshL w.heap.size p)) (fun k _ => n - (intOf k).toNat)
    case atStart => exact ⟨0, ps, Nat.zero_le _, rfl, HI, rfl, hs, fun j p hj => absurd hj (by omega)⟩
    case round =>
      obtain ⟨q, qs, hq, rfl, hi, hd, hsh, hfr⟩ := hrel
      clear HI hs HBL u1 u2
      by_cases hlt2 : q < n
      · obtain ⟨p, hp⟩ : ∃ p, qs[q]? = some p := ⟨qs[q]'(by rw [hi.out.own.len]; exact hlt2), List.getElem?_eq_getElem _⟩
        have HP := Lib.hid hp
        have hln : p.ln ≤ 17592186044416 := hsh.out p (List.mem_of_getElem? hp)
        have b1 := hi.out.b1
        have e4 := (hi.out.own.get hp).2.2.2.2.1
        have ef := hi.out.own.frozen (q * 6 + 4)
        clear hp
        go_wp2_with fail
        have hgne : g ≠ w.heap.size := by omega
        have b1d : wr.drew.cell? ⟨w.heap.size, 1, none⟩ = some (.slice (some ⟨g, 0, none⟩) n c1) := b1
        have HID : Hid (CInv w wr.drew act g n c1 qs) := hi.out.below (Below.refl _ _).drew
        clear HB H1 HL h0
        go_region_with (go_at_call 69; refine (cloneInts_any _ _ _ p.ls _ ((HID.out.own.labs p (List.mem_of_getElem? HP.out)).1) hln).mono ?_; rintro e w' ⟨A2, c2, rfl, hi2, hf2, hb2⟩; have HI3 : Hid (CInv w w' act g n c1 qs) := HID.out.below hb2; have k1 := HI3.out.b1; have k2 := (HI3.out.own.get HP.out).2.2.2.2.1; have k3 := HI3.out.own.frozen (q * 6 + 4); have HI2 := Lib.hid hi2; have HF2 := Lib.hid hf2; clear hi2 hf2 hb2)
        all_goals
          have HN : Hid (CInv w (w'.setCell ⟨g, q * 6 + 4, none⟩ (.slice A2 p.ln c2)) act g n c1 (qs.set q { p with A := A2, lc := c2 })) :=
            HI3.out.set (q := { p with A := A2, lc := c2 }) HP.out rfl (by omega) HI2.out (fun hm ad had => by have h1 := HF2.out hm ad had; have h2 := HID.out.own.lt; omega) (fun hm ad had => by have h1 := HF2.out hm ad had; have h2 := HID.out.own.lt; omega)
          have HD : Hid ((qs.set q { p with A := A2, lc := c2 }).map PV.dat = ps.map PV.dat) := (map_set_same (p' := { p with A := A2, lc := c2 }) HP.out rfl).trans hd.out
          have HS : Hid (Short (qs.set q { p with A := A2, lc := c2 })) := Short.set hsh.out hln
          have HFR : Hid (∀ j r, j < q + 1 → (qs.set q { p with A := A2, lc := c2 })[j]? = some r → FreshL w.heap.size r) := by
            intro j r hj hr
            rw [List.getElem?_set] at hr
            by_cases hjq : q = j
            · subst hjq
              have hl := (List.getElem?_eq_some_iff.1 HP.out).1
              rw [if_pos rfl, if_pos hl] at hr
              simp only [Option.some.injEq] at hr
              subst hr
              intro hm ad had
              have h1 := HF2.out hm ad had
              have h2 := HID.out.bel.size
              omega
            · rw [if_neg hjq] at hr
              exact hfr.out j r (by omega) hr
          clear b1 e4 ef b1d k1 k2 k3 HI2 HF2 HI3 HID
          go_wp2
          go_roundw
          case rel => exact ⟨q + 1, _, by omega, by go_num, HN, HD, HS, HFR⟩
          case measure => simp [intOf]; omega
      · obtain rfl : q = n := by omega
        have b0 := hi.out.b0
        have b1 := hi.out.b1
        have r0 := hi.out.r0
        have r1 := hi.out.r1
        have f0 := hi.out.f0
        have f1 := hi.out.f1
        have HW : Hid (OwnP ((wr.setCell ⟨w.heap.size + 1, 0, none⟩ (.int .i64 act)).setCell ⟨w.heap.size + 1, 1, none⟩ (.slice (some ⟨g, 0, none⟩) q c1)) w.heap.size g q c1 qs) := by
          have h := hi.out.own
          have hg := h.lt
          refine ⟨own_mono (ownsRow_setCell_below (ownsRow_setCell_below h.row (by show w.heap.size + 1 < _; omega) _) (by show w.heap.size + 1 < _; omega) _) (by omega), h.len, fun p hp => ⟨?_, (h.labs p hp).2⟩⟩
          have h2 := ((h.labs p hp).1.setApart (hi.out.ap p hp) 0 (.int .i64 act)).setApart (hi.out.ap p hp) 1 (.slice (some ⟨g, 0, none⟩) q c1)
          exact h2.more (by simp [World.setCell])
        have HB2 : Hid (Below w.heap.size w ((wr.setCell ⟨w.heap.size + 1, 0, none⟩ (.int .i64 act)).setCell ⟨w.heap.size + 1, 1, none⟩ (.slice (some ⟨g, 0, none⟩) q c1))) :=
          (hi.out.bel.setCell (p := ⟨w.heap.size + 1, 0, none⟩) (Nat.le_succ _) _).setCell (p := ⟨w.heap.size + 1, 1, none⟩) (Nat.le_succ _) _
        clear HB H1 HL h0
        go_wp2
        refine bodyPost_ret (v := .agg #[.int .i64 act, .slice (some ⟨g, 0, none⟩) q c1]) (by simp [results, Tryz.results106, go_sem, r0, r1]) rfl ⟨some ⟨g, 0, none⟩, c1, qs, rfl, fun _ => ⟨g, rfl, HW.out⟩, HW.out.paths, hd.out, fun p hp => by
          obtain ⟨j, hj, rfl⟩ := List.getElem_of_mem hp
          exact hfr.out j _ (by rw [← HW.out.len]; exact hj) (List.getElem?_eq_getElem hj), HB2.out⟩
end Go.Proofs.YtplppbgkkfjknaaGreatDoor
namespace Go.Proofs.YtplppbgkkfjknaaGreatDoor
open Go.RowKit
set_option maxRecDepth 100000

def zeroP : PV := ⟨0, 0, 0, 0, none, 0, 0, [], 0⟩
/-- the backup of a path -/
def bk (ds : List PV) (p : PV) : PV := ds.getD p.backup.toNat zeroP
/-- a path after the failure of an interface -/
def failP (ds : List PV) (iface : Int) (p : PV) : PV :=
  if 0 ≤ p.backup ∧ (bk ds p).iface ≠ iface then
    if p.iface = iface then { bk ds p with weight := p.weight, backup := -1 } else p
  else if p.iface = iface then { p with weight := 0, backup := -1 } else { p with backup := -1 }
/-- the paths, the first k of them after the failure -/
def fTo (ds : List PV) (iface : Int) : Nat → List PV
  | 0 => ds
  | k + 1 => (fTo ds iface k).set k (failP ds iface (ds.getD k zeroP))
theorem fTo_len (ds : List PV) (iface : Int) : ∀ k, (fTo ds iface k).length = ds.length
  | 0 => rfl
  | k + 1 => by rw [fTo, List.length_set, fTo_len]
theorem fTo_ge (ds : List PV) (iface : Int) : ∀ {k j : Nat}, k ≤ j → (fTo ds iface k)[j]? = ds[j]?
  | 0, _, _ => rfl
  | k + 1, j, h => by rw [fTo, List.getElem?_set_ne (by omega), fTo_ge ds iface (by omega)]
theorem fTo_lt (ds : List PV) (iface : Int) : ∀ {k j : Nat}, j < k → j < ds.length → (fTo ds iface k)[j]? = some (failP ds iface (ds.getD j zeroP))
  | k + 1, j, h, hl => by
    rw [fTo]
    by_cases hj : j = k
    · subst hj
      rw [List.getElem?_set_self (by rw [fTo_len]; exact hl)]
    · rw [List.getElem?_set_ne (by omega), fTo_lt ds iface (by omega) hl]
/-- the group's paths after the failure of an interface -/
def failG (act : Int) (n : Nat) (ps : List PV) (iface : Int) : List PV := if gErr act n ps ≠ 0 then ps.map PV.dat else fTo (ps.map PV.dat) iface act.toNat

/-- the world in the midst of Fail's loop -/
structure FInv (w wr : World) (A : Option Addr) (act : Int) (M g n c cA : Nat) (qs : List PV) : Prop where
  b1 : wr.cell? ⟨w.heap.size, 1, none⟩ = some (.slice A n cA)
  o0 : wr.cell? ⟨M, 0, none⟩ = some (.int .i64 act)
  o1 : wr.cell? ⟨M, 1, none⟩ = some (.slice (some ⟨g, 0, none⟩) n c)
  r0 : wr.cell? ⟨w.heap.size + 1, 0, none⟩ = some (.int .i64 0)
  r1 : wr.cell? ⟨w.heap.size + 1, 1, none⟩ = some (.slice none 0 0)
  f0 : wr.frozen? ⟨w.heap.size + 1, 0, none⟩ = false
  f1 : wr.frozen? ⟨w.heap.size + 1, 1, none⟩ = false
  own : OwnP wr (w.heap.size + 2) g n c qs
  ap : ∀ p ∈ qs, Apart (w.heap.size + 1) p.A p.ln
  bel : Below w.heap.size w wr
  mg : w.heap.size + 2 ≤ M ∧ M ≠ g ∧ M < wr.heap.size
section
variable {w wr w' : World} {A : Option Addr} {act : Int} {M g n c cA : Nat} {qs : List PV}
theorem FInv.below (h : FInv w wr A act M g n c cA qs) (hb : Below wr.heap.size wr w') : FInv w w' A act M g n c cA qs := by
  have h1 := h.own.lt
  have h2 := h.mg
  have k : ∀ b o, b < wr.heap.size → w'.cell? ⟨b, o, none⟩ = wr.cell? ⟨b, o, none⟩ := fun b o hb' => hb.cell (p := ⟨b, o, none⟩) hb'
  have kf : ∀ b o, b < wr.heap.size → w'.frozen? ⟨b, o, none⟩ = wr.frozen? ⟨b, o, none⟩ := fun b o hb' => hb.frozen (p := ⟨b, o, none⟩) hb'
  exact ⟨(k _ _ (by omega)).trans h.b1, (k _ _ (by omega)).trans h.o0, (k _ _ (by omega)).trans h.o1, (k _ _ (by omega)).trans h.r0, (k _ _ (by omega)).trans h.r1, (kf _ _ (by omega)).trans h.f0, (kf _ _ (by omega)).trans h.f1, h.own.below hb, h.ap, h.bel.trans (hb.mono h.bel.size), h2.1, h2.2.1, Nat.lt_of_lt_of_le h2.2.2 hb.size⟩
theorem FInv.drewN (h : FInv w wr A act M g n c cA qs) (k : Nat) : FInv w (wr.drewN k) A act M g n c cA qs := h.below (below_drewN (Below.refl _ _) k)
theorem FInv.drew (h : FInv w wr A act M g n c cA qs) : FInv w wr.drew A act M g n c cA qs := h.below (Below.refl _ _).drew
theorem FInv.set (h : FInv w wr A act M g n c cA qs) {j : Nat} (k : Nat) {p : PV} (q : PV) {v : Value} (hp : qs[j]? = some p) (hq : q.vals = p.vals.set k v) (hk : k < 6)
    (hi : Ints wr wr.heap.size .i64 q.A q.ln q.lc q.ls) (ha : Apart g q.A q.ln) (ha2 : Apart (w.heap.size + 1) q.A q.ln) : FInv w (wr.setCell ⟨g, j * 6 + k, none⟩ v) A act M g n c cA (qs.set j q) := by
  have h1 := h.own.lt
  have h2 := h.mg
  have c1 : ∀ b o, b ≠ g → (wr.setCell ⟨g, j * 6 + k, none⟩ v).cell? ⟨b, o, none⟩ = wr.cell? ⟨b, o, none⟩ := fun b o hne => World.cell?_setCell_other wr _ _ _ (fun e => hne (by injection e with e; exact e.symm))
  have c2 : ∀ b o, (wr.setCell ⟨g, j * 6 + k, none⟩ v).frozen? ⟨b, o, none⟩ = wr.frozen? ⟨b, o, none⟩ := fun b o => by go_simp
  exact ⟨(c1 _ _ (by omega)).trans h.b1, (c1 _ _ (by omega)).trans h.o0, (c1 _ _ (by omega)).trans h.o1, (c1 _ _ (by omega)).trans h.r0, (c1 _ _ (by omega)).trans h.r1, (c2 _ _).trans h.f0, (c2 _ _).trans h.f1, h.own.set hp hq hk hi ha, (fun r hr => by
    rcases List.mem_or_eq_of_mem_set hr with hr | rfl
    · exact h.ap r hr
    · exact ha2), h.bel.setCell (p := ⟨g, j * 6 + k, none⟩) (by show _ ≤ g; omega) v, h2.1, h2.2.1, by simpa [World.setCell] using h2.2.2⟩
/-- a cell that is no label is written -/
theorem FInv.setNum (h : FInv w wr A act M g n c cA qs) {j : Nat} (k : Nat) {p : PV} (q : PV) {v : Value} (hp : qs[j]? = some p) (hq : q.vals = p.vals.set k v) (hk : k < 6) (hA : q.A = p.A) (hn : q.ln = p.ln) (hc : q.lc = p.lc) (hl : q.ls = p.ls) :
    FInv w (wr.setCell ⟨g, j * 6 + k, none⟩ v) A act M g n c cA (qs.set j q) := by
  have hm := List.mem_of_getElem? hp
  have hl2 := h.own.labs p hm
  exact h.set k q hp hq hk (by rw [hA, hn, hc, hl]; exact hl2.1) (by rw [hA, hn]; exact hl2.2) (by rw [hA, hn]; exact h.ap p hm)
end
theorem dat_get {qs ds : List PV} (h : qs.map PV.dat = ds) {j : Nat} {p : PV} (hp : qs[j]? = some p) : ds[j]? = some p.dat := by
  rw [← h, List.getElem?_map, hp]
  rfl
theorem getD_of {ds : List PV} {j : Nat} {p : PV} (h : ds[j]? = some p) : ds.getD j zeroP = p := by
  rw [List.getD_eq_getElem?_getD, h]
  rfl
/-- one path more is done -/
theorem fTo_step {qs ds : List PV} {iface : Int} {k : Nat} {q : PV} (h : qs.map PV.dat = fTo ds iface k) (hq : q.dat = failP ds iface (ds.getD k zeroP)) : (qs.set k q).map PV.dat = fTo ds iface (k + 1) := by
  rw [fTo, List.map_set, h, hq]
theorem fTo_same {qs ds : List PV} {iface : Int} {k : Nat} {q : PV} (h : qs.map PV.dat = fTo ds iface k) (hp : qs[k]? = some q) (hq : q.dat = failP ds iface (ds.getD k zeroP)) : qs.map PV.dat = fTo ds iface (k + 1) := by
  have := fTo_step h hq
  rw [← this]
  congr 1
  refine List.ext_getElem? fun i => ?_
  rw [List.getElem?_set]
  by_cases hi : k = i
  · subst hi
    obtain ⟨hl, rfl⟩ := List.getElem?_eq_some_iff.1 hp
    simp [hl]
  · rw [if_neg hi]
section
variable {ds : List PV} {iface : Int} {p : PV}
theorem failP_keep (h0 : 0 ≤ p.backup) (h1 : (bk ds p).iface ≠ iface) (h2 : p.iface ≠ iface) : failP ds iface p = p := by rw [failP, if_pos ⟨h0, h1⟩, if_neg h2]
theorem failP_move (h0 : 0 ≤ p.backup) (h1 : (bk ds p).iface ≠ iface) (h2 : p.iface = iface) : failP ds iface p = { bk ds p with weight := p.weight, backup := -1 } := by rw [failP, if_pos ⟨h0, h1⟩, if_pos h2]
theorem failP_drop (h0 : ¬ (0 ≤ p.backup ∧ (bk ds p).iface ≠ iface)) (h2 : p.iface ≠ iface) : failP ds iface p = { p with backup := -1 } := by rw [failP, if_neg h0, if_neg h2]
theorem failP_zero (h0 : ¬ (0 ≤ p.backup ∧ (bk ds p).iface ≠ iface)) (h2 : p.iface = iface) : failP ds iface p = { p with weight := 0, backup := -1 } := by rw [failP, if_neg h0, if_pos h2]
end
theorem fresh_set {qs : List PV} {B k : Nat} {q : PV} (h : ∀ p ∈ qs, FreshL B p) (hq : FreshL B q) : ∀ r ∈ qs.set k q, FreshL B r := by
  intro r hr
  rcases List.mem_or_eq_of_mem_set hr with hr | rfl
  · exact h r hr
  · exact hq
/-- the result is laid down -/
theorem finish_group {w wr : World} {act : Int} {n c1 : Nat} {A1 : Option Addr} {qs ds : List PV} {x y : Value} (h0 : qs.length = n ∧ n ≤ c1 ∧ c1 ≤ maxLen) (ho : 0 < n → ∃ g, A1 = some ⟨g, 0, none⟩ ∧ OwnP wr (w.heap.size + 2) g n c1 qs)
    (hf : ∀ p ∈ qs, FreshL (w.heap.size + 2) p) (hd : qs.map PV.dat = ds) (hb : Below w.heap.size w wr) :
    GivesGroup act n ds w (.returned (.agg #[.int .i64 act, .slice A1 n c1])) ((wr.setCell ⟨w.heap.size + 1, 0, none⟩ x).setCell ⟨w.heap.size + 1, 1, none⟩ y) := by
  have hb2 : Below w.heap.size w ((wr.setCell ⟨w.heap.size + 1, 0, none⟩ x).setCell ⟨w.heap.size + 1, 1, none⟩ y) :=
    (hb.setCell (p := ⟨w.heap.size + 1, 0, none⟩) (Nat.le_succ _) _).setCell (p := ⟨w.heap.size + 1, 1, none⟩) (Nat.le_succ _) _
  have hf2 : ∀ p ∈ qs, FreshL w.heap.size p := fun p hp hm ad had => by
    have := hf p hp hm ad had
    omega
  by_cases hn : n = 0
  · subst hn
    obtain rfl : qs = [] := List.eq_nil_of_length_eq_zero h0.1
    exact ⟨A1, c1, [], rfl, fun h => absurd h (by omega), ⟨⟨⟨h0.2.1, h0.2.2, rfl, fun h => absurd h (by omega)⟩, rfl⟩, by simp⟩, hd, hf2, hb2⟩
  · obtain ⟨g, rfl, h⟩ := ho (by omega)
    have hg := h.lt
    have hw : OwnP ((wr.setCell ⟨w.heap.size + 1, 0, none⟩ x).setCell ⟨w.heap.size + 1, 1, none⟩ y) w.heap.size g n c1 qs := by
      refine ⟨own_mono (ownsRow_setCell_below (ownsRow_setCell_below h.row (by show w.heap.size + 1 < _; omega) _) (by show w.heap.size + 1 < _; omega) _) (by omega), h.len, fun p hp => ⟨?_, (h.labs p hp).2⟩⟩
      have ha : Apart (w.heap.size + 1) p.A p.ln := fun hm ad had => by
        have := hf p hp hm ad had
        omega
      exact (((h.labs p hp).1.setApart ha 0 x).setApart ha 1 y).more (by simp [World.setCell])
    exact ⟨some ⟨g, 0, none⟩, c1, qs, rfl, fun _ => ⟨g, rfl, hw⟩, hw.paths, hd, hf2, hb2⟩
end Go.Proofs.YtplppbgkkfjknaaGreatDoor
