/- A group by its data alone: where the labels lie is forgotten. -/
import Derived.Test.YtlcgjgmhllmekaaFail2
namespace Go.Proofs.Ytlcgjgmhllmekaa
open Go.RowKit

theorem PV.dat_dat (p : PV) : p.dat.dat = p.dat := rfl
theorem map_dat_dat (ps : List PV) : (ps.map PV.dat).map PV.dat = ps.map PV.dat := by
  rw [List.map_map]
  rfl
/-- the stored length is the number of labels -/
def Even (ps : List PV) : Prop := ∀ p ∈ ps, p.ln = p.ls.length
theorem Paths.even {w : World} {B n c : Nat} {A : Option Addr} {ps : List PV} (h : Paths w B A n c ps) : Even ps := fun p hp => (h.2 p hp).len.symm
theorem even_dat (ps : List PV) : Even (ps.map PV.dat) := by
  intro p hp
  obtain ⟨q, _, rfl⟩ := List.mem_map.1 hp
  rfl
theorem pErr_dat {act : Int} {n i : Nat} {p : PV} (h : p.ln = p.ls.length) : pErr act n i p.dat = pErr act n i p := by
  unfold pErr PV.dat
  rw [← h]
theorem chkTo_dat {act : Int} {n : Nat} {ps : List PV} (h : Even ps) : ∀ k, chkTo act n (ps.map PV.dat) k = chkTo act n ps k
  | 0 => rfl
  | k + 1 => by
    rw [chkTo, chkTo, chkTo_dat h k, List.getElem?_map]
    cases hp : ps[k]? with
    | none => rfl
    | some p => simp only [Option.map_some]; rw [pErr_dat (h p (List.mem_of_getElem? hp))]
theorem gErr_dat {act : Int} {n : Nat} {ps : List PV} (h : Even ps) : gErr act n (ps.map PV.dat) = gErr act n ps := by
  unfold gErr
  rw [chkTo_dat h]
theorem wts_dat (ps : List PV) : wts (ps.map PV.dat) = wts ps := by
  unfold wts
  rw [List.map_map]
  rfl
theorem pick_dat {act flow : Int} {n : Nat} {ps : List PV} (h : Even ps) : pick act n (ps.map PV.dat) flow = pick act n ps flow := by
  unfold pick
  rw [gErr_dat h, ← List.map_take, wts_dat]
theorem failG_dat {act iface : Int} {n : Nat} {ps : List PV} (h : Even ps) : failG act n (ps.map PV.dat) iface = failG act n ps iface := by
  unfold failG
  rw [gErr_dat h, map_dat_dat]

/-- a group's paths lie in memory, and their data are ds -/
def GroupAt (w : World) (B : Nat) (A : Option Addr) (n c : Nat) (ds : List PV) : Prop := ∃ qs, Paths w B A n c qs ∧ qs.map PV.dat = ds
def ShortD (ds : List PV) : Prop := ∀ d ∈ ds, d.ls.length ≤ 17592186044416
theorem ShortD.short {w : World} {B n c : Nat} {A : Option Addr} {ds qs : List PV} (h : ShortD ds) (hq : Paths w B A n c qs) (he : qs.map PV.dat = ds) : Short qs := by
  intro p hp
  have h1 := h p.dat (by rw [← he]; exact List.mem_map_of_mem hp)
  rw [hq.even p hp]
  exact h1
section
variable {w w' : World} {B B' n c : Nat} {A : Option Addr} {ds : List PV}
theorem GroupAt.below (h : GroupAt w B A n c ds) (hb : Below B w w') : GroupAt w' B A n c ds := by
  obtain ⟨qs, h1, h2⟩ := h
  exact ⟨qs, h1.below hb, h2⟩
theorem GroupAt.more (h : GroupAt w B A n c ds) (hB : B ≤ B') : GroupAt w B' A n c ds := by
  obtain ⟨qs, h1, h2⟩ := h
  exact ⟨qs, h1.more hB, h2⟩
theorem GroupAt.grow (h : GroupAt w B A n c ds) (hb : Below B w w') (hB : B ≤ B') : GroupAt w' B' A n c ds := (h.below hb).more hB
theorem GroupAt.len (h : GroupAt w B A n c ds) : ds.length = n := by
  obtain ⟨qs, h1, rfl⟩ := h
  rw [List.length_map]
  exact h1.len
theorem GroupAt.even (h : GroupAt w B A n c ds) : Even ds := by
  obtain ⟨qs, h1, rfl⟩ := h
  exact even_dat qs
theorem GroupAt.idem (h : GroupAt w B A n c ds) : ds.map PV.dat = ds := by
  obtain ⟨qs, h1, rfl⟩ := h
  exact map_dat_dat qs
/-- the cells of one path -/
theorem GroupAt.get (h : GroupAt w B A n c ds) {j : Nat} (hj : j < n) :
    ∃ b o d D k, A = some ⟨b, o, none⟩ ∧ b < B ∧ ds[j]? = some d ∧ Ints w B .i64 D d.ls.length k d.ls ∧ w.cell? ⟨b, o + j * 6, none⟩ = some (.int .i64 d.iface) ∧ w.cell? ⟨b, o + j * 6 + 1, none⟩ = some (.int .u32 d.addr) ∧
      w.cell? ⟨b, o + j * 6 + 2, none⟩ = some (.int .u32 d.router) ∧ w.cell? ⟨b, o + j * 6 + 3, none⟩ = some (.int .i64 d.weight) ∧ w.cell? ⟨b, o + j * 6 + 4, none⟩ = some (.slice D d.ls.length k) ∧ w.cell? ⟨b, o + j * 6 + 5, none⟩ = some (.int .i64 d.backup) := by
  obtain ⟨qs, h1, rfl⟩ := h
  obtain ⟨b, o, p, rfl, hb, hp, hi, c0, c1, c2, c3, c4, c5⟩ := h1.get hj
  have he := h1.even p (List.mem_of_getElem? hp)
  refine ⟨b, o, p.dat, p.A, p.lc, rfl, hb, by rw [List.getElem?_map, hp]; rfl, ?_, c0, c1, c2, c3, ?_, c5⟩
  · show Ints w B .i64 p.A p.ls.length p.lc p.ls
    rw [← he]
    exact hi
  · show w.cell? ⟨b, o + j * 6 + 4, none⟩ = some (Value.slice p.A p.ls.length p.lc)
    rw [← he]
    exact c4
end
theorem check_at (A : Option Addr) (n c B : Nat) (act : Int) (ds : List PV) (w : World) (h : GroupAt w B A n c ds) (hB : B ≤ w.heap.size) (hn : n ≤ 1000) :
    Calls Try.prog 10 #[.agg #[.int .i64 act, .slice A n c]] w fun e w' => e = .returned (.int .i64 (gErr act n ds)) ∧ Below w.heap.size w w' := by
  obtain ⟨qs, h1, rfl⟩ := h
  rw [gErr_dat h1.even]
  exact check_any A n c B act qs w h1 hB (by omega)
theorem refCheck_at (A : Option Addr) (n c B : Nat) (act : Int) (ds : List PV) (w : World) (h : GroupAt w B A n c ds) (hB : B ≤ w.heap.size) (hn : n ≤ 1000) :
    Calls Try.prog 11 #[.agg #[.int .i64 act, .slice A n c]] w fun e w' => e = .returned (.int .i64 (gErr act n ds)) ∧ Below w.heap.size w w' := by
  obtain ⟨qs, h1, rfl⟩ := h
  rw [gErr_dat h1.even]
  exact refCheck_any A n c B act qs w h1 hB (by omega)
theorem pick_at (A : Option Addr) (n c B : Nat) (act flow : Int) (ds : List PV) (w : World) (h : GroupAt w B A n c ds) (hB : B ≤ w.heap.size) (hn : n ≤ 1000) (hf : 0 ≤ flow ∧ flow < 4294967296) :
    Calls Try.prog 12 #[.agg #[.int .i64 act, .slice A n c], .int .u32 flow] w fun e w' => e = .returned (.int .i64 (pick act n ds flow)) ∧ Below w.heap.size w w' := by
  obtain ⟨qs, h1, rfl⟩ := h
  rw [pick_dat h1.even]
  exact pick_any A n c B act flow qs w h1 hB (by omega) hf
theorem refPick_at (A : Option Addr) (n c B : Nat) (act flow : Int) (ds : List PV) (w : World) (h : GroupAt w B A n c ds) (hB : B ≤ w.heap.size) (hn : n ≤ 1000) (hf : 0 ≤ flow ∧ flow < 4294967296) :
    Calls Try.prog 13 #[.agg #[.int .i64 act, .slice A n c], .int .u32 flow] w fun e w' => e = .returned (.int .i64 (pick act n ds flow)) ∧ Below w.heap.size w w' := by
  obtain ⟨qs, h1, rfl⟩ := h
  rw [pick_dat h1.even]
  exact refPick_any A n c B act flow qs w h1 hB (by omega) hf
/-- the call returns a group -/
def GivesG (act : Int) (n : Nat) (ds : List PV) (w : World) (e : Ending) (w' : World) : Prop :=
  ∃ A c, e = .returned (.agg #[.int .i64 act, .slice A n c]) ∧ GroupAt w' w'.heap.size A n c ds ∧ Below w.heap.size w w'
theorem fail_at (A : Option Addr) (n c : Nat) (act iface : Int) (ds : List PV) (w : World) (h : GroupAt w w.heap.size A n c ds) (hs : ShortD ds) (hn : n ≤ 1000) :
    Calls Try.prog 15 #[.agg #[.int .i64 act, .slice A n c], .int .i64 iface] w (GivesG act n (failG act n ds iface) w) := by
  obtain ⟨qs, h1, he⟩ := h
  have h2 := hs.short h1 he
  subst he
  rw [failG_dat h1.even]
  refine (fail_any A n c act iface qs w h1 h2 hn).mono ?_
  rintro e w' ⟨A', c', rs, he, _, hp, hd, _, hb⟩
  exact ⟨A', c', he, ⟨rs, hp, hd⟩, hb⟩
theorem getD_mem {ds : List PV} {j : Nat} : ds.getD j zeroP ∈ ds ∨ ds.getD j zeroP = zeroP := by
  rw [List.getD_eq_getElem?_getD]
  cases h : ds[j]? with
  | none => exact .inr rfl
  | some d => exact .inl (List.mem_of_getElem? h)
theorem shortD_failP {ds : List PV} {iface : Int} {p : PV} (hs : ShortD ds) (hp : p.ls.length ≤ 17592186044416) : (failP ds iface p).ls.length ≤ 17592186044416 := by
  unfold failP
  split
  · split
    · show (bk ds p).ls.length ≤ _
      unfold bk
      rcases getD_mem (ds := ds) (j := p.backup.toNat) with h | h
      · exact hs _ h
      · rw [h]; simp [zeroP]
    · exact hp
  · split
    · exact hp
    · exact hp
theorem shortD_fTo {ds : List PV} {iface : Int} (hs : ShortD ds) : ∀ k, ShortD (fTo ds iface k)
  | 0 => hs
  | k + 1 => by
    intro d hd
    rw [fTo] at hd
    rcases List.mem_or_eq_of_mem_set hd with h | rfl
    · exact shortD_fTo hs k d h
    · refine shortD_failP hs ?_
      rcases getD_mem (ds := ds) (j := k) with h | h
      · exact hs _ h
      · rw [h]; simp [zeroP]
theorem shortD_failG {ds : List PV} {act iface : Int} {n : Nat} (hi : ds.map PV.dat = ds) (hs : ShortD ds) : ShortD (failG act n ds iface) := by
  unfold failG
  rw [hi]
  split
  · exact hs
  · exact shortD_fTo hs _
end Go.Proofs.Ytlcgjgmhllmekaa
