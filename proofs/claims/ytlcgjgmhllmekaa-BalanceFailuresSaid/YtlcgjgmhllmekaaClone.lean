/- balance.clone returns a group in new memory with the same numbers and labels. -/
import Derived.Test.YtlcgjgmhllmekaaCheck
import Derived.Test.YtlcgjgmhllmekaaLists
import Derived.Deep.RegionHeld3
import Derived.Deep.RegionWith
import Derived.BigRegion
namespace Go.Proofs.Ytlcgjgmhllmekaa
open Go.RowKit

theorem path_info : (Try.prog.info? 38).map (fun i => (i.zero, i.size, i.bytes)) = some (some (.agg #[.int .i64 0, .int .u32 0, .int .u32 0, .int .i64 0, .slice none 0 0, .int .i64 0]), 6, 56) := by kernel_rfl
theorem vals_one (ps : List PV) : ∀ u ∈ ps.flatMap PV.vals, u.oneCell' = true := by
  intro u hu
  obtain ⟨p, _, hp⟩ := List.mem_flatMap.1 hu
  simp only [PV.vals, List.mem_cons, List.not_mem_nil, or_false] at hp
  rcases hp with rfl | rfl | rfl | rfl | rfl | rfl <;> rfl

/-- a slice of paths of the call's own, or an empty one -/
def GivesPaths (n : Nat) (ps : List PV) (w : World) (e : Ending) (w' : World) : Prop :=
  ∃ A c, e = .returned (.slice A n c) ∧ (0 < n → ∃ g, A = some ⟨g, 0, none⟩ ∧ w'.ownsRow w.heap.size 38 6 (.slice (some ⟨g, 0, none⟩) n c) n (ps.flatMap PV.vals)) ∧ n ≤ c ∧ c ≤ maxLen ∧ Below w.heap.size w w'

set_option maxHeartbeats 400000 in
theorem clonePaths_any (A : Option Addr) (n c : Nat) (ps : List PV) (w : World) (hx : Recs w w.heap.size 6 A n c PV.vals ps) (hn : n ≤ 1000) :
    Calls Try.prog 34 #[.slice A n c] w (GivesPaths n ps w) := by
  rcases A with _ | ad
  · have h0 : n = 0 := by
      rcases Nat.eq_zero_or_pos n with h | h
      · exact h
      · obtain ⟨_, _, h, _⟩ := hx.1.2.2.2 h
        cases h
    subst h0
    have he := Lib.run_eql_slice_nil (P := Try.prog) w 22 38 none 0 c 0 0 Try.underlying22
    clear hx
    go_enter Try.func34, Try.ntmps34
    go_wp2
    go_ret
    exact ⟨none, 0, rfl, fun h => absurd h (by omega), Nat.le_refl _, by simp [maxLen], Below.refl _ _⟩
  · have he := Lib.run_eql_slice_nil (P := Try.prog) w 22 38 (some ad) n c 0 0 Try.underlying22
    have hown : (w.alloc (.cells #[] 38)).ownsRow w.heap.size 38 6 (.slice (some ⟨w.heap.size, 0, none⟩) 0 0) 0 [] := World.ownsRow_lit w #[] 0 (Nat.le_refl _) (by simp [maxLen]) rfl
    have hx1 : Cells (w.alloc (.cells #[] 38)) w.heap.size 6 (some ad) n c (ps.flatMap PV.vals) := hx.1.keep fun p hp => World.cell?_alloc_lt w _ p (by omega)
    obtain ⟨v1, w1, hrun, ho1, hg1, hat⟩ := Cells.append (P := Try.prog) (t := 22) (ty := 22) Try.underlying22 path_info rfl (by omega) hown hx1 (vals_one ps) (by simp only [maxLen]; omega) (by omega) (by simp)
    rw [Nat.zero_add, List.nil_append] at ho1
    have HR := Lib.hid hrun
    have HB := Lib.hid (((Below.refl w.heap.size w).alloc (Nat.le_refl _) _).grown hg1 (by simp) (by simp [Value.ownBlock]))
    obtain ⟨A2, c2, rfl⟩ := own_form ho1
    have HO := Lib.hid ho1
    clear hrun hg1 hat ho1 hown hx1 hx
    go_enter Try.func34, Try.ntmps34
    go_wp2_with (at_builtin; refine wpList_append_run rfl _ _ _ rfl rfl rfl HR.out ?_)
    go_ret
    have hc := Cells.of_own HO.out
    refine ⟨A2, c2, rfl, fun h => ?_, hc.1, hc.2.1, HB.out⟩
    obtain ⟨g, cap, hv, hg⟩ := World.ownsRow.form HO.out h
    simp only [Value.slice.injEq, true_and] at hv
    obtain ⟨rfl, rfl⟩ := hv
    exact ⟨g, rfl, HO.out⟩

/-- the numbers and labels of a path, the labels' place forgotten -/
def PV.dat (p : PV) : PV := { p with A := none, ln := p.ls.length, lc := 0 }
/-- the block of a slice that is not empty is another one -/
def Apart (g : Nat) (A : Option Addr) (n : Nat) : Prop := 0 < n → ∀ ad, A = some ad → ad.block ≠ g
/-- a row of paths of the call's own in block g, with labels that lie elsewhere -/
structure OwnP (w : World) (base g n c : Nat) (ps : List PV) : Prop where
  row : w.ownsRow base 38 6 (.slice (some ⟨g, 0, none⟩) n c) n (ps.flatMap PV.vals)
  len : ps.length = n
  labs : ∀ p ∈ ps, Ints w w.heap.size .i64 p.A p.ln p.lc p.ls ∧ Apart g p.A p.ln
section
variable {w w' : World} {base g n c : Nat} {ps : List PV}
theorem OwnP.paths (h : OwnP w base g n c ps) : Paths w w.heap.size (some ⟨g, 0, none⟩) n c ps := ⟨⟨Cells.of_own h.row, h.len⟩, fun p hp => (h.labs p hp).1⟩
theorem OwnP.lt (h : OwnP w base g n c ps) : base ≤ g ∧ g < w.heap.size := h.row.lt g rfl
theorem OwnP.below (h : OwnP w base g n c ps) (hb : Below w.heap.size w w') : OwnP w' base g n c ps := by
  refine ⟨?_, h.len, fun p hp => ⟨((h.labs p hp).1.below hb).more hb.size, (h.labs p hp).2⟩⟩
  obtain ⟨h1, h2⟩ := h.row
  refine ⟨h1, ?_⟩
  rcases h2 with h2 | ⟨g', cap, cur, hv, hg, hh, r⟩
  · exact .inl h2
  · refine .inr ⟨g', cap, cur, hv, hg, ?_, r⟩
    rw [hb.block g' ?_]
    · exact hh
    · rcases Nat.lt_or_ge g' w.heap.size with hl | hl
      · exact hl
      · rw [Array.getElem?_eq_none hl] at hh
        cases hh
theorem OwnP.get (h : OwnP w base g n c ps) {j : Nat} {p : PV} (hp : ps[j]? = some p) :
    w.cell? ⟨g, j * 6, none⟩ = some (.int .i64 p.iface) ∧ w.cell? ⟨g, j * 6 + 1, none⟩ = some (.int .u32 p.addr) ∧ w.cell? ⟨g, j * 6 + 2, none⟩ = some (.int .u32 p.router) ∧
      w.cell? ⟨g, j * 6 + 3, none⟩ = some (.int .i64 p.weight) ∧ w.cell? ⟨g, j * 6 + 4, none⟩ = some (.slice p.A p.ln p.lc) ∧ w.cell? ⟨g, j * 6 + 5, none⟩ = some (.int .i64 p.backup) := by
  have hj : j < n := by
    rw [← h.len]
    exact (List.getElem?_eq_some_iff.1 hp).1
  have hk : ∀ k, k < 6 → w.cell? ⟨g, j * 6 + k, none⟩ = p.vals[k]? := by
    intro k hk
    rw [World.ownsRow.cellAt h.row (j * 6 + k) (by omega), flat_get PV.vals_len hp hk]
  exact ⟨hk 0 (by omega), hk 1 (by omega), hk 2 (by omega), hk 3 (by omega), hk 4 (by omega), hk 5 (by omega)⟩
theorem OwnP.frozen (h : OwnP w base g n c ps) (j : Nat) : w.frozen? ⟨g, j, none⟩ = false := World.ownsRow.frozenAt h.row j
theorem Ints.setApart {B : Nat} {k : IntKind} {A : Option Addr} {m d : Nat} {xs : List Int} (h : Ints w B k A m d xs) (ha : Apart g A m) (j : Nat) (v : Value) : Ints (w.setCell ⟨g, j, none⟩ v) B k A m d xs := by
  refine ⟨h.1, h.2.1, h.2.2.1, fun hm => ?_⟩
  obtain ⟨b, o, e, hb, hc⟩ := h.2.2.2 hm
  have hne : b ≠ g := ha hm _ e
  exact ⟨b, o, e, hb, fun i hi => by
    rw [World.cell?_setCell_other w _ _ _ (fun he => hne (by injection he with he; exact he.symm))]
    exact hc i hi⟩
theorem flat_set {f : PV → List Value} (hf : ∀ r, (f r).length = 6) : ∀ {ps : List PV} {j k : Nat} {p q : PV} {v : Value}, ps[j]? = some p → f q = (f p).set k v → k < 6 → (ps.set j q).flatMap f = (ps.flatMap f).set (j * 6 + k) v
  | [], j, k, p, q, v, h, _, _ => by simp at h
  | x :: ps, 0, k, p, q, v, h, hq, hk => by
    simp only [List.getElem?_cons_zero, Option.some.injEq] at h
    subst h
    rw [List.set_cons_zero, List.flatMap_cons, List.flatMap_cons, hq, Nat.zero_mul, Nat.zero_add, List.set_append_left _ _ (by rw [hf]; exact hk)]
  | x :: ps, j + 1, k, p, q, v, h, hq, hk => by
    simp only [List.getElem?_cons_succ] at h
    rw [List.set_cons_succ, List.flatMap_cons, List.flatMap_cons, flat_set hf h hq hk, List.set_append_right _ _ (by rw [hf]; omega), hf]
    congr 2
    omega
/-- one cell of one path is written -/
theorem OwnP.set (h : OwnP w base g n c ps) {j k : Nat} {p q : PV} {v : Value} (hp : ps[j]? = some p) (hq : q.vals = p.vals.set k v) (hk : k < 6) (hi : Ints w w.heap.size .i64 q.A q.ln q.lc q.ls) (ha : Apart g q.A q.ln) :
    OwnP (w.setCell ⟨g, j * 6 + k, none⟩ v) base g n c (ps.set j q) := by
  refine ⟨?_, by rw [List.length_set]; exact h.len, fun r hr => ?_⟩
  · rw [flat_set PV.vals_len hp hq hk]
    exact (World.ownsRow.stored h.row (j * 6 + k) v).1
  · have hsz : (w.setCell ⟨g, j * 6 + k, none⟩ v).heap.size = w.heap.size := by simp [World.setCell]
    rw [hsz]
    rcases List.mem_or_eq_of_mem_set hr with hr | rfl
    · exact ⟨(h.labs r hr).1.setApart (h.labs r hr).2 _ _, (h.labs r hr).2⟩
    · exact ⟨hi.setApart ha _ _, ha⟩
end
end Go.Proofs.Ytlcgjgmhllmekaa
