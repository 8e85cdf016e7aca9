/- BalanceFailures: behind the statement 'x, y := ..'. -/
import Derived.Test.YtlcgjgmhllmekaaFailAux
import Derived.Test.YtlcgjgmhllmekaaWeightsWalk
namespace Go.Proofs.Ytlcgjgmhllmekaa
open Go.RowKit

/-- the data of a group after a failure -/
theorem flat_iff {ds : List PV} : ds.map PV.dat = ds ↔ ∀ d ∈ ds, d.dat = d := by
  constructor
  · intro h d hd
    obtain ⟨j, hj⟩ := List.mem_iff_getElem?.1 hd
    have h1 : (ds.map PV.dat)[j]? = ds[j]? := by rw [h]
    rw [List.getElem?_map, hj] at h1
    simpa using h1
  · intro h
    exact (List.map_congr_left (g := id) h).trans (List.map_id ds)
theorem dat_failP {ds : List PV} {iface : Int} (hs : ∀ d ∈ ds, d.dat = d) {p : PV} (hp : p.dat = p) : (failP ds iface p).dat = failP ds iface p := by
  have hb : (bk ds p).dat = bk ds p := by
    unfold bk
    rcases getD_mem (ds := ds) (j := p.backup.toNat) with h | h
    · exact hs _ h
    · rw [h]; rfl
  have hu : ∀ (q : PV) (x y : Int), q.dat = q → ({ q with weight := x, backup := y } : PV).dat = { q with weight := x, backup := y } := by
    intro q x y h
    have h1 := congrArg PV.A h
    have h2 := congrArg PV.ln h
    have h3 := congrArg PV.lc h
    cases q
    simp only [PV.dat] at h1 h2 h3 ⊢
    simp [← h1, ← h2, ← h3]
  have hv : ∀ (q : PV) (y : Int), q.dat = q → ({ q with backup := y } : PV).dat = { q with backup := y } := fun q y h => hu q q.weight y h
  unfold failP
  split
  · split
    · exact hu _ _ _ hb
    · exact hp
  · split
    · exact hu _ _ _ hp
    · exact hv _ _ hp
theorem dat_fTo {ds : List PV} {iface : Int} (hs : ∀ d ∈ ds, d.dat = d) : ∀ k, ∀ d ∈ fTo ds iface k, d.dat = d
  | 0, d, hd => hs d hd
  | k + 1, d, hd => by
    rw [fTo] at hd
    rcases List.mem_or_eq_of_mem_set hd with h | rfl
    · exact dat_fTo hs k d h
    · refine dat_failP hs ?_
      rcases getD_mem (ds := ds) (j := k) with h | h
      · exact hs _ h
      · rw [h]; rfl
theorem idem_failG {ds : List PV} {act iface : Int} {n : Nat} (hi : ds.map PV.dat = ds) : (failG act n ds iface).map PV.dat = failG act n ds iface := by
  have hs := flat_iff.1 hi
  rw [flat_iff]
  unfold failG
  rw [hi]
  split
  · exact hs
  · exact dat_fTo hs _
/-- the two boxes, later -/
def T4 (X Y : Nat) (a0 a1 b0 b1 : Value) (v w : World) (W : World) : Prop :=
  W.cell? ⟨X, 0, none⟩ = some a0 ∧ W.cell? ⟨X, 1, none⟩ = some a1 ∧ W.cell? ⟨Y, 0, none⟩ = some b0 ∧ W.cell? ⟨Y, 1, none⟩ = some b1 ∧ Hid (Below v.heap.size v W) ∧ Hid (Below w.heap.size w W)
theorem T4.step {X Y : Nat} {a0 a1 b0 b1 : Value} {v w W W' : World} (h : T4 X Y a0 a1 b0 b1 v w W) (hX : X < W.heap.size) (hY : Y < W.heap.size) (hb : Below W.heap.size W W') : T4 X Y a0 a1 b0 b1 v w W' :=
  ⟨(hb.cell (p := ⟨X, 0, none⟩) hX).trans h.1, (hb.cell (p := ⟨X, 1, none⟩) hX).trans h.2.1, (hb.cell (p := ⟨Y, 0, none⟩) hY).trans h.2.2.1, (hb.cell (p := ⟨Y, 1, none⟩) hY).trans h.2.2.2.1, below_of h.2.2.2.2.1.out hb, below_of h.2.2.2.2.2.out hb⟩
/-- the two paths that the statement 'p, q := ..' takes -/
def PQ (w : World) (p q : PV) (s t : Value) (W : World) : Prop :=
  ∃ P Q, s = .pointer (some ⟨P, 0, none⟩) ∧ t = .pointer (some ⟨Q, 0, none⟩) ∧ P < W.heap.size ∧ Q < W.heap.size ∧ (W.cell? ⟨P, 0, none⟩ = some (.int .i64 p.iface) ∧ W.cell? ⟨P, 1, none⟩ = some (.int .u32 p.addr) ∧ W.cell? ⟨P, 2, none⟩ = some (.int .u32 p.router)) ∧
    (W.cell? ⟨Q, 0, none⟩ = some (.int .i64 q.iface) ∧ W.cell? ⟨Q, 1, none⟩ = some (.int .u32 q.addr) ∧ W.cell? ⟨Q, 2, none⟩ = some (.int .u32 q.router)) ∧ Below w.heap.size w W
end Go.Proofs.Ytlcgjgmhllmekaa
