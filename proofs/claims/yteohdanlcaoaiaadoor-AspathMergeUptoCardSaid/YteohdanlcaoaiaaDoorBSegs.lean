/- Paths as arguments, with the bound on their bulk. -/
import Derived.Test.YteohdanlcaoaiaaDoorMerge
import Derived.Test.YteohdanlcaoaiaaDoorOpen
import Derived.Test.YteohdanlcaoaiaaDoorBound03
import Derived.ProofKit
namespace Go.Proofs.YteohdanlcaoaiaaDoor
open Go.ChangeShapes Go.WideShapes Go.ChangeAt Go.RowKit

theorem bulk_pos {H : Type} (d : DataW H) : 1 ≤ Rows.uptoBulk d := by
  cases d with
  | lit l => cases l <;> simp [Rows.uptoBulk]
  | nil => simp [Rows.uptoBulk]
  | ptr d => simp [Rows.uptoBulk]
  | slice elems spare => simp [Rows.uptoBulk]
  | agg parts => simp [Rows.uptoBulk]
  | iface t d => simp [Rows.uptoBulk]
  | map entries => simp [Rows.uptoBulk]
  | held h => simp [Rows.uptoBulk]
theorem bulk_len {H : Type} : ∀ l : List (DataW H), l.length ≤ Rows.uptoBulkAll l
  | [] => by simp
  | d :: r => by
    have := bulk_len r
    have := bulk_pos d
    simp only [Rows.uptoBulkAll, List.length_cons]
    omega
theorem bulk_part {H : Type} {d : DataW H} : ∀ {l : List (DataW H)}, d ∈ l → Rows.uptoBulk d ≤ Rows.uptoBulkAll l
  | [], h => by cases h
  | x :: r, h => by
    simp only [Rows.uptoBulkAll]
    rcases List.mem_cons.1 h with rfl | h
    · omega
    · have := bulk_part h
      omega
theorem addr_add (a : Addr) (i j : Nat) : (a.add i).add j = a.add (i + j) := by
  unfold Addr.add
  by_cases hi : i = 0 <;> by_cases hj : j = 0 <;> simp [hi, hj, Nat.add_assoc]
theorem lits_bulk {H : Type} {k : IntKind} : ∀ xs : List Int, xs.length ≤ Rows.uptoBulkAll (H := H) (lits k xs)
  | [] => by simp
  | x :: r => by
    have := lits_bulk (H := H) (k := k) r
    have e : (lits k (x :: r) : List (DataW H)) = .lit (.int k x) :: lits k r := rfl
    rw [e]
    simp only [Rows.uptoBulkAll, Rows.uptoBulk, List.length_cons]
    omega
section
variable {H : Type} {enc : TypeId × Value → H} {W : World}
theorem ints_trod {fuel : Nat} {cs : List Value} {x : DataW H × List MemPlace} (h : DataW.trod enc Tryd.prog W 0 (fun _ => true) true fuel 30 cs = some x) :
    ∃ A n c xs, cs = [.slice A n c] ∧ Ints W W.heap.size .i64 A n c xs ∧ xs.length ≤ Rows.uptoBulk x.1 := by
  have hc : Tryd.prog.cellsOf 3 = 1 := by kernel_rfl
  rcases open_ints Tryd.underlying30 Tryd.underlying3 hc h with ⟨rfl, _⟩ | ⟨a, l, c, zs, rfl, _, hl, hm, hz, hx, hcell, hwz⟩
  · exact ⟨none, 0, 0, [], rfl, Ints.nil _ _ _, by simp⟩
  · have hz' : zs.length = c := by simpa using hz
    refine ⟨some a, l, c, zs.take l, rfl, ⟨hl, hm, by simp; omega, fun hn => ?_⟩, ?_⟩
    · obtain ⟨b, off, spot⟩ := a
      have hc0 := hcell 0 (by omega)
      have hs : spot = none := by simpa [Addr.add] using World.cell?_spot hc0
      subst hs
      refine ⟨b, off, rfl, World.block_lt_of_cell? W ⟨b, off, none⟩ (by simpa [Addr.add] using hc0), fun j hj => ?_⟩
      have hj' : j < zs.length := by omega
      have hcj := hcell j hj'
      have e1 : (⟨b, off, none⟩ : Addr).add j = ⟨b, off + j, none⟩ := by by_cases h0 : j = 0 <;> simp [Addr.add, h0]
      rw [e1] at hcj
      have hjl : j < l := by omega
      rw [hcj, List.getElem?_map, List.getElem?_take, if_pos hjl, List.getElem?_eq_getElem hj', List.getD_eq_getElem?_getD, List.getElem?_eq_getElem hj']
      rfl
    · have hd : x.1 = .slice (lits .i64 (zs.take l)) (lits .i64 (zs.drop l)) := congrArg Prod.fst hx
      rw [hd]
      have := lits_bulk (H := H) (k := .i64) (zs.take l)
      simp only [Rows.uptoBulk]
      omega
set_option maxRecDepth 100000 in
theorem seg_trod {fuel : Nat} {cs : List Value} {x : DataW H × List MemPlace} (h : DataW.trod enc Tryd.prog W 0 (fun _ => true) true fuel 46 cs = some x) :
    ∃ f : SV, cs = f.vals ∧ Ints W W.heap.size .i64 f.A f.n f.c f.xs ∧ 1 + f.xs.length ≤ Rows.uptoBulk x.1 := by
  obtain ⟨y0, y1, m, rfl, hl, h0, h1⟩ := trod_struct2 Tryd.underlying46 h
  have hlen : cs.length = 2 := hl.trans (by kernel_rfl)
  match cs, hlen with
  | [c0, c1], _ =>
    have k0 : Tryd.prog.cellsOf 3 = 1 := by kernel_rfl
    have k1 : Tryd.prog.cellsOf 30 = 1 := by kernel_rfl
    have h0' : DataW.trod enc Tryd.prog W 0 (fun _ => true) true m 3 [c0] = some y0 := by
      have := h0
      simp only [k0] at this
      simpa using this
    have h1' : DataW.trod enc Tryd.prog W 0 (fun _ => true) true m 30 [c1] = some y1 := by
      have := h1
      simp only [k1] at this
      simpa using this
    obtain ⟨kind, e0, _, w0⟩ := DataW.trod_int Tryd.underlying3 h0'
    obtain ⟨A, n, c, xs, e1, g1, g2⟩ := ints_trod h1'
    simp only [List.cons.injEq, and_true] at e0 e1
    subst e0 e1
    refine ⟨⟨kind, A, n, c, xs⟩, rfl, g1, ?_⟩
    have := bulk_pos y0.1
    simp only [Rows.uptoBulk, Rows.uptoBulkAll]
    omega
def wtF (f : SV) : Nat := 1 + f.xs.length
/-- chunks, with a weight -/
theorem chunksM : ∀ (n : Nat) (vs : List Value) (el : List (DataW H)), vs.length = n * 2 → el.length = n → (∀ i, i < n → ∃ f : SV, (vs.drop (i * 2)).take 2 = f.vals ∧ Ints W W.heap.size .i64 f.A f.n f.c f.xs ∧ ∀ d, el[i]? = some d → 1 + f.xs.length ≤ Rows.uptoBulk d) →
    ∃ fs : List SV, fs.length = n ∧ vs = fs.flatMap SV.vals ∧ (∀ f ∈ fs, Ints W W.heap.size .i64 f.A f.n f.c f.xs) ∧ (fs.map wtF).sum ≤ Rows.uptoBulkAll el
  | 0, vs, el, hl, _, _ => ⟨[], rfl, by simpa using hl, by simp, by simp⟩
  | n + 1, vs, el, hl, he, h => by
    rw [Nat.succ_mul] at hl
    cases el with
    | nil => simp at he
    | cons d el =>
      obtain ⟨f, hf, hq, hw⟩ := h 0 (by omega)
      obtain ⟨fs, h1, h2, h3, h4⟩ := chunksM n (vs.drop 2) el (by rw [List.length_drop, hl]; omega) (by simpa using he) (fun i hi => by
        obtain ⟨f', hf', hq', hw'⟩ := h (i + 1) (by omega)
        refine ⟨f', ?_, hq', fun d' hd' => hw' d' (by simpa using hd')⟩
        rw [List.drop_drop, ← hf', Nat.succ_mul, Nat.add_comm])
      refine ⟨f :: fs, by simp [h1], ?_, fun f' hf' => ?_, ?_⟩
      · rw [List.flatMap_cons, ← h2, ← hf]
        simp
      · rcases List.mem_cons.1 hf' with rfl | hf'
        · exact hq
        · exact h3 _ hf'
      · have h5 := hw d rfl
        have h6 : wtF f = 1 + f.xs.length := rfl
        simp only [List.map_cons, List.sum_cons, Rows.uptoBulkAll] at h4 ⊢
        omega
/-- a path as an argument -/
def PathIn (W : World) (v : Value) (M : Nat) : Prop := ∃ A n c p, v = .slice A n c ∧ Segs W W.heap.size A n c p ∧ p.length + (flat p).length ≤ M
theorem wt_sum : ∀ fs : List SV, (fs.map SV.key).length + (flat (fs.map SV.key)).length = (fs.map wtF).sum
  | [] => rfl
  | f :: fs => by
    have := wt_sum fs
    unfold flat wtF at this ⊢
    simp only [List.map_cons, List.length_cons, List.flatMap_cons, List.length_append, List.sum_cons] at this ⊢
    show (fs.map SV.key).length + 1 + (f.xs.length + _) = _
    omega
set_option maxRecDepth 100000 in
theorem open_path_dat {r : Reach} {b0 : Nat} {v : Value} {d : DataW H} {p : List MemPlace} (hv : Value.okWide Tryd.prog W r b0 22 v)
    (h : DataW.Trod enc Tryd.prog W 0 (fun _ => true) true 22 v d p) : PathIn W v (Rows.uptoBulk d) := by
  obtain ⟨a0, len0, cap0, rfl⟩ := okWide_slice Tryd.underlying22 hv
  obtain ⟨fuel, hf⟩ := h
  have k2 : Tryd.prog.cellsOf 46 = 2 := by kernel_rfl
  rcases DataW.trod_slice Tryd.underlying22 hf with ⟨e, _⟩ | ⟨a, len, cap, elems, rest, k, _, e, e2, _, hl, hm, hlen, hel, hsp, _⟩
  · simp [Value.cells] at e
    obtain ⟨rfl, rfl, rfl⟩ := e
    exact ⟨none, 0, 0, [], rfl, Segs.nil _ _, by simp [flat]⟩
  · simp [Value.cells] at e
    obtain ⟨rfl, rfl, rfl⟩ := e
    have hd : d = .slice (elems.map (·.1)) (rest.map (·.1)) := by have := congrArg Prod.fst e2; exact this
    rw [k2] at hel
    have each : ∀ i, i < len0 → ∃ vs : List Value, vs.length = 2 ∧ (∀ j, j < 2 → W.cell? ((a.add (i * 2)).add j) = vs[j]?) ∧ ∃ f : SV, vs = f.vals ∧ Ints W W.heap.size .i64 f.A f.n f.c f.xs ∧ ∀ d, (elems.map (·.1))[i]? = some d → 1 + f.xs.length ≤ Rows.uptoBulk d := by
      intro i hi
      have h1 := hel i hi
      have h2 : elems[i]? = some elems[i] := List.getElem?_eq_getElem (by omega)
      rw [h2] at h1
      obtain ⟨vs, h3, h4⟩ := Option.bind_eq_some_iff.1 h1
      obtain ⟨_, h5, h6⟩ := World.cells?_some h3
      obtain ⟨f, g1, g2, g3⟩ := seg_trod h4
      refine ⟨vs, h5, h6, f, g1, g2, fun d' hd' => ?_⟩
      rw [List.getElem?_map, h2] at hd'
      obtain rfl := Option.some.inj hd'
      exact g3
    have chunk : ∀ n, n ≤ len0 → ∃ vs : List Value, vs.length = n * 2 ∧ (∀ j, j < n * 2 → W.cell? (a.add j) = vs[j]?) ∧ ∀ i, i < n → ∃ f : SV, (vs.drop (i * 2)).take 2 = f.vals ∧ Ints W W.heap.size .i64 f.A f.n f.c f.xs ∧ ∀ d, (elems.map (·.1))[i]? = some d → 1 + f.xs.length ≤ Rows.uptoBulk d := by
      intro n
      induction n with
      | zero => intro _; exact ⟨[], by simp, fun j hj => absurd hj (by omega), fun i hi => absurd hi (by omega)⟩
      | succ n ih =>
        intro hn
        obtain ⟨vs, h1, h2, h3⟩ := ih (by omega)
        obtain ⟨us, g1, g2, g3⟩ := each n (by omega)
        have hsz : (n + 1) * 2 = n * 2 + 2 := Nat.succ_mul _ _
        refine ⟨vs ++ us, by rw [List.length_append, h1, g1, hsz], fun j hj => ?_, fun i hi => ?_⟩
        · by_cases hj' : j < n * 2
          · rw [h2 j hj', List.getElem?_append_left (by omega)]
          · rw [List.getElem?_append_right (by omega), h1, ← g2 (j - n * 2) (by omega), addr_add]
            congr 2
            omega
        · by_cases hi' : i < n
          · rw [List.drop_append_of_le_length (by omega), List.take_append_of_le_length (by simp; omega)]
            exact h3 i hi'
          · obtain rfl : i = n := by omega
            rw [← h1, List.drop_left, ← g1, List.take_length]
            exact g3
    obtain ⟨vs, h1, h2, h3⟩ := chunk len0 (Nat.le_refl _)
    obtain ⟨fs, q1, rfl, q3, q4⟩ := chunksM len0 vs (elems.map (·.1)) h1 (by rw [List.length_map]; exact hlen) h3
    refine ⟨some a, len0, cap0, fs.map SV.key, rfl, ⟨fs, ⟨⟨hl, hm, h1, fun hn => ?_⟩, q1⟩, rfl, q3⟩, ?_⟩
    · have hc0 := h2 0 (by omega)
      rw [List.getElem?_eq_getElem (by omega)] at hc0
      obtain ⟨b, off, spot⟩ := a
      have hsp : spot = none := by simpa [Addr.add] using World.cell?_spot hc0
      subst hsp
      refine ⟨b, off, rfl, World.block_lt_of_cell? W ⟨b, off, none⟩ (by simpa [Addr.add] using hc0), fun j hj => ?_⟩
      rw [← h2 j hj]
      by_cases h0 : j = 0 <;> simp [Addr.add, h0]
    · rw [wt_sum, hd]
      simp only [Rows.uptoBulk]
      omega
end
theorem path_bound {H : Type} {W : World} {v : Value} {d : DataW H} {r : List (DataW H)} (h : PathIn W v (Rows.uptoBulk d)) (hk : Rows.uptoSmall H (d :: r) = true) : PathIn W v 1048576 := by
  have hb := bulk_le hk
  simp only [Rows.uptoBulkAll] at hb
  obtain ⟨A, n, c, p, e, h1, h2⟩ := h
  exact ⟨A, n, c, p, e, h1, by omega⟩
theorem paths_bound {H : Type} {W : World} {v v' : Value} {d d' : DataW H} {r : List (DataW H)} (h : PathIn W v (Rows.uptoBulk d)) (h' : PathIn W v' (Rows.uptoBulk d')) (hk : Rows.uptoSmall H (d :: d' :: r) = true) : PathIn W v 1048576 ∧ PathIn W v' 1048576 := by
  have hb := bulk_le hk
  simp only [Rows.uptoBulkAll] at hb
  obtain ⟨A, n, c, p, e, h1, h2⟩ := h
  obtain ⟨A', n', c', p', e', h1', h2'⟩ := h'
  exact ⟨⟨A, n, c, p, e, h1, by omega⟩, ⟨A', n', c', p', e', h1', by omega⟩⟩
end Go.Proofs.YteohdanlcaoaiaaDoor
