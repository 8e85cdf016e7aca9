/- The reference's Fail: the walk. -/
import Derived.Test.YtlcgjgmhllmekaaDat
namespace Go.Proofs.Ytlcgjgmhllmekaa
open Go.RowKit

/-- the world in the midst of the loop of the reference's Fail -/
structure RInv (w wr : World) (A : Option Addr) (act : Int) (M n cA : Nat) (v : Value) (k : Nat) (qs : List PV) : Prop where
  b0 : wr.cell? ⟨w.heap.size, 0, none⟩ = some (.int .i64 act)
  b1 : wr.cell? ⟨w.heap.size, 1, none⟩ = some (.slice A n cA)
  r0 : wr.cell? ⟨w.heap.size + 1, 0, none⟩ = some (.int .i64 0)
  r1 : wr.cell? ⟨w.heap.size + 1, 1, none⟩ = some (.slice none 0 0)
  f0 : wr.frozen? ⟨w.heap.size + 1, 0, none⟩ = false
  f1 : wr.frozen? ⟨w.heap.size + 1, 1, none⟩ = false
  o0 : wr.cell? ⟨M, 0, none⟩ = some (.int .i64 act)
  o1 : wr.cell? ⟨M, 1, none⟩ = some v
  fo : wr.frozen? ⟨M, 1, none⟩ = false
  row : wr.ownsRow (M + 1) 38 6 v k (qs.flatMap PV.vals)
  len : qs.length = k
  labs : ∀ p ∈ qs, Ints wr wr.heap.size .i64 p.A p.ln p.lc p.ls ∧ FreshL (M + 1) p ∧ ∀ g, v.ownBlock = some g → Apart g p.A p.ln
  bel : Below w.heap.size w wr
  mg : w.heap.size + 2 ≤ M ∧ M < wr.heap.size
section
variable {w wr w' : World} {A : Option Addr} {act : Int} {M n cA k : Nat} {v : Value} {qs : List PV}
theorem RInv.lt (h : RInv w wr A act M n cA v k qs) : ∀ g, v.ownBlock = some g → M + 1 ≤ g ∧ g < wr.heap.size := fun g hg => h.row.lt g hg
theorem ownsRow_below {base e size l : Nat} {us : List Value} (h : wr.ownsRow base e size v l us) (hb : Below wr.heap.size wr w') : w'.ownsRow base e size v l us := by
  obtain ⟨h1, h2⟩ := h
  refine ⟨h1, ?_⟩
  rcases h2 with h2 | ⟨g', cap, cur, hv, hg, hh, r⟩
  · exact .inl h2
  · refine .inr ⟨g', cap, cur, hv, hg, ?_, r⟩
    rw [hb.block g' ?_]
    · exact hh
    · rcases Nat.lt_or_ge g' wr.heap.size with hl | hl
      · exact hl
      · rw [Array.getElem?_eq_none hl] at hh
        cases hh
theorem RInv.below (h : RInv w wr A act M n cA v k qs) (hb : Below wr.heap.size wr w') : RInv w w' A act M n cA v k qs := by
  have h2 := h.mg
  have k1 : ∀ b o, b < wr.heap.size → w'.cell? ⟨b, o, none⟩ = wr.cell? ⟨b, o, none⟩ := fun b o hb' => hb.cell (p := ⟨b, o, none⟩) hb'
  have kf : ∀ b o, b < wr.heap.size → w'.frozen? ⟨b, o, none⟩ = wr.frozen? ⟨b, o, none⟩ := fun b o hb' => hb.frozen (p := ⟨b, o, none⟩) hb'
  exact ⟨(k1 _ _ (by omega)).trans h.b0, (k1 _ _ (by omega)).trans h.b1, (k1 _ _ (by omega)).trans h.r0, (k1 _ _ (by omega)).trans h.r1, (kf _ _ (by omega)).trans h.f0, (kf _ _ (by omega)).trans h.f1, (k1 _ _ (by omega)).trans h.o0, (k1 _ _ (by omega)).trans h.o1, (kf _ _ (by omega)).trans h.fo,
    ownsRow_below h.row hb, h.len, fun p hp => ⟨((h.labs p hp).1.below hb).more hb.size, (h.labs p hp).2⟩, h.bel.trans (hb.mono h.bel.size), h2.1, Nat.lt_of_lt_of_le h2.2 hb.size⟩
theorem Ints.other {B B' : Nat} {i : IntKind} {A : Option Addr} {m d : Nat} {xs : List Int} (h : Ints wr B i A m d xs) (hB : B ≤ B') (hk : 0 < m → ∀ ad, A = some ad → w'.heap[ad.block]? = wr.heap[ad.block]?) : Ints w' B' i A m d xs := by
  refine ⟨h.1, h.2.1, h.2.2.1, fun hm => ?_⟩
  obtain ⟨b, o, e, hb, hc⟩ := h.2.2.2 hm
  have hh := hk hm _ e
  exact ⟨b, o, e, by omega, fun j hj => by rw [← hc j hj]; exact World.cell?_of_block (w := wr) hh⟩
/-- one path is appended -/
theorem RInv.app (h : RInv w wr A act M n cA v k qs) {W : World} (hW : Below wr.heap.size wr W) {q : PV} (hi : Ints W W.heap.size .i64 q.A q.ln q.lc q.ls) (hf : FreshL wr.heap.size q) {v' : Value} {o : Obj}
    (hrow : w'.ownsRow (M + 1) 38 6 v' (k + 1) (qs.flatMap PV.vals ++ q.vals)) (hg : (W.alloc o).grownBy w' v.ownBlock) (hv : v'.ownBlock = v.ownBlock ∨ v'.ownBlock = some (W.heap.size + 1)) :
    RInv w (w'.setCell ⟨M, 1, none⟩ v') A act M n cA v' (k + 1) (qs ++ [q]) := by
  have hl := h.lt
  have h2 := h.mg
  have hs := hW.size
  have hs2 : W.heap.size + 1 ≤ w'.heap.size := by have := hg.size; simpa using this
  have key : ∀ b, b < W.heap.size → (∀ g, v.ownBlock = some g → b ≠ g) → w'.heap[b]? = W.heap[b]? := fun b hb hne =>
    (hg.block b (by simp; omega) (fun e => hne b e.symm rfl)).trans (Below.heap_alloc W o b hb)
  have key1 : ∀ b, b < M + 1 → w'.heap[b]? = wr.heap[b]? := fun b hb => (key b (by omega) (fun g hg => by have := hl g hg; omega)).trans (hW.block b (by omega))
  have c1 : ∀ b o, b < M → (w'.setCell ⟨M, 1, none⟩ v').cell? ⟨b, o, none⟩ = wr.cell? ⟨b, o, none⟩ := fun b o hb =>
    (World.cell?_setCell_other w' _ _ _ (fun e => by injection e with e; omega)).trans (World.cell?_of_block (w := wr) (key1 b (by omega)))
  have c2 : ∀ b o, b < M + 1 → (w'.setCell ⟨M, 1, none⟩ v').frozen? ⟨b, o, none⟩ = wr.frozen? ⟨b, o, none⟩ := fun b o hb => by
    rw [show (w'.setCell ⟨M, 1, none⟩ v').frozen? ⟨b, o, none⟩ = w'.frozen? ⟨b, o, none⟩ by go_simp]
    exact World.frozen?_of_block (w := wr) (key1 b hb)
  have d1 : w'.cell? ⟨M, 1, none⟩ = some v := (World.cell?_of_block (w := wr) (key1 M (by omega))).trans h.o1
  have d0 : w'.cell? ⟨M, 0, none⟩ = some (.int .i64 act) := (World.cell?_of_block (w := wr) (key1 M (by omega))).trans h.o0
  have hsz : (w'.setCell ⟨M, 1, none⟩ v').heap.size = w'.heap.size := by simp [World.setCell]
  have hrow2 : (w'.setCell ⟨M, 1, none⟩ v').ownsRow (M + 1) 38 6 v' (k + 1) ((qs ++ [q]).flatMap PV.vals) := by
    rw [List.flatMap_append]
    simpa using ownsRow_setCell_below hrow (by show M < _; omega) v'
  refine ⟨(c1 _ _ (by omega)).trans h.b0, (c1 _ _ (by omega)).trans h.b1, (c1 _ _ (by omega)).trans h.r0, (c1 _ _ (by omega)).trans h.r1, (c2 _ _ (by omega)).trans h.f0, (c2 _ _ (by omega)).trans h.f1, by go_simp, by go_simp, (c2 _ _ (by omega)).trans h.fo,
    hrow2, by rw [List.length_append, h.len]; rfl, fun p hp => ?_, ?_, h2.1, by rw [hsz]; omega⟩
  · have hM : ∀ p : PV, FreshL (M + 1) p → Apart M p.A p.ln := fun p hp hm ad had => by
      have := hp hm ad had
      omega
    rw [hsz]
    rcases List.mem_append.1 hp with hp | hp
    · obtain ⟨i1, i2, i3⟩ := h.labs p hp
      have lt : 0 < p.ln → ∀ ad, p.A = some ad → ad.block < wr.heap.size := fun hm ad had => by
        obtain ⟨b, o, e, hb, _⟩ := i1.2.2.2 hm
        rw [e] at had
        injection had with had
        subst had
        exact hb
      refine ⟨(i1.other (w' := w') (by omega) fun hm ad had => (key _ (by have := lt hm ad had; omega) (fun g hg => i3 g hg hm ad had)).trans (hW.block _ (lt hm ad had))).setApart (hM p i2) 1 v', i2, fun g hg hm ad had => ?_⟩
      rcases hv with e | e
      · exact i3 g (by rw [← e]; exact hg) hm ad had
      · rw [e] at hg
        injection hg with hg
        have := lt hm ad had
        omega
    · obtain rfl : p = q := by simpa using hp
      have i2 : FreshL (M + 1) p := fun hm ad had => by have := hf hm ad had; omega
      have lt : 0 < p.ln → ∀ ad, p.A = some ad → ad.block < W.heap.size := fun hm ad had => by
        obtain ⟨b, o, e, hb, _⟩ := hi.2.2.2 hm
        rw [e] at had
        injection had with had
        subst had
        exact hb
      refine ⟨(hi.other (w' := w') (by omega) fun hm ad had => key _ (lt hm ad had) (fun g hg => by have := hl g hg; have := hf hm ad had; omega)).setApart (hM p i2) 1 v', i2, fun g hg hm ad had => ?_⟩
      have := hf hm ad had
      have := lt hm ad had
      rcases hv with e | e
      · rw [e] at hg
        have := hl g hg
        omega
      · rw [e] at hg
        injection hg with hg
        omega
  · have hb1 : Below w.heap.size w (W.alloc o) := (h.bel.trans (hW.mono h.bel.size)).alloc (by have := h.bel.size; omega) o
    exact (hb1.grown hg (by have := h.bel.size; simp; omega) (fun g hg => by have := hl g hg; omega)).setCell (p := ⟨M, 1, none⟩) (by show _ ≤ M; omega) v'
theorem RInv.after (h : RInv w wr A act M n cA v k qs) {W : World} (hW : Below wr.heap.size wr W) {o : Obj} (hg : (W.alloc o).grownBy w' v.ownBlock) : w'.cell? ⟨M, 1, none⟩ = some v ∧ w'.frozen? ⟨M, 1, none⟩ = false := by
  have h2 := h.mg
  have hs := hW.size
  have key : w'.heap[M]? = wr.heap[M]? := ((hg.block M (by simp; omega) (fun e => by have := h.lt M e.symm; omega)).trans (Below.heap_alloc W o M (by omega))).trans (hW.block M h2.2)
  exact ⟨(World.cell?_of_block (w := wr) key).trans h.o1, (World.frozen?_of_block (w := wr) key).trans h.fo⟩
end
theorem vals_one1 (q : PV) : ∀ u ∈ q.vals, u.oneCell' = true := fun u hu => vals_one [q] u (by simpa using hu)
theorem copy_fresh (A : Option Addr) (n c : Nat) (xs : List Int) (w : World) (hx : Ints w w.heap.size .i64 A n c xs) (hn : n ≤ 17592186044416) :
    Calls Try.prog 18 #[.slice A n c, .slice none 0 0] w (GivesFresh n xs w) := by
  refine (copyInts_any A none n c 0 0 xs [] w hx (Ints.nil _ _ _) (by omega)).mono ?_
  rintro e w' ⟨A2, d2, rfl, ho, hb⟩
  rw [List.append_nil] at ho
  exact ⟨A2, d2, rfl, ho.ints, fun _ ad had => (World.ownsRow.lt ho ad.block (by rw [had]; rfl)).1, hb⟩
theorem take_step {fs : List PV} {k : Nat} {qs : List PV} {q f : PV} (h : qs.map PV.dat = fs.take k) (hf : fs[k]? = some f) (hq : q.dat = f) : (qs ++ [q]).map PV.dat = fs.take (k + 1) := by
  rw [List.map_append, h, List.take_add_one, hf, ← hq]
  rfl
end Go.Proofs.Ytlcgjgmhllmekaa
