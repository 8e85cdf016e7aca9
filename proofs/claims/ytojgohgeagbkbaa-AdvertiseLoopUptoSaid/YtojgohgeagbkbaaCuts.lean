/- Cuts of slices; fresh copies of numbers. -/
import Derived.Test.YtojgohgeagbkbaaSame17
namespace Go.Proofs.Ytojgohgeagbkbaa
open Go.RowKit
section
variable {P : Program} {T E : TypeId} {w : World} {B size n c : Nat} {k : IntKind} {A : Option Addr} {xs : List Int} {vs : List Value}
/-- the lower end is left out -/
theorem Cells.sliceTo (hT : P.underlying T = some (.slice E)) (hE : (P.info? E).map (fun i => i.size) = some size) (h : Cells w B size A n c vs) {hi : Nat} (h2 : hi ≤ n) :
    ∃ A' c', (∀ w' : World, (Instr.slice T (.slice A n c) none (some (.int .i64 hi)) none).run P w' = .ok (.slice A' hi c') w') ∧ Cells w B size A' hi c' (vs.take (hi * size)) := by
  obtain ⟨A', c', hs, hy⟩ := h.slice hT hE (lo := 0) (hi := hi) (Nat.zero_le _) h2
  refine ⟨A', c', fun w' => ?_, by simpa using hy⟩
  have := hs w'
  rw [Nat.sub_zero] at this
  rw [← this]
  rfl
/-- cut with a capacity -/
theorem Cells.slice3 (hT : P.underlying T = some (.slice E)) (hE : (P.info? E).map (fun i => i.size) = some size) (h : Cells w B size A n c vs) {hi : Nat} (h2 : hi ≤ n) :
    ∃ A', (∀ w' : World, (Instr.slice T (.slice A n c) none (some (.int .i64 hi)) (some (.int .i64 hi))).run P w' = .ok (.slice A' hi hi) w') ∧ Cells w B size A' hi hi (vs.take (hi * size)) := by
  obtain ⟨ha, hb, hc, hd⟩ := h
  obtain ⟨i, hi', hs⟩ : ∃ i, P.info? E = some i ∧ i.size = size := by
    cases h : P.info? E with
    | none => rw [h] at hE; cases hE
    | some i => rw [h] at hE; exact ⟨i, rfl, by simpa using hE⟩
  have hm2 : hi * size ≤ n * size := Nat.mul_le_mul_right _ h2
  refine ⟨if hi = 0 then A else A.map (·.add 0), fun w' => ?_, Nat.le_refl _, by omega, by rw [List.length_take, hc]; omega, fun hn => ?_⟩
  · have e1 : (0 : Int) ≤ (hi : Int) := by omega
    have e3 : (hi : Int) ≤ (c : Int) := by omega
    simp [Instr.slice, run_underlying hT, Instr.sliceBounds, run_sliceBound, e1, e3, sizeOf, typeInfo, hi']
  · obtain ⟨b, o, rfl, hbB, hcell⟩ := hd (by omega)
    refine ⟨b, o, by split <;> simp [Addr.add], hbB, fun j hj => ?_⟩
    rw [hcell j (by omega), List.getElem?_take, if_pos hj]
theorem Ints.sliceTo (hT : P.underlying T = some (.slice E)) (hE : (P.info? E).map (fun i => i.size) = some 1) (h : Ints w B k A n c xs) {hi : Nat} (h2 : hi ≤ n) :
    ∃ A' c', (∀ w' : World, (Instr.slice T (.slice A n c) none (some (.int .i64 hi)) none).run P w' = .ok (.slice A' hi c') w') ∧ Ints w B k A' hi c' (xs.take hi) := by
  obtain ⟨A', c', hs, hy⟩ := Cells.sliceTo hT hE h h2
  exact ⟨A', c', hs, by unfold Ints; rw [List.map_take]; simpa using hy⟩
theorem Ints.slice3 (hT : P.underlying T = some (.slice E)) (hE : (P.info? E).map (fun i => i.size) = some 1) (h : Ints w B k A n c xs) {hi : Nat} (h2 : hi ≤ n) :
    ∃ A', (∀ w' : World, (Instr.slice T (.slice A n c) none (some (.int .i64 hi)) (some (.int .i64 hi))).run P w' = .ok (.slice A' hi hi) w') ∧ Ints w B k A' hi hi (xs.take hi) := by
  obtain ⟨A', hs, hy⟩ := Cells.slice3 hT hE h h2
  exact ⟨A', hs, by unfold Ints; rw [List.map_take]; simpa using hy⟩
end
/-- the empty literal -/
theorem own_lit0 (W : World) : Own (W.alloc (.cells #[] 3)) W.heap.size 3 .i64 (.slice (some ⟨W.heap.size, 0, none⟩) 0 0) 0 [] :=
  World.ownsRow_lit (base := W.heap.size) (size := 1) W #[] 0 (Nat.le_refl _) (by simp [maxLen]) rfl
/-- append([]int{}, l...) -/
theorem copy_ints {W : World} {B N n c : Nat} {A : Option Addr} {ys : List Int} (hy : Ints W B .i64 A n c ys) (hB : B ≤ W.heap.size) (hN : N = W.heap.size) (hl : n ≤ 17592186044416) :
    ∃ A' c' w', (Builtin.append_ #[52, 52] 52 #[.slice (some ⟨N, 0, none⟩) 0 0, .slice A n c]).run Try.prog (W.alloc (.cells #[] 3)) = .ok (.slice A' n c') w' ∧ Own w' W.heap.size 3 .i64 (.slice A' n c') n ys ∧ Below W.heap.size W w' := by
  subst hN
  have hba := belowA W (.cells #[] 3)
  obtain ⟨A', c', w', h1, h2, h3⟩ := push_ints (own_lit0 W) (hy.below (hba.mono hB)) hba.size (by omega)
  rw [Nat.zero_add] at h1 h2
  exact ⟨A', c', w', h1, h2, hba.trans h3⟩
/-- new numbers lie elsewhere than an older row -/
theorem free_new {W w' : World} {base lo lo' m n c : Nat} {v : Value} {ts : Path} {A : Option Addr} {ys : List Int} {e : TypeId} {k : IntKind} (h : SOut W base lo v m ts) (ho : Own w' W.heap.size e k (.slice A n c) n ys) (hl : lo' ≤ W.heap.size) : Free lo' v A n := by
  intro hn ad ha
  have h1 := World.ownsRow.lt ho ad.block (by rw [ha]; rfl)
  refine ⟨by omega, fun h2 => ?_⟩
  have := (h.block _ h2).2
  omega
/-- older numbers lie elsewhere than a row of the call's own -/
theorem free_old {W : World} {base B lo m n c : Nat} {v : Value} {ts : Path} {A : Option Addr} {ys : List Int} {k : IntKind} (h : SOut W base lo v m ts) (hy : Ints W B k A n c ys) (hB : B ≤ base) : Free 0 v A n := by
  intro hn ad ha
  obtain ⟨b, o, e, hb, _⟩ := hy.2.2.2 (by omega)
  rw [e] at ha
  obtain rfl := Option.some.inj ha
  refine ⟨Nat.zero_le _, fun h2 => ?_⟩
  have := (h.block _ h2).1
  dsimp only at this
  omega
/-- an append whose run is known, in a region that draws -/
theorem step_append_run {P : Program} {ops : Array Oper} {o : Oper} {a : Act} {w w' : World} {K : Act → World → Prop} {Q : Exit → Act → World → Prop} {E : Prop} (hgd : o.guard = none) (s x : Operand) (t : TypeId)
    (ho : o.op = .call { callee := .builtin .append, args := #[s, x], argTypes := #[t, t] }) {v xv v' : Value} (hs : a.eval s = v) (hx : a.eval x = xv)
    (hr : (Builtin.append_ #[t, t] o.type #[v, xv]).run P w = .ok v' w') (h : K (a.put o.dst v') w') :
    if Region.wanted o (yielded ops a.tmps) = true then Oper.wp P o a w K Q else E := by
  have hw : Region.wanted o (yielded ops a.tmps) = true := by simp [Region.wanted, hgd]
  rw [if_pos hw]
  unfold Oper.wp execOp
  simp only [ho, resolve, invoke, builtin, Sem.run_bind, Sem.run_pure, Result.andThen_ok, List.map_toArray, List.map_cons, List.map_nil, hs, hx, hr]
  exact h
/-- the same, the temporary named -/
theorem step_append_at {P : Program} {ops : Array Oper} {o : Oper} {a : Act} {w w' : World} {K : Act → World → Prop} {Q : Exit → Act → World → Prop} {E : Prop} (d : Option Tmp) (hd : o.dst = d) (hgd : o.guard = none) (s x : Operand) (t : TypeId)
    (ho : o.op = .call { callee := .builtin .append, args := #[s, x], argTypes := #[t, t] }) {v xv v' : Value} (hs : a.eval s = v) (hx : a.eval x = xv)
    (hr : (Builtin.append_ #[t, t] o.type #[v, xv]).run P w = .ok v' w') (h : K (a.put d v') w') :
    if Region.wanted o (yielded ops a.tmps) = true then Oper.wp P o a w K Q else E := by
  subst hd
  exact step_append_run hgd s x t ho hs hx hr h
/-- append of one segment: what lies elsewhere is kept -/
theorem SOut.pushFar {w : World} {base lo l N : Nat} {v : Value} {ts : Path} (h : SOut w base lo v l ts) (kind : Int) {A : Option Addr} {n c : Nat} {xs : List Int} (hx : Ints w w.heap.size .i64 A n c xs) (hf : Free lo v A n) (hN : N = w.heap.size) (hbase : base ≤ w.heap.size) (hl : l ≤ 1000000000000) :
    ∃ A' c' w', (Builtin.append_ #[35, 35] 35 #[v, .slice (some ⟨N, 0, none⟩) 1 1]).run Try.prog (w.alloc (.cells #[.int .i64 kind, .slice A n c] 75)) = .ok (.slice A' (l + 1) c') w' ∧ SOut w' base lo (.slice A' (l + 1) c') (l + 1) (ts ++ [(kind, xs)]) ∧ Below base w w' ∧
      ∀ q : Addr, q.block < w.heap.size → v.ownBlock ≠ some q.block → w'.cell? q = w.cell? q := by
  subst hN
  have hrow := h.block
  obtain ⟨W, hW⟩ : ∃ W, w.alloc (.cells #[.int .i64 kind, .slice A n c] 75) = W := ⟨_, rfl⟩
  have hbel : Below w.heap.size w W := by rw [← hW]; exact belowA _ _
  have hlit : Cells W W.heap.size 2 (some ⟨w.heap.size, 0, none⟩) 1 1 [.int .i64 kind, .slice A n c] := by
    rw [← hW]
    exact Cells.of_own (World.ownsRow_lit (base := w.heap.size) (size := 2) w #[.int .i64 kind, .slice A n c] 1 (Nat.le_refl _) (by simp [maxLen]) rfl)
  obtain ⟨A', c', w', k1, k2, k3, k4⟩ := (h.below hbel).append (by have := hbel.size; omega) (by omega) [⟨kind, A, n, c, xs⟩] ⟨hlit, rfl⟩ (us := [(kind, xs)]) rfl (fun t ht => by
    obtain rfl : t = ⟨kind, A, n, c, xs⟩ := by simpa using ht
    exact ⟨(hx.below hbel).more hbel.size, hf⟩)
  rw [hW]
  exact ⟨A', c', w', k1, k2, (hbel.mono hbase).grown k3 (by have := hbel.size; omega) (fun k hk => (hrow k hk).1), fun q hq hne => (k3.cell_far q (Nat.lt_of_lt_of_le hq hbel.size) (fun e => hne e.symm)).trans (hbel.cell hq)⟩
/-- what a call that makes a path returns -/
def GivesSegs (ps : Path) (w : World) (e : Ending) (w' : World) : Prop := ∃ A m c, e = .returned (.slice A m c) ∧ SOut w' w.heap.size w.heap.size (.slice A m c) m ps ∧ Below w.heap.size w w'
end Go.Proofs.Ytojgohgeagbkbaa
