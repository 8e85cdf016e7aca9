/- Lists of typed fields: the plain decoder; a list that a call makes. -/
import Derived.Test.YtonckpcbehobhaaDoorSliceU
import Derived.Test.YtonckpcbehobhaaDoorAwake03
import Derived.RegionTactic
namespace Go.Proofs.YtonckpcbehobhaaDoor
open Go.RowKit

/-- the plain decoder -/
def tl : Nat → List Int → Option (List (Int × List Int))
  | 0, _ => some []
  | k + 1, l =>
    if l.length = 0 then some [] else if l.length < 3 then none else
    if (l.length : Int) - 3 < num l 1 2 then none else
    (tl k (l.drop (3 + (num l 1 2).toNat))).map fun r => (l.getD 0 0, (l.drop 3).take (num l 1 2).toNat) :: r
def tlR (l : List Int) : List (Int × List Int) × Int := match tl l.length l with | some ts => (ts, 0) | none => ([], 3)
theorem tl_nil (k : Nat) {l : List Int} (h : l.length = 0) : tl k l = some [] := by
  cases k with
  | zero => rfl
  | succ k => rw [tl, if_pos h]
theorem tl_short {k : Nat} {l : List Int} (hk : l.length ≤ k) (h0 : ¬ l.length = 0) (h : l.length < 3 ∨ (l.length : Int) - 3 < num l 1 2) : tl k l = none := by
  obtain ⟨j, rfl⟩ : ∃ j, k = j + 1 := ⟨k - 1, by omega⟩
  rw [tl, if_neg h0]
  by_cases h1 : l.length < 3
  · rw [if_pos h1]
  · rw [if_neg h1, if_pos (by omega)]
theorem tl_step {k : Nat} {l : List Int} {n : Nat} (h : 3 ≤ l.length) (hn : num l 1 2 = (n : Int)) (hl : 3 + n ≤ l.length) : tl (k + 1) l = (tl k (l.drop (3 + n))).map fun r => (l.getD 0 0, (l.drop 3).take n) :: r := by
  rw [tl, if_neg (by omega), if_neg (by omega), hn, if_neg (by omega), Int.toNat_natCast]
/-- a field in memory -/
structure FV where
  kind : Int
  A : Option Addr
  n : Nat
  c : Nat
  xs : List Int
def FV.vals (t : FV) : List Value := [.int .i64 t.kind, .slice t.A t.n t.c]
theorem FV.vals_len (t : FV) : t.vals.length = 2 := rfl
def FV.key (t : FV) : Int × List Int := (t.kind, t.xs)
theorem tlv_info : (Tryd.prog.info? 43).map (fun i => (i.zero, i.size, i.bytes)) = some (some (.agg #[.int .i64 0, .slice none 0 0]), 2, 32) := by kernel_rfl
theorem rows_apart {w : World} {b1 b2 s1 s2 n1 n2 : Nat} {e1 e2 : TypeId} {v1 v2 : Value} {x1 x2 : List Value} (h1 : w.ownsRow b1 e1 s1 v1 n1 x1) (h2 : w.ownsRow b2 e2 s2 v2 n2 x2) (he : e1 ≠ e2) : v1.ownBlock = none ∨ v1.ownBlock ≠ v2.ownBlock := by
  rcases h1.2 with ⟨rfl, _⟩ | ⟨g, cap, cur, rfl, _, hg, _⟩
  · left; rfl
  · right
    rcases h2.2 with ⟨rfl, _⟩ | ⟨g', cap', cur', rfl, _, hg', _⟩
    · simp [Value.ownBlock]
    · intro h
      simp only [Value.ownBlock, Option.some.injEq] at h
      subst h
      rw [hg] at hg'
      simp only [Option.some.injEq, Obj.cells.injEq] at hg'
      exact he hg'.2.1
/-- the list under way -/
def TOut (w : World) (base : Nat) (v : Value) (m : Nat) (ts : List (Int × List Int)) : Prop :=
  ∃ fs : List FV, w.ownsRow base 43 2 v m (fs.flatMap FV.vals) ∧ fs.length = m ∧ fs.map FV.key = ts ∧ ∀ t ∈ fs, Own w base 5 .u8 (.slice t.A t.n t.c) t.n t.xs
theorem TOut.nil (w : World) (base : Nat) : TOut w base (.slice none 0 0) 0 [] := ⟨[], World.ownsRow_nil _ _ _ _, rfl, rfl, fun t h => by cases h⟩
theorem row_below {w w' : World} {base size n : Nat} {e : TypeId} {v : Value} {xs : List Value} (h : w.ownsRow base e size v n xs) (hb : Below w.heap.size w w') : w'.ownsRow base e size v n xs := by
  refine ⟨h.1, ?_⟩
  rcases h.2 with h2 | ⟨g, cap, cur, hv, hg, hh, r⟩
  · exact .inl h2
  · refine .inr ⟨g, cap, cur, hv, hg, ?_, r⟩
    rw [hb.block g]
    · exact hh
    · rcases Nat.lt_or_ge g w.heap.size with hl | hl
      · exact hl
      · rw [Array.getElem?_eq_none hl] at hh
        cases hh
theorem TOut.below {w w' : World} {base m : Nat} {v : Value} {ts : List (Int × List Int)} (h : TOut w base v m ts) (hb : Below w.heap.size w w') : TOut w' base v m ts := by
  obtain ⟨fs, h1, h2, h3, h4⟩ := h
  exact ⟨fs, row_below h1 hb, h2, h3, fun t ht => row_below (h4 t ht) hb⟩
theorem TOut.form {w : World} {base m : Nat} {v : Value} {ts : List (Int × List Int)} (h : TOut w base v m ts) : ∃ A c, v = .slice A m c := by
  obtain ⟨fs, h1, _⟩ := h
  exact own_form h1
/-- append of a field -/
theorem TOut.push {w : World} {base l N : Nat} {v : Value} {ts : List (Int × List Int)} (h : TOut w base v l ts) (kind : Int) {A : Option Addr} {n c : Nat} {xs : List Int} (hx : Own w base 5 .u8 (.slice A n c) n xs) (hN : N = w.heap.size) (hbase : base ≤ w.heap.size) (hl : l ≤ 2000000000000) :
    ∃ A' c' w', (Builtin.append_ #[46, 46] 46 #[v, .slice (some ⟨N, 0, none⟩) 1 1]).run Tryd.prog (w.alloc (.cells #[.int .i64 kind, .slice A n c] 43)) = .ok (.slice A' (l + 1) c') w' ∧ TOut w' base (.slice A' (l + 1) c') (l + 1) (ts ++ [(kind, xs)]) ∧ Below base w w' := by
  subst hN
  obtain ⟨fs, h1, h2, h3, h4⟩ := h
  obtain ⟨W, hW⟩ : ∃ W, w.alloc (.cells #[.int .i64 kind, .slice A n c] 43) = W := ⟨_, rfl⟩
  have hbel : Below w.heap.size w W := by rw [← hW]; exact belowA _ _
  have hlit : Cells W W.heap.size 2 (some ⟨w.heap.size, 0, none⟩) 1 1 [.int .i64 kind, .slice A n c] := by
    rw [← hW]
    exact Cells.of_own (World.ownsRow_lit (base := w.heap.size) (size := 2) w #[.int .i64 kind, .slice A n c] 1 (Nat.le_refl _) (by simp [maxLen]) rfl)
  have hr1 := row_below h1 hbel
  obtain ⟨v', w', k1, k2, k3, _⟩ := Cells.append (P := Tryd.prog) (t := 46) (ty := 46) Tryd.underlying46 tlv_info rfl (by omega) hr1 hlit (by intro u hu; simp at hu; rcases hu with rfl | rfl <;> rfl) (by simp only [maxLen]; omega) (by omega) (by have := hbel.size; omega)
  obtain ⟨A', c', rfl⟩ := own_form k2
  rw [hW]
  have hb2 : Below base w w' := (hbel.mono hbase).grown k3 (by have := hbel.size; omega) (fun k hk => (World.ownsRow.lt hr1 k hk).1)
  refine ⟨A', c', w', k1, ⟨fs ++ [⟨kind, A, n, c, xs⟩], ?_, by simp [h2], by simp [h3, FV.key], fun t ht => ?_⟩, hb2⟩
  · rw [List.flatMap_append]
    exact k2
  · have hne : (5 : TypeId) ≠ 43 := by decide
    rcases List.mem_append.1 ht with ht | ht
    · have ho := row_below (h4 t ht) hbel
      exact World.ownsRow.kept ho k3 (rows_apart ho hr1 hne)
    · obtain rfl : t = ⟨kind, A, n, c, xs⟩ := by simpa using ht
      have ho := row_below hx hbel
      exact World.ownsRow.kept ho k3 (rows_apart ho hr1 hne)
/-- a list of fields that reads -/
def TLs (w : World) (B : Nat) (A : Option Addr) (n c : Nat) (ts : List (Int × List Int)) : Prop := ∃ fs : List FV, Recs w B 2 A n c FV.vals fs ∧ fs.map FV.key = ts ∧ ∀ t ∈ fs, Ints w B .u8 t.A t.n t.c t.xs
theorem TLs.below {w w' : World} {B n c : Nat} {A : Option Addr} {ts : List (Int × List Int)} (h : TLs w B A n c ts) (hb : Below B w w') : TLs w' B A n c ts := by
  obtain ⟨fs, h1, h2, h3⟩ := h
  exact ⟨fs, h1.below hb, h2, fun t ht => (h3 t ht).below hb⟩
theorem TLs.more {w : World} {B B' n c : Nat} {A : Option Addr} {ts : List (Int × List Int)} (h : TLs w B A n c ts) (hB : B ≤ B') : TLs w B' A n c ts := by
  obtain ⟨fs, h1, h2, h3⟩ := h
  exact ⟨fs, h1.more hB, h2, fun t ht => (h3 t ht).more hB⟩
theorem TLs.nil (w : World) (B : Nat) : TLs w B none 0 0 [] := ⟨[], ⟨Cells.nil _ _ _, rfl⟩, rfl, fun t h => by cases h⟩
theorem TOut.tls {w : World} {base m c : Nat} {A : Option Addr} {ts : List (Int × List Int)} (h : TOut w base (.slice A m c) m ts) : TLs w w.heap.size A m c ts := by
  obtain ⟨fs, h1, h2, h3, h4⟩ := h
  exact ⟨fs, ⟨Cells.of_own h1, h2⟩, h3, fun t ht => (h4 t ht).ints⟩
def GivesTL (q : List (Int × List Int) × Int) (w : World) (e : Ending) (w' : World) : Prop := ∃ A n c, e = .returned (.tuple #[.slice A n c, .int .i64 q.2]) ∧ TLs w' w'.heap.size A n c q.1 ∧ Below w.heap.size w w'
theorem step_append_run {P : Program} {ops : Array Oper} {o : Oper} {a : Act} {w w' : World} {K : Act → World → Prop} {Q : Exit → Act → World → Prop} {E : Prop} (hgd : o.guard = none) (s x : Operand) (t : TypeId)
    (ho : o.op = .call { callee := .builtin .append, args := #[s, x], argTypes := #[t, t] }) {v xv v' : Value} (hs : a.eval s = v) (hx : a.eval x = xv)
    (hr : (Builtin.append_ #[t, t] o.type #[v, xv]).run P w = .ok v' w') (h : K (a.put o.dst v') w') :
    if Region.wanted o (yielded ops a.tmps) = true then Oper.wp P o a w K Q else E := by
  have hw : Region.wanted o (yielded ops a.tmps) = true := by simp [Region.wanted, hgd]
  rw [if_pos hw]
  unfold Oper.wp execOp
  simp only [ho, resolve, invoke, builtin, Sem.run_bind, Sem.run_pure, Result.andThen_ok, List.map_toArray, List.map_cons, List.map_nil, hs, hx, hr]
  exact h
end Go.Proofs.YtonckpcbehobhaaDoor
