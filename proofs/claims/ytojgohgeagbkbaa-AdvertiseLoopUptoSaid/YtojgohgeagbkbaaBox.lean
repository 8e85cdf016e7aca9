/- A struct in its box, loaded and stored whole. -/
import Derived.Test.YtojgohgeagbkbaaRow
import Derived.Laws.ResultCell
namespace Go.Proofs.Ytojgohgeagbkbaa
open Go.RowKit

section
variable {P : Program} {w : World} {g : Nat} {T : TypeId} {cs old : List Value} {ops : Array Oper} {rest : List Oper} {o : Oper} {a : Act} {Q : Exit → Act → World → Prop}
theorem Blk.row (h : Blk w g T old) (cs : List Value) : Blk (w.setRow g cs.toArray) g T cs := setRow_heap w g _ _ _ _ h
theorem Save.row (g : Nat) (w : World) (cs : Array Value) : Save g w (w.setRow g cs) := ⟨rfl, rfl, rfl, by simp [World.setRow], fun k _ hn => setRow_other w g k cs (fun e => hn e)⟩
theorem wpList_load_blk (hgd : o.guard = none) (ty : TypeId) (x : Operand) (ho : o.op = .load ty x) (g : Nat) (hx : a.eval x = .pointer (some ⟨g, 0, none⟩)) (hg : Blk w g T cs) (d : TypeDesc)
    (hu : P.underlying ty = some d) (hd : (match d with | .struct _ | .array _ _ => true | _ => false) = true) (hi : (P.info? ty).map (·.size) = some cs.length)
    (h : wpList P ops Q rest (a.put o.dst (.agg cs.toArray)) w) : wpList P ops Q (o :: rest) a w :=
  wpList_load_row hgd ty x ho g hx T cs.toArray (0, 0) d hg hu hd (by rw [hi]; simp) h
theorem wpList_store_blk (hgd : o.guard = none) (ty : TypeId) (x y : Operand) (ho : o.op = .store ty x y) (g : Nat) (hx : a.eval x = .pointer (some ⟨g, 0, none⟩)) (hy : a.eval y = .agg cs.toArray) (hg : Blk w g T old)
    (hi : (P.info? ty).map (·.size) = some cs.length) (hold : old.length = cs.length) (h1 : cs.toArray.all (·.oneCell') = true)
    (h : wpList P ops Q rest (a.put o.dst undef) (w.setRow g cs.toArray)) : wpList P ops Q (o :: rest) a w :=
  wpList_store_row hgd ty x y ho g cs.toArray hx hy T old.toArray hg (by rw [hi]; simp) (by simpa using hold) h1 h
/-- a guarded load that is wanted -/
theorem wpList_load_blkG (hw : Region.wanted o (yielded ops a.tmps) = true) (ty : TypeId) (x : Operand) (ho : o.op = .load ty x) (g : Nat) (hx : a.eval x = .pointer (some ⟨g, 0, none⟩)) (hg : Blk w g T cs) (d : TypeDesc)
    (hu : P.underlying ty = some d) (hd : (match d with | .struct _ | .array _ _ => true | _ => false) = true) (hi : (P.info? ty).map (·.size) = some cs.length)
    (h : wpList P ops Q rest (a.put o.dst (.agg cs.toArray)) w) : wpList P ops Q (o :: rest) a w :=
  wpList_step fun K hK => by
    rw [if_pos hw]
    exact wp_load_row ty x ho g hx T cs.toArray (0, 0) d hg hu hd (by rw [hi]; simp) (hK _ _ h)
theorem results_cell_row2 {fn : Func} {p u : Tmp} {ty : TypeId} (h : fn.results = #[.cell p ty, .tmp u]) (tmps : Array Value) (g : Nat) (d : TypeDesc)
    (hp : tmps.getD p undef = .pointer (some ⟨g, 0, none⟩)) (hg : Blk w g T cs) (hu : P.underlying ty = some d) (hd : (match d with | .struct _ | .array _ _ => true | _ => false) = true) (hi : (P.info? ty).map (·.size) = some cs.length) :
    (results fn tmps).run P w = .ok (.tuple #[.agg cs.toArray, tmps.getD u undef]) w := by
  rw [results_cell_tmp h]
  have hp' : tmps[p]?.getD undef = .pointer (some ⟨g, 0, none⟩) := by simpa using hp
  simp [hp', asAddr, run_loadVar_row w g T ty cs.toArray (0, 0) d hg hu hd (by rw [hi]; simp)]
theorem two_blks (w : World) (T U : TypeId) (xs ys : Array Value) : Blk ((w.alloc (.cells xs T)).alloc (.cells ys U)).drew w.heap.size T xs.toList ∧ Blk ((w.alloc (.cells xs T)).alloc (.cells ys U)).drew (w.heap.size + 1) U ys.toList ∧ Below w.heap.size w ((w.alloc (.cells xs T)).alloc (.cells ys U)).drew :=
  ⟨((Blk.new w T xs).keep (belowA _ _)).keep (Below.refl _ _).drew, by
    have := Blk.new (w.alloc (.cells xs T)) U ys
    rw [World.size_alloc] at this
    exact this, (below3 (belowA _ _) (belowA _ _)).drew⟩
end
end Go.Proofs.Ytojgohgeagbkbaa
