/- Changed, plain; what is known between its steps. -/
import Derived.Test.YtojgohgeagbkbaaSub
namespace Go.Proofs.Ytojgohgeagbkbaa
open Go.RowKit

def chPref (a : Att) (ap bp : Int) : Att := ⟨a.origin, a.path, a.hop, a.hasMED, a.med, if (ap != bp) = true then true else a.hasPref, if (ap != bp) = true then ap else a.pref, a.atomic, a.hasAggr, a.aggrAS, a.aggrAddr, a.comm, a.hasOrig, a.orig, a.clus, a.unk⟩
def chMed (a : Att) (am bm : Int) : Att := ⟨a.origin, a.path, a.hop, if (am != bm) = true then true else a.hasMED, if (am != bm) = true then am else a.med, a.hasPref, a.pref, a.atomic, a.hasAggr, a.aggrAS, a.aggrAddr, a.comm, a.hasOrig, a.orig, a.clus, a.unk⟩
def chHop (a : Att) (hop : Int) (cm : List Int) : Att := ⟨a.origin, a.path, hop, a.hasMED, a.med, a.hasPref, a.pref, a.atomic, a.hasAggr, a.aggrAS, a.aggrAddr, cm, a.hasOrig, a.orig, a.clus, a.unk⟩
def chPath (a : Att) (p : Path) : Att := ⟨a.origin, p, a.hop, a.hasMED, a.med, a.hasPref, a.pref, a.atomic, a.hasAggr, a.aggrAS, a.aggrAddr, a.comm, a.hasOrig, a.orig, a.clus, a.unk⟩
/-- the path of the subject before is the end of the one after -/
def endsB (bp ap : List Int) : Bool := decide (bp.length ≤ ap.length) && decide (ap.drop (ap.length - bp.length) = bp)
def chgAll (a : Att) (bp : List Int) (bpref bmed : Int) (ap acm : List Int) (ahop apref amed : Int) : Att :=
  chPath (chHop (chMed (chPref a apref bpref) amed bmed) ahop acm) (insR a.path (ap.take (ap.length - bp.length)))
def changedR (a : Att) (bp : List Int) (bpref bmed : Int) (ap acm : List Int) (ahop apref amed : Int) : Att × Int :=
  if (attErr a == 0) = true then
    (if endsB bp ap = true then
      (if decide (64 < (insR a.path (ap.take (ap.length - bp.length))).length) = true then (zeroAtt, 4) else
        if (attErr (chgAll a bp bpref bmed ap acm ahop apref amed) == 0) = true then (chgAll a bp bpref bmed ap acm ahop apref amed, 0) else (zeroAtt, attErr (chgAll a bp bpref bmed ap acm ahop apref amed)))
    else (zeroAtt, 1))
  else (zeroAtt, attErr a)
/-- between the steps: the box at N holds the attributes b; the boxes N + 1 .. N + 3 are as they were -/
def ChI (N H : Nat) (w : World) (sb sa : List Value) (b : Att) (W : World) : Prop :=
  ∃ (pA cA kA uA : Option Addr) (pn pc cn cc kn kc un uc : Nat), Hid (Blk W N 40 (attCells b pA cA kA uA pn pc cn cc kn kc un uc)) ∧ Hid (Blk W (N + 1) 54 sb) ∧ Hid (Blk W (N + 2) 54 sa) ∧ Hid (Blk W (N + 3) 40 [.int .i64 0, .slice none 0 0, .int .u32 0, .bool false, .int .i64 0, .bool false, .int .i64 0, .bool false, .bool false, .int .i64 0, .int .u32 0, .slice none 0 0, .bool false, .int .u32 0, .slice none 0 0, .slice none 0 0]) ∧
    Hid (ALists W W.heap.size N H pA cA kA uA pn pc cn cc kn kc un uc b.path b.comm b.clus b.unk) ∧ Hid (Below N w W) ∧ Hid (H ≤ W.heap.size)
theorem seqs_len2 (k : Int) (l : List Int) : (seqs k l).length ≤ l.length := seqs_len k _ l (Nat.le_refl _)
theorem insR_len (p : Path) (l : List Int) : (insR p l).length ≤ p.length + l.length + (flat p).length := by
  unfold insR
  split
  · omega
  · simp only [List.length_append, List.length_take, List.length_drop]
    have h1 := seqs_len2 2 (l ++ flat ((p.drop (leadN p)).take (runL 2 (p.drop (leadN p)))))
    rw [List.length_append] at h1
    have h2 := flat_take (p.drop (leadN p)) (runL 2 (p.drop (leadN p)))
    have h3 : (flat (p.drop (leadN p))).length ≤ (flat p).length := by
      conv => rhs; rw [← List.take_append_drop (leadN p) p]
      unfold flat
      rw [List.flatMap_append, List.length_append]
      omega
    have h4 := leadN_le p
    omega
end Go.Proofs.Ytojgohgeagbkbaa
