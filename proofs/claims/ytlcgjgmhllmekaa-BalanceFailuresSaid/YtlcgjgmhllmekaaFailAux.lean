/- BalanceFailures: the boxes and groups that the statement 'x, y := ..' makes. -/
import Derived.Test.YtlcgjgmhllmekaaFresh
import Derived.Test.YtlcgjgmhllmekaaTake
import Derived.Deep.DeepCutAuto
namespace Go.Proofs.Ytlcgjgmhllmekaa
open Go.RowKit

/-- a box that has been made and not been written -/
def Bx (w : World) (X : Nat) (W : World) : Prop :=
  w.heap.size + 1 ≤ X ∧ X < W.heap.size ∧ (W.cell? ⟨X, 0, none⟩ = some (.int .i64 0) ∧ W.cell? ⟨X, 1, none⟩ = some (.slice none 0 0) ∧ W.frozen? ⟨X, 0, none⟩ = false ∧ W.frozen? ⟨X, 1, none⟩ = false)
theorem Bx.step {w W W' : World} {X : Nat} (h : Bx w X W) (hb : Below W.heap.size W W') : Bx w X W' :=
  ⟨h.1, Nat.lt_of_lt_of_le h.2.1 hb.size, (hb.cell (p := ⟨X, 0, none⟩) h.2.1).trans h.2.2.1, (hb.cell (p := ⟨X, 1, none⟩) h.2.1).trans h.2.2.2.1, (hb.frozen (p := ⟨X, 0, none⟩) h.2.1).trans h.2.2.2.2.1, (hb.frozen (p := ⟨X, 1, none⟩) h.2.1).trans h.2.2.2.2.2⟩
theorem Bx.new {w W : World} {act : Int} {L : Value} (h : GBox w act L W) : Bx w W.heap.size (W.alloc (.cells #[.int .i64 0, .slice none 0 0] 24)) :=
  ⟨h.size, by simp, by go_simp, by go_simp, by go_simp, by go_simp⟩
/-- a group between marks that lie below the world's end -/
def Gr (W : World) (L N : Nat) (A : Option Addr) (n c : Nat) (ds : List PV) : Prop := GroupIn2 W L N A n c ds ∧ N ≤ W.heap.size
section
variable {w W W' : World} {act : Int} {A A2 A4 : Option Addr} {n c c2 c4 L2 N2 L4 N4 X Y : Nat} {xs ys ds : List PV}
theorem Gr.step (h : Gr W L2 N2 A n c ds) (hb : Below W.heap.size W W') : Gr W' L2 N2 A n c ds := ⟨h.1.below hb h.2, Nat.le_trans h.2 hb.size⟩
theorem Gr.of (h : GroupIn2 W' L2 W'.heap.size A n c ds) : Gr W' L2 W'.heap.size A n c ds := ⟨h, Nat.le_refl _⟩
theorem Gr.group (h : Gr W L2 N2 A n c ds) : GroupAt W W.heap.size A n c ds := h.1.at_ h.2
theorem GBox.set (h : GBox w act (.slice A n c) W) (hX : w.heap.size + 1 ≤ X) (i : Nat) (v : Value) : GBox w act (.slice A n c) (W.setCell ⟨X, i, none⟩ v) := .of (h.2.2.out.setCell (p := ⟨X, i, none⟩) hX v)
theorem belowG (W : World) : Below W.heap.size W (W.alloc (.cells #[.int .i64 0, .slice none 0 0] 24)) := (Below.refl _ _).alloc (Nat.le_refl _) _
theorem two_of (hs : GBox w act (.slice A n c) W) (hX : Bx w X W) (hY : Bx w Y W) (hXY : X ≠ Y) (h2 : Gr W L2 N2 A2 n c2 xs) (h4 : Gr W L4 N4 A4 n c4 ys) (x2 : X < L2 ∨ N2 ≤ X) (x4 : X < L4 ∨ N4 ≤ X) (y2 : Y < L2 ∨ N2 ≤ Y) (y4 : Y < L4 ∨ N4 ≤ Y) :
    TwoG w act n xs ys (.pointer (some ⟨X, 0, none⟩)) (.pointer (some ⟨Y, 0, none⟩)) ((((W.setCell ⟨X, 0, none⟩ (.int .i64 act)).setCell ⟨X, 1, none⟩ (.slice A2 n c2)).setCell ⟨Y, 0, none⟩ (.int .i64 act)).setCell ⟨Y, 1, none⟩ (.slice A4 n c4)) := by
  obtain ⟨a1, a2, a3, a4, _, _⟩ := hX
  obtain ⟨b1, b2, b3, b4, _, _⟩ := hY
  have g2 : GroupIn2 ((((W.setCell ⟨X, 0, none⟩ (.int .i64 act)).setCell ⟨X, 1, none⟩ (.slice A2 n c2)).setCell ⟨Y, 0, none⟩ (.int .i64 act)).setCell ⟨Y, 1, none⟩ (.slice A4 n c4)) L2 N2 A2 n c2 xs :=
    (((h2.1.setCell x2 _).setCell x2 _).setCell y2 _).setCell y2 _
  have g4 : GroupIn2 ((((W.setCell ⟨X, 0, none⟩ (.int .i64 act)).setCell ⟨X, 1, none⟩ (.slice A2 n c2)).setCell ⟨Y, 0, none⟩ (.int .i64 act)).setCell ⟨Y, 1, none⟩ (.slice A4 n c4)) L4 N4 A4 n c4 ys :=
    (((h4.1.setCell x4 _).setCell x4 _).setCell y4 _).setCell y4 _
  have hs4 := (((hs.set a1 0 (.int .i64 act)).set a1 1 (.slice A2 n c2)).set b1 0 (.int .i64 act)).set b1 1 (.slice A4 n c4)
  refine ⟨X, Y, A2, c2, A4, c4, rfl, rfl, ⟨by go_simp, by go_simp, by go_simp, by go_simp⟩, g2.at_ (by simpa using h2.2), g4.at_ (by simpa using h4.2), by simpa using a2, by simpa using b2, hs4.below⟩
end
end Go.Proofs.Ytlcgjgmhllmekaa
