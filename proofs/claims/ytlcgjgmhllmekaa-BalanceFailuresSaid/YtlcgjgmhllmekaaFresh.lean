/- A group that lies between two marks of memory. -/
import Derived.Test.YtlcgjgmhllmekaaValidWalk
namespace Go.Proofs.Ytlcgjgmhllmekaa
open Go.RowKit

/-- the group's memory lies in blocks from L on and below N -/
def GroupIn2 (w : World) (L N : Nat) (A : Option Addr) (n c : Nat) (ds : List PV) : Prop :=
  ∃ qs, Paths w N A n c qs ∧ qs.map PV.dat = ds ∧ (0 < n → ∀ ad, A = some ad → L ≤ ad.block) ∧ ∀ p ∈ qs, FreshL L p
section
variable {w w' : World} {L N n c : Nat} {A : Option Addr} {ds : List PV}
theorem cells_keep2 {size : Nat} {vs : List Value} (h : Cells w N size A n c vs) (hL : 0 < n → ∀ ad, A = some ad → L ≤ ad.block) (hk : ∀ p : Addr, L ≤ p.block → p.block < N → w'.cell? p = w.cell? p) : Cells w' N size A n c vs :=
  ⟨h.1, h.2.1, h.2.2.1, fun hn => by
    obtain ⟨b, o, e, hb, hc⟩ := h.2.2.2 hn
    exact ⟨b, o, e, hb, fun j hj => (hk ⟨b, o + j, none⟩ (by have := hL hn _ e; exact this) hb).trans (hc j hj)⟩⟩
theorem GroupIn2.keep (h : GroupIn2 w L N A n c ds) (hk : ∀ p : Addr, L ≤ p.block → p.block < N → w'.cell? p = w.cell? p) : GroupIn2 w' L N A n c ds := by
  obtain ⟨qs, h1, h2, h3, h4⟩ := h
  exact ⟨qs, ⟨⟨cells_keep2 h1.1.1 h3 hk, h1.1.2⟩, fun p hp => cells_keep2 (h1.2 p hp) (h4 p hp) hk⟩, h2, h3, h4⟩
theorem GroupIn2.alloc (h : GroupIn2 w L N A n c ds) (hN : N ≤ w.heap.size) (o : Obj) : GroupIn2 (w.alloc o) L N A n c ds := h.keep fun p _ h2 => World.cell?_alloc_lt w o p (by omega)
theorem GroupIn2.setCell (h : GroupIn2 w L N A n c ds) {p : Addr} (hp : p.block < L ∨ N ≤ p.block) (v : Value) : GroupIn2 (w.setCell p v) L N A n c ds :=
  h.keep fun q h1 h2 => World.cell?_setCell_other w p q v (fun e => by subst e; omega)
theorem GroupIn2.below {B : Nat} (h : GroupIn2 w L N A n c ds) (hb : Below B w w') (hN : N ≤ B) : GroupIn2 w' L N A n c ds := h.keep fun _ _ h2 => hb.cell (Nat.lt_of_lt_of_le h2 hN)
theorem GroupIn2.step {W : World} (h : GroupIn2 w L N A n c ds) (hN : N ≤ w.heap.size) (hW : Below w.heap.size w W) (hb : Below W.heap.size W w') : GroupIn2 w' L N A n c ds := (h.below hW hN).below hb (Nat.le_trans hN hW.size)
theorem GroupIn2.at_ (h : GroupIn2 w L N A n c ds) {M : Nat} (hM : N ≤ M) : GroupAt w M A n c ds := by
  obtain ⟨qs, h1, h2, _⟩ := h
  exact ⟨qs, h1.more hM, h2⟩
end
def GivesG2 (act : Int) (n : Nat) (ds : List PV) (w : World) (e : Ending) (w' : World) : Prop :=
  ∃ A c, e = .returned (.agg #[.int .i64 act, .slice A n c]) ∧ GroupIn2 w' w.heap.size w'.heap.size A n c ds ∧ Below w.heap.size w w'
theorem fail_at2 (A : Option Addr) (n c : Nat) (act iface : Int) (ds : List PV) (w : World) (h : GroupAt w w.heap.size A n c ds) (hs : ShortD ds) (hn : n ≤ 1000) :
    Calls Try.prog 15 #[.agg #[.int .i64 act, .slice A n c], .int .i64 iface] w (GivesG2 act n (failG act n ds iface) w) := by
  obtain ⟨qs, h1, he⟩ := h
  have h2 := hs.short h1 he
  subst he
  rw [failG_dat h1.even]
  refine (fail_any A n c act iface qs w h1 h2 hn).mono ?_
  rintro e w' ⟨A', c', rs, he, ho, hp, hd, hf, hb⟩
  refine ⟨A', c', he, ⟨rs, hp, hd, fun hn0 ad ha => ?_, hf⟩, hb⟩
  obtain ⟨g, hg, hw⟩ := ho hn0
  rw [hg] at ha
  injection ha with ha
  subst ha
  exact hw.lt.1
/-- what the statement 'x, y := ..' leaves -/
def TwoG (w : World) (act : Int) (n : Nat) (xs ys : List PV) (s t : Value) (W : World) : Prop :=
  ∃ X Y A2 c2 A4 c4, s = .pointer (some ⟨X, 0, none⟩) ∧ t = .pointer (some ⟨Y, 0, none⟩) ∧ (W.cell? ⟨X, 0, none⟩ = some (.int .i64 act) ∧ W.cell? ⟨X, 1, none⟩ = some (.slice A2 n c2) ∧ W.cell? ⟨Y, 0, none⟩ = some (.int .i64 act) ∧ W.cell? ⟨Y, 1, none⟩ = some (.slice A4 n c4)) ∧
    GroupAt W W.heap.size A2 n c2 xs ∧ GroupAt W W.heap.size A4 n c4 ys ∧ X < W.heap.size ∧ Y < W.heap.size ∧ Below w.heap.size w W
end Go.Proofs.Ytlcgjgmhllmekaa
