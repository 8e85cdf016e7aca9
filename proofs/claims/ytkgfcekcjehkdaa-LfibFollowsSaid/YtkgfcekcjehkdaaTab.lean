/- A label forwarding table in memory, and its error: the program's and the reference's texts return the same. -/
import Derived.Test.YtkgfcekcjehkdaaBase
namespace Go.Proofs.Ytkgfcekcjehkdaa
open Go.RowKit

/-- the first error among the first k -/
def firstE (f : Nat → Int) : Nat → Int
  | 0 => 0
  | k + 1 => if firstE f k ≠ 0 then firstE f k else f k
section
variable {f : Nat → Int}
theorem firstE_keep {j : Nat} (h : firstE f j ≠ 0) : ∀ {k : Nat}, j ≤ k → firstE f k = firstE f j := by
  intro k hk
  obtain ⟨d, rfl⟩ : ∃ d, k = j + d := ⟨k - j, by omega⟩
  clear hk
  induction d with
  | zero => rfl
  | succ d ih =>
    show (if firstE f (j + d) ≠ 0 then firstE f (j + d) else f (j + d)) = _
    rw [ih, if_pos h]
theorem firstE_at {k n : Nat} (h0 : firstE f k = 0) (h : f k ≠ 0) (hk : k < n) : firstE f n = f k := by
  have e : firstE f (k + 1) = f k := by rw [firstE, if_neg (by simp [h0])]
  rw [firstE_keep (by rw [e]; exact h) (j := k + 1) (by omega), e]
theorem firstE_step {k : Nat} (h0 : firstE f k = 0) (h : f k = 0) : firstE f (k + 1) = 0 := by rw [firstE, if_neg (by simp [h0]), h]
theorem firstE_zero : ∀ {n : Nat}, firstE f n = 0 → ∀ j, j < n → f j = 0
  | 0, _, j, hj => absurd hj (by omega)
  | n + 1, h, j, hj => by
    by_cases h0 : firstE f n = 0
    · rw [firstE, if_neg (by simp [h0])] at h
      rcases Nat.lt_or_ge j n with hl | hl
      · exact firstE_zero h0 j hl
      · obtain rfl : j = n := by omega
        exact h
    · rw [firstE, if_pos h0] at h
      exact absurd h h0
end

/-- a hop, and an entry with its hops as a slice -/
structure HV where
  router : Int
  label : Int
def HV.vals (h : HV) : List Value := [.int .u32 h.router, .int .i64 h.label]
theorem HV.vals_len (h : HV) : h.vals.length = 2 := rfl
structure EV where
  inn : Int
  A : Option Addr
  n : Nat
  c : Nat
  hs : List HV
def EV.vals (e : EV) : List Value := [.int .i64 e.inn, .slice e.A e.n e.c]
theorem EV.vals_len (e : EV) : e.vals.length = 2 := rfl
def Hops (w : World) (B : Nat) (A : Option Addr) (n c : Nat) (hs : List HV) : Prop := Recs w B 2 A n c HV.vals hs
def Tab (w : World) (B : Nat) (A : Option Addr) (n c : Nat) (es : List EV) : Prop := Recs w B 2 A n c EV.vals es ∧ ∀ e ∈ es, Hops w B e.A e.n e.c e.hs
section
variable {w w' : World} {B B' n c : Nat} {A : Option Addr} {es : List EV} {hs : List HV}
theorem Hops.below (h : Hops w B A n c hs) (hb : Below B w w') : Hops w' B A n c hs := Recs.below h hb
theorem Hops.more (h : Hops w B A n c hs) (hB : B ≤ B') : Hops w B' A n c hs := Recs.more h hB
theorem Hops.len (h : Hops w B A n c hs) : hs.length = n := h.2
theorem Hops.get (h : Hops w B A n c hs) {j : Nat} (hj : j < n) : ∃ b o x, A = some ⟨b, o, none⟩ ∧ b < B ∧ hs[j]? = some x ∧ w.cell? ⟨b, o + j * 2, none⟩ = some (.int .u32 x.router) ∧ w.cell? ⟨b, o + j * 2 + 1, none⟩ = some (.int .i64 x.label) := by
  obtain ⟨b, o, x, e, hb, hx, hc⟩ := Recs.get HV.vals_len h hj
  exact ⟨b, o, x, e, hb, hx, hc 0 (by omega), hc 1 (by omega)⟩
theorem Tab.below (h : Tab w B A n c es) (hb : Below B w w') : Tab w' B A n c es := ⟨h.1.below hb, fun e he => (h.2 e he).below hb⟩
theorem Tab.more (h : Tab w B A n c es) (hB : B ≤ B') : Tab w B' A n c es := ⟨h.1.more hB, fun e he => (h.2 e he).more hB⟩
theorem Tab.len (h : Tab w B A n c es) : es.length = n := h.1.2
theorem Tab.get (h : Tab w B A n c es) {j : Nat} (hj : j < n) : ∃ b o x, A = some ⟨b, o, none⟩ ∧ b < B ∧ es[j]? = some x ∧ Hops w B x.A x.n x.c x.hs ∧ w.cell? ⟨b, o + j * 2, none⟩ = some (.int .i64 x.inn) ∧ w.cell? ⟨b, o + j * 2 + 1, none⟩ = some (.slice x.A x.n x.c) := by
  obtain ⟨b, o, x, e, hb, hx, hc⟩ := Recs.get EV.vals_len h.1 hj
  exact ⟨b, o, x, e, hb, hx, h.2 x (List.mem_of_getElem? hx), hc 0 (by omega), hc 1 (by omega)⟩
end
def labOK (y : Int) : Bool := decide (16 ≤ y) && decide (y ≤ 1048575)
def rtAt (hs : List HV) (i : Nat) : Int := ((hs[i]?).getD ⟨0, 0⟩).router
def lbAt (hs : List HV) (i : Nat) : Int := ((hs[i]?).getD ⟨0, 0⟩).label
def innAt (es : List EV) (i : Nat) : Int := ((es[i]?).getD ⟨0, none, 0, 0, []⟩).inn
def hsAt (es : List EV) (i : Nat) : List HV := ((es[i]?).getD ⟨0, none, 0, 0, []⟩).hs
def hopErr (hs : List HV) (i : Nat) : Int := if rtAt hs i = 0 ∨ (lbAt hs i ≠ -1 ∧ labOK (lbAt hs i) = false) then 5 else if 0 < i ∧ rtAt hs i ≤ rtAt hs (i - 1) then 16 else 0
/-- the error of the hops of an entry -/
def hopsErr (hs : List HV) : Int := if 64 < hs.length then 4 else firstE (hopErr hs) hs.length
def entErr (es : List EV) (i : Nat) : Int := if labOK (innAt es i) = false then 5 else if 0 < i ∧ innAt es i ≤ innAt es (i - 1) then 16 else hopsErr (hsAt es i)
/-- the error of a table -/
def tabErr (es : List EV) : Int := if 2000 < es.length then 4 else firstE (entErr es) es.length

theorem lab_split (n : Int) : (n < 16 ∧ labOK n = false) ∨ (16 ≤ n ∧ 1048575 < n ∧ labOK n = false) ∨ (16 ≤ n ∧ n ≤ 1048575 ∧ labOK n = true) := by
  unfold labOK
  by_cases h1 : 16 ≤ n <;> by_cases h2 : n ≤ 1048575 <;> simp [h1, h2] <;> omega
theorem label_any (n : Int) (w : World) : Calls Try.prog 21 #[.int .i64 n] w fun e w' => e = .returned (.bool (labOK n)) ∧ w = w' := by
  rcases lab_split n with ⟨h1, h2⟩ | ⟨h0, h1, h2⟩ | ⟨h0, h1, h2⟩
  all_goals
    have H := Lib.hid h2
    clear h2
    go_enter Try.func21, Try.ntmps21
    go_wp2
    go_ret
    first | exact ⟨ret_bool H.out.symm, rfl⟩ | exact ⟨ret_bool (by rw [H.out]; simp; omega), rfl⟩
theorem refLabel_any (n : Int) (w : World) : Calls Try.prog 23 #[.int .i64 n] w fun e w' => e = .returned (.bool (labOK n)) ∧ w = w' := by
  rcases lab_split n with ⟨h1, h2⟩ | ⟨h0, h1, h2⟩ | ⟨h0, h1, h2⟩
  all_goals
    have H := Lib.hid h2
    clear h2
    go_enter Try.func23, Try.ntmps23
    go_wp2
    go_ret
    first | exact ⟨ret_bool H.out.symm, rfl⟩ | exact ⟨ret_bool (by rw [H.out]; simp; omega), rfl⟩
end Go.Proofs.Ytkgfcekcjehkdaa
