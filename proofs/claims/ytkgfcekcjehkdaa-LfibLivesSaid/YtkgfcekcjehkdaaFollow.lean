/- Follow: the plain function and its laws. -/
import Derived.Test.YtkgfcekcjehkdaaIndexU
import Derived.Test.YtkgfcekcjehkdaaRefFwd
namespace Go.Proofs.Ytkgfcekcjehkdaa
open Go.RowKit

/-- a table as a slice -/
structure TV where
  A : Option Addr
  n : Nat
  c : Nat
  es : List EV
def TV.vals (t : TV) : List Value := [.slice t.A t.n t.c]
theorem TV.vals_len (t : TV) : t.vals.length = 1 := rfl
def Tabs (w : World) (B : Nat) (A : Option Addr) (n c : Nat) (ts : List TV) : Prop := Recs w B 1 A n c TV.vals ts ∧ ∀ t ∈ ts, Tab w B t.A t.n t.c t.es
section
variable {w w' : World} {B B' n c : Nat} {A : Option Addr} {ts : List TV}
theorem Tabs.below (h : Tabs w B A n c ts) (hb : Below B w w') : Tabs w' B A n c ts := ⟨h.1.below hb, fun e he => (h.2 e he).below hb⟩
theorem Tabs.more (h : Tabs w B A n c ts) (hB : B ≤ B') : Tabs w B' A n c ts := ⟨h.1.more hB, fun e he => (h.2 e he).more hB⟩
theorem Tabs.len (h : Tabs w B A n c ts) : ts.length = n := h.1.2
theorem Tabs.get (h : Tabs w B A n c ts) {j : Nat} (hj : j < n) : ∃ b o x, A = some ⟨b, o, none⟩ ∧ b < B ∧ ts[j]? = some x ∧ Tab w B x.A x.n x.c x.es ∧ w.cell? ⟨b, o + j, none⟩ = some (.slice x.A x.n x.c) := by
  obtain ⟨b, o, x, e, hb, hx, hc⟩ := Recs.get TV.vals_len h.1 hj
  refine ⟨b, o, x, e, hb, hx, h.2 x (List.mem_of_getElem? hx), ?_⟩
  have := hc 0 (by omega)
  simpa [TV.vals] using this
end
def esAt (ts : List TV) (i : Nat) : List EV := ((ts[i]?).getD ⟨none, 0, 0, []⟩).es
theorem es_of {ts : List TV} {i : Nat} {x : TV} (h : ts[i]? = some x) : esAt ts i = x.es := by unfold esAt; rw [h]; rfl
def badId (ids : List Int) (i : Nat) : Prop := ids.getD i 0 = 0 ∨ 0 ≤ idx (ids.take i) (ids.getD i 0)
/-- how long a packet can still go -/
def mu (p : PD) : Nat := p.ttl.toNat + p.ls.length
/-- the way of a packet, k steps at most -/
def follow (ts : List TV) (ids : List Int) : Nat → Nat → PD → List Int → List Int × PD × Int
  | 0, _, p, way => (way, p, 0)
  | k + 1, at_, p, way =>
    if p.ls.length = 0 then (way, p, 0) else
    if (fwd (esAt ts at_) p).2.2 ≠ 0 then ([], zeroPD, (fwd (esAt ts at_) p).2.2) else
    if (fwd (esAt ts at_) p).2.1 = 0 then follow ts ids k at_ (fwd (esAt ts at_) p).1 way else
    if idx ids (fwd (esAt ts at_) p).2.1 < 0 then ([], zeroPD, 6) else
    follow ts ids k (idx ids (fwd (esAt ts at_) p).2.1).toNat (fwd (esAt ts at_) p).1 (way ++ [idx ids (fwd (esAt ts at_) p).2.1])
open Classical in
noncomputable def followAll (ts : List TV) (ids : List Int) (at_ : Int) (p : PD) : List Int × PD × Int :=
  if ids.length ≠ ts.length ∨ at_ < 0 ∨ (ts.length : Int) ≤ at_ then ([], zeroPD, 5) else
  if ∃ i, i < ids.length ∧ badId ids i then ([], zeroPD, 1) else
  follow ts ids (mu p) at_.toNat p [at_]
theorem followAll_range {ts : List TV} {ids : List Int} {at_ : Int} {p : PD} (h : ids.length ≠ ts.length ∨ at_ < 0 ∨ (ts.length : Int) ≤ at_) : followAll ts ids at_ p = ([], zeroPD, 5) := by unfold followAll; rw [if_pos h]
theorem followAll_bad {ts : List TV} {ids : List Int} {at_ : Int} {p : PD} (h0 : ids.length = ts.length) (h1 : 0 ≤ at_) (h2 : at_ < ts.length) {i : Nat} (hi : i < ids.length) (hb : badId ids i) : followAll ts ids at_ p = ([], zeroPD, 1) := by
  unfold followAll
  rw [if_neg (by omega), if_pos ⟨i, hi, hb⟩]
theorem followAll_go {ts : List TV} {ids : List Int} {at_ : Int} {p : PD} (h0 : ids.length = ts.length) (h1 : 0 ≤ at_) (h2 : at_ < ts.length) (hno : ∀ i, i < ids.length → ¬ badId ids i) : followAll ts ids at_ p = follow ts ids (mu p) at_.toNat p [at_] := by
  unfold followAll
  rw [if_neg (by omega), if_neg (fun ⟨i, hi, hb⟩ => hno i hi hb)]
theorem follow_done {ts : List TV} {ids : List Int} {k a : Nat} {p : PD} {way : List Int} (h : p.ls.length = 0) : follow ts ids k a p way = (way, p, 0) := by
  cases k with
  | zero => rfl
  | succ k => rw [follow, if_pos h]
/-- what a step of a packet without an error keeps -/
structure Kept (p q : PD) (r : Int) : Prop where
  mu : mu q < mu p
  flow : q.flow = p.flow
  src : q.src = p.src
  dst : q.dst = p.dst
  ttl : (r = 0 ∧ q.ttl = p.ttl) ∨ (r ≠ 0 ∧ 2 ≤ p.ttl ∧ q.ttl = p.ttl - 1)
  len : q.ls.length ≤ p.ls.length
  ls : ∀ x ∈ q.ls, x ∈ p.ls ∨ (16 ≤ x ∧ x ≤ 1048575)
theorem step_kept {es : List EV} {p : PD} (h0 : tabErr es = 0) (hl : ¬ p.ls.length = 0) (h : (stepR es p).2.2 = 0) : Kept p (stepR es p).1 (stepR es p).2.1 := by
  obtain ⟨hsort, _, hhops⟩ := sorted_of h0
  have hdl : ∀ x ∈ p.ls.dropLast, x ∈ p.ls := fun x hx => List.dropLast_subset _ hx
  have hll : p.ls.dropLast.length = p.ls.length - 1 := List.length_dropLast
  unfold stepR at h ⊢
  cases hk : look es (p.ls.getD (p.ls.length - 1) 0) with
  | none => rw [hk] at h; exact absurd h (by simp)
  | some hs =>
    rw [hk] at h
    dsimp only at h ⊢
    by_cases h1 : hs.length = 0
    · rw [if_pos h1]
      refine ⟨?_, rfl, rfl, rfl, .inl ⟨rfl, rfl⟩, ?_, fun x hx => .inl (hdl x hx)⟩
      · show p.ttl.toNat + p.ls.dropLast.length < p.ttl.toNat + p.ls.length
        omega
      · show p.ls.dropLast.length ≤ _
        omega
    rw [if_neg h1] at h ⊢
    by_cases h2 : p.ttl ≤ 1
    · rw [if_pos h2] at h; exact absurd h (by simp)
    rw [if_neg h2]
    obtain ⟨i0, hi0, hie⟩ := look_mem hk
    have hhop := hop_of (hhops i0 hi0)
    rw [hie] at hhop
    obtain ⟨y, hy⟩ : ∃ y, hs[p.flow.toNat % hs.length]? = some y := ⟨_, List.getElem?_eq_getElem (Nat.mod_lt _ (by omega))⟩
    have hyl := (hhop.2 _ _ hy).2
    simp only [hy, Option.getD_some]
    have e1 : (hopOut p y).ls.length ≤ p.ls.length := by
      show (if y.label = -1 then p.ls.dropLast else p.ls.dropLast ++ [y.label]).length ≤ _
      split
      · omega
      · rw [List.length_append, hll, List.length_singleton]; omega
    refine ⟨?_, rfl, rfl, rfl, 
      .inr ⟨(hhop.2 _ _ hy).1, by omega, rfl⟩, e1, fun x hx => ?_⟩
    · show (p.ttl - 1).toNat + (hopOut p y).ls.length < p.ttl.toNat + p.ls.length
      omega
    · have hx' : x ∈ (if y.label = -1 then p.ls.dropLast else p.ls.dropLast ++ [y.label]) := hx
      split at hx'
      · exact .inl (hdl x hx')
      · rcases List.mem_append.1 hx' with h | h
        · exact .inl (hdl x h)
        · obtain rfl : x = y.label := by simpa using h
          rcases hyl with h | h
          · contradiction
          · exact .inr h
theorem fwd_kept {es : List EV} {p : PD} (h : (fwd es p).2.2 = 0) : Kept p (fwd es p).1 (fwd es p).2.1 := by
  unfold fwd at h ⊢
  by_cases h0 : tabErr es = 0
  · rw [if_neg (by simp [h0])] at h ⊢
    by_cases h1 : p.ls.length = 0
    · rw [if_pos h1] at h; exact absurd h (by simp)
    · rw [if_neg h1] at h ⊢
      exact step_kept h0 h1 h
  · rw [if_pos h0] at h
    exact absurd h h0
/-- the law of a packet that arrives -/
theorem follow_lives (ts : List TV) (ids : List Int) : ∀ (k a : Nat) (p : PD) (way : List Int), mu p ≤ k → 0 < way.length →
    ((follow ts ids k a p way).2.2 ≠ 0 ∧ (follow ts ids k a p way).1 = []) ∨
    ((follow ts ids k a p way).2.2 = 0 ∧ ∃ m : Nat, (follow ts ids k a p way).1.length = way.length + m ∧ (m = 0 ∨ (m : Int) < p.ttl) ∧ (follow ts ids k a p way).2.1.ttl = p.ttl - m ∧ (follow ts ids k a p way).2.1.ls = [] ∧ (follow ts ids k a p way).2.1.dst = p.dst ∧ (follow ts ids k a p way).1.getD 0 0 = way.getD 0 0)
  | 0, a, p, way, hk, hw => by
    right
    refine ⟨rfl, 0, by simp [follow], .inl rfl, by simp [follow], ?_, by simp [follow], by simp [follow]⟩
    have : p.ls.length = 0 := by unfold mu at hk; omega
    simpa [follow] using this
  | k + 1, a, p, way, hk, hw => by
    rw [follow]
    by_cases h0 : p.ls.length = 0
    · rw [if_pos h0]
      right
      exact ⟨rfl, 0, by simp, .inl rfl, by simp, by simpa using h0, rfl, rfl⟩
    rw [if_neg h0]
    by_cases h1 : (fwd (esAt ts a) p).2.2 = 0
    case neg => rw [if_pos h1]; exact .inl ⟨h1, rfl⟩
    rw [if_neg (by simp [h1])]
    have K := fwd_kept h1
    obtain ⟨⟨q, r, e⟩, hq⟩ : ∃ q, fwd (esAt ts a) p = q := ⟨_, rfl⟩
    rw [hq] at K ⊢
    dsimp only at K ⊢
    have hm := K.mu
    by_cases h2 : r = 0
    · rw [if_pos h2]
      rcases follow_lives ts ids k a q way (by omega) hw with h | ⟨h, m, h3, h4, h5, h6, h7, h8⟩
      · exact .inl h
      · rcases K.ttl with ⟨_, ht⟩ | ⟨hr, _, _⟩
        · exact .inr ⟨h, m, h3, by rw [← ht]; exact h4, by rw [← ht]; exact h5, h6, h7.trans K.dst, h8⟩
        · exact absurd h2 hr
    · rw [if_neg h2]
      by_cases h9 : idx ids r < 0
      · rw [if_pos h9]
        exact .inl ⟨by simp, rfl⟩
      · rw [if_neg h9]
        rcases follow_lives ts ids k (idx ids r).toNat q (way ++ [idx ids r]) (by omega) (by simp) with h | ⟨h, m, h3, h4, h5, h6, h7, h8⟩
        · exact .inl h
        · rcases K.ttl with ⟨hr, ht⟩ | ⟨_, ht0, ht⟩
          · exact absurd hr h2
          · refine .inr ⟨h, m + 1, by rw [h3]; simp; omega, .inr (by omega), by omega, h6, h7.trans K.dst, ?_⟩
            rw [h8]
            cases way with
            | nil => exact absurd hw (by simp)
            | cons y ys => rfl
end Go.Proofs.Ytkgfcekcjehkdaa
