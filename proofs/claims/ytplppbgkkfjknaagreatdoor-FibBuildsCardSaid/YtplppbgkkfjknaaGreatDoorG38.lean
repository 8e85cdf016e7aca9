/- The number of a group, found by comparing groups; plain. The table under construction in the document's Build: a group, a row appended; plain. The document's label: the labels for a prefix and a router. The document's required: the error of the routes. -/
import Derived.Test.YtplppbgkkfjknaaGreatDoorG28
import Derived.Test.YtplppbgkkfjknaaGreatDoorG20
import Derived.Test.YtplppbgkkfjknaaGreatDoorG21
import Derived.Test.YtplppbgkkfjknaaGreatDoorG36
import Derived.Test.YtplppbgkkfjknaaGreatDoorG13
import Derived.Test.YtplppbgkkfjknaaGreatDoorG15
namespace Go.Proofs.YtplppbgkkfjknaaGreatDoor
open Go.RowKit

set_option linter.unusedVariables false
set_option linter.unusedSimpArgs false
theorem idxQ_map {α β : Type} {P : β → Bool} (f : α → β) : ∀ l : List α, idxQ P (l.map f) = idxQ (fun x => P (f x)) l
  | [] => rfl
  | x :: t => by
    rw [List.map_cons, idxQ, idxQ, idxQ_map f t]
theorem idxQ_le {α : Type} {P : α → Bool} : ∀ {l : List α} {k : Nat} {x : α}, l[k]? = some x → P x = true → 0 ≤ idxQ P l ∧ idxQ P l ≤ (k : Int)
  | [], k, x, h, _ => by simp at h
  | y :: t, 0, x, h, hx => by
    obtain rfl : y = x := by simpa using h
    rw [idxQ, if_pos hx]
    omega
  | y :: t, k + 1, x, h, hx => by
    obtain ⟨h1, h2⟩ := idxQ_le (l := t) (k := k) (by simpa using h) hx
    rw [idxQ]
    split
    · omega
    · rw [if_neg (by omega)]
      omega
theorem key_same (x g : GE) : sameT (keyG g) (keyG x) = sameG x g := by
  rw [Bool.eq_iff_iff]
  unfold sameT sameG
  simp only [Bool.and_eq_true, decide_eq_true_eq]
  constructor
  · intro h
    exact text_inj h
  · rintro ⟨h1, h2⟩
    unfold keyG
    rw [h1]
    exact text_dat (map_key_dat h2)
theorem numG_same (gs : List GE) (g : GE) : numG gs g = if idxQ (fun x => sameG x g) gs < 0 then (gs ++ [g], gs.length) else (gs, (idxQ (fun x => sameG x g) gs).toNat) := by
  have h : idxQ (sameT (keyG g)) (gs.map keyG) = idxQ (fun x => sameG x g) gs := by
    rw [idxQ_map]
    congr 1
    funext x
    exact key_same x g
  unfold numG
  rw [h]
/-- where the search stands after k groups -/
def atTo (P : GE → Bool) (gs : List GE) (k : Nat) : Nat := if 0 ≤ idxQ P gs ∧ idxQ P gs < (k : Int) then (idxQ P gs).toNat else gs.length
theorem atTo_zero (P : GE → Bool) (gs : List GE) : atTo P gs 0 = gs.length := by
  unfold atTo
  rw [if_neg (by omega)]
theorem atTo_le (P : GE → Bool) (gs : List GE) (k : Nat) : atTo P gs k ≤ gs.length := by
  have := idxQ_lt (P := P) gs
  unfold atTo
  split <;> omega
theorem atTo_skip {P : GE → Bool} {gs : List GE} {k : Nat} (h : atTo P gs k ≠ gs.length) : atTo P gs (k + 1) = atTo P gs k := by
  unfold atTo at h ⊢
  by_cases h1 : 0 ≤ idxQ P gs ∧ idxQ P gs < (k : Int)
  · rw [if_pos h1, if_pos (by omega)]
  · rw [if_neg h1] at h
    exact absurd rfl h
theorem atTo_step {P : GE → Bool} {gs : List GE} {k : Nat} {x : GE} (h : atTo P gs k = gs.length) (hx : gs[k]? = some x) : atTo P gs (k + 1) = if P x = true then k else gs.length := by
  have hlt := idxQ_lt (P := P) gs
  unfold atTo at h ⊢
  have h1 : ¬ (0 ≤ idxQ P gs ∧ idxQ P gs < (k : Int)) := by
    intro h1
    rw [if_pos h1] at h
    omega
  by_cases hp : P x = true
  · obtain ⟨h2, h3⟩ := idxQ_le hx hp
    rw [if_pos hp, if_pos (by omega)]
    omega
  · rw [if_neg hp, if_neg (fun h2 => ?_)]
    obtain ⟨y, h3, h4⟩ := idxQ_pos (P := P) (l := gs) h2.1
    rw [show (idxQ P gs).toNat = k by omega, hx] at h3
    obtain rfl := Option.some.inj h3
    exact hp h4
theorem numG_at (gs : List GE) (g : GE) : numG gs g = if atTo (fun x => sameG x g) gs gs.length = gs.length then (gs ++ [g], gs.length) else (gs, atTo (fun x => sameG x g) gs gs.length) := by
  have hlt := idxQ_lt (P := fun x => sameG x g) gs
  rw [numG_same]
  by_cases h : idxQ (fun x => sameG x g) gs < 0
  · have h1 : atTo (fun x => sameG x g) gs gs.length = gs.length := by
      unfold atTo
      rw [if_neg (fun h2 => by omega)]
    rw [if_pos h, if_pos h1]
  · have h1 : atTo (fun x => sameG x g) gs gs.length = (idxQ (fun x => sameG x g) gs).toNat := by
      unfold atTo
      rw [if_pos ⟨by omega, hlt⟩]
    rw [if_neg h, if_neg (by rw [h1]; omega), h1]
end Go.Proofs.YtplppbgkkfjknaaGreatDoor
namespace Go.Proofs.YtplppbgkkfjknaaGreatDoor
open Go.RowKit

set_option linter.unusedVariables false
set_option linter.unusedSimpArgs false
structure RBs (F k gn : Nat) (tA gA : Option Addr) (tc gc : Nat) (lv bv nv : Value) (gs : List GE) (es : List Ent) (wS W : World) : Prop where
  box : Blk W F 35 [.slice tA k tc, .slice gA gn gc, lv, bv, nv]
  grow : GRow W (F + 1) (.slice gA gn gc) gn gs
  trow : W.ownsRow (F + 1) 79 3 (.slice tA k tc) k (es.flatMap Ent.vals)
  apart : ∀ q, (Value.slice tA k tc).ownBlock = some q → (Value.slice gA gn gc).ownBlock ≠ some q ∧ ∀ g ∈ gs, In (· ≠ q) g.A g.n g.ps
  bel : Below F wS W
section
variable {F k gn : Nat} {tA gA : Option Addr} {tc gc : Nat} {lv bv nv : Value} {gs : List GE} {es : List Ent} {wS W W' : World}
theorem RBs.below (h : RBs F k gn tA gA tc gc lv bv nv gs es wS W) (hb : Below W.heap.size W W') : RBs F k gn tA gA tc gc lv bv nv gs es wS W' :=
  ⟨h.box.keep hb, h.grow.below hb, row_below h.trow hb, h.apart, h.bel.trans (hb.mono (by have := h.box.lt; omega))⟩
theorem RBs.group (h : RBs F k gn tA gA tc gc lv bv nv gs es wS W) (g : GE) (hp : Paths W W.heap.size g.A g.n g.c g.ps) (hi : In (fun q => ((Value.slice gA gn gc).ownBlock ≠ some q ∧ F + 1 ≤ q) ∧ (Value.slice tA k tc).ownBlock ≠ some q) g.A g.n g.ps) (hn : gn ≤ 1000000) :
    ∃ A' c' w', (Builtin.append_ #[33, 33] 33 #[.slice gA gn gc, .slice (some ⟨W.heap.size, 0, none⟩) 1 1]).run Tryz.prog (W.alloc (.cells #[.int .i64 g.act, .slice g.A g.n g.c] 47)) = .ok (.slice A' (gn + 1) c') w' ∧
      Blk w' F 35 [.slice tA k tc, .slice gA gn gc, lv, bv, nv] ∧ Below (F + 1) W w' ∧ RBs F k (gn + 1) tA A' tc c' lv bv nv (gs ++ [g]) es wS (w'.setCell ⟨F, 1, none⟩ (.slice A' (gn + 1) c')) := by
  have hlF := h.box.lt
  obtain ⟨A', c', w', h1, h2, h3, h4, h5⟩ := grp_push h.grow g hp (hi.mono fun q hq => hq.1) rfl (by omega) hn
  have hsv : Save F w' (w'.setCell ⟨F, 1, none⟩ (.slice A' (gn + 1) c')) := Save.set
  have hb1 : Blk w' F 35 [.slice tA k tc, .slice gA gn gc, lv, bv, nv] := h.box.below h3 (by omega)
  have hs4 := h4.size
  refine ⟨A', c', w', h1, hb1, h3, hb1.set 1 _, ?_, ?_, ?_, ?_⟩
  · exact h2.kp (P := (· ≠ F)) (Keep.save hsv fun q h => h) (fun q e => by have := (World.ownsRow.lt h2.row q e).1; show q ≠ _; omega) (fun g hg => (h2.data g hg).2.mono fun q h => by have := h.2; show q ≠ _; omega)
  · exact row_kp (P := (· ≠ F)) (row_kp h.trow h4 fun q e => (h.apart q e).1) (Keep.save hsv fun q h => h) (fun q e => by have := (World.ownsRow.lt h.trow q e).1; show q ≠ _; omega)
  · intro q hq
    have hq2 := World.ownsRow.lt h.trow q hq
    refine ⟨fun e => ?_, fun x hx => ?_⟩
    · rcases h5 q e with e2 | e2
      · exact (h.apart q hq).1 e2
      · omega
    · rcases List.mem_append.1 hx with hx | hx
      · exact (h.apart q hq).2 x hx
      · obtain rfl : x = g := by simpa using hx
        exact hi.mono fun i hh e => hh.2 (by rw [hq, e])
  · exact (h.bel.trans (h3.mono (by omega))).trans (hsv.below (Nat.le_refl _) (by omega))
theorem RBs.entry (h : RBs F k gn tA gA tc gc lv bv nv gs es wS W) (e : Ent) (hn : k ≤ 1000000) :
    ∃ A2 c2 w', (Builtin.append_ #[32, 32] 32 #[.slice tA k tc, .slice (some ⟨W.heap.size, 0, none⟩) 1 1]).run Tryz.prog (W.alloc (.cells #[.int .u32 e.a, .int .i64 e.l, .int .i64 e.v] 79)) = .ok (.slice A2 (k + 1) c2) w' ∧
      Blk w' F 35 [.slice tA k tc, .slice gA gn gc, lv, bv, nv] ∧ Below (F + 1) W w' ∧ RBs F (k + 1) gn A2 gA c2 gc lv bv nv gs (es ++ [e]) wS (w'.setCell ⟨F, 0, none⟩ (.slice A2 (k + 1) c2)) := by
  have hlF := h.box.lt
  obtain ⟨A2, c2, w', h1, h2, h3, h4, h5⟩ := row_push (S := 32) Tryz.underlying32 entry_info rfl (by omega) (by omega) h.trow [.int .u32 e.a, .int .i64 e.l, .int .i64 e.v] rfl (by intro u hu; simp only [List.mem_cons, List.not_mem_nil, or_false] at hu; rcases hu with rfl | rfl | rfl <;> rfl) rfl (by omega) hn
  have hsv : Save F w' (w'.setCell ⟨F, 0, none⟩ (.slice A2 (k + 1) c2)) := Save.set
  have hb1 : Blk w' F 35 [.slice tA k tc, .slice gA gn gc, lv, bv, nv] := h.box.below h3 (by omega)
  have hs4 := h4.size
  have hg1 : GRow w' (F + 1) (.slice gA gn gc) gn gs := h.grow.kp h4 (fun q e e2 => (h.apart q e2).1 e) (fun g hg => ⟨fun hn ad e e2 => ((h.apart _ e2).2 g hg).1 hn ad e rfl, fun p hp hn ad e e2 => ((h.apart _ e2).2 g hg).2 p hp hn ad e rfl⟩)
  refine ⟨A2, c2, w', h1, hb1, h3, hb1.set 0 _, ?_, ?_, ?_, ?_⟩
  · exact hg1.kp (P := (· ≠ F)) (Keep.save hsv fun q h => h) (fun q e => by have := (World.ownsRow.lt hg1.row q e).1; show q ≠ _; omega) (fun g hg => (hg1.data g hg).2.mono fun q h => by have := h.2; show q ≠ _; omega)
  · have k1 := row_kp (P := (· ≠ F)) h2 (Keep.save hsv fun q h => h) (fun q e => by have := (World.ownsRow.lt h2 q e).1; show q ≠ _; omega)
    rw [List.flatMap_append]
    simpa [Ent.vals] using k1
  · intro q hq
    rcases h5 q hq with e2 | e2
    · exact h.apart q e2
    · exact ⟨fun e3 => by have := (World.ownsRow.lt h.grow.row q e3).2; omega, fun g hg => (paths_in (h.grow.data g hg).1).mono fun i hi => by show i ≠ q; omega⟩
  · exact (h.bel.trans (h3.mono (by omega))).trans (hsv.below (Nat.le_refl _) (by omega))
end
theorem build_next {ks : List BK} {os : List LO} {rs : List RT} {k idx : Nat} {r : RT} {gs gs' : List GE} {es : List Ent} {g0 : GE} (hD : (gs.map GE.dat, es) = buildS ks os (rs.take k)) (hr : rs[k]? = some r) (hg : g0.dat = grpD ks os r) (hn : numG gs g0 = (gs', idx)) :
    (gs'.map GE.dat, es ++ [⟨r.a, r.l, (idx : Nat)⟩]) = buildS ks os (rs.take (k + 1)) := by
  rw [buildS_take hr, ← hD]
  unfold stepB
  dsimp only
  rw [← hg, numG_dat hn]
def RbI (wS : World) (F rn : Nat) (lv bv nv : Value) (ks : List BK) (os : List LO) (rs : List RT) (iv : Value) (W : World) : Prop :=
  ∃ (k gn : Nat) (tA gA : Option Addr) (tc gc : Nat) (gs : List GE) (es : List Ent), k ≤ rn ∧ iv = .int .i64 k ∧ gn ≤ k ∧ Hid (RBs F k gn tA gA tc gc lv bv nv gs es wS W) ∧
    Hid ((gs.map GE.dat, es) = buildS ks os (rs.take k) ∧ es.length = k ∧ (∀ e ∈ es, e.a < 4294967296) ∧ ∀ g ∈ gs, g.n ≤ 1000 ∧ Short g.ps)
theorem rb_next {wS W : World} {F rn k gn' idx : Nat} {tA gA : Option Addr} {tc gc : Nat} {lv bv nv : Value} {ks : List BK} {os : List LO} {rs : List RT} {gs gs' : List GE} {es : List Ent} {r : RT} {g0 : GE}
    (hk : k < rn) (hgk : gn' ≤ k + 1) (h : RBs F (k + 1) gn' tA gA tc gc lv bv nv gs' (es ++ [⟨r.a, r.l, (idx : Nat)⟩]) wS W) (hD : (gs.map GE.dat, es) = buildS ks os (rs.take k) ∧ es.length = k ∧ (∀ e ∈ es, e.a < 4294967296) ∧ ∀ g ∈ gs, g.n ≤ 1000 ∧ Short g.ps)
    (hr : rs[k]? = some r) (hra : r.a < 4294967296) (hg : g0.dat = grpD ks os r) (hg2 : g0.n ≤ 1000 ∧ Short g0.ps) (hn : numG gs g0 = (gs', idx)) : RbI wS F rn lv bv nv ks os rs (.int .i64 ((k + 1 : Nat) : Int)) W := by
  refine ⟨k + 1, gn', tA, gA, tc, gc, gs', _, by omega, rfl, hgk, h, build_next hD.1 hr hg hn, by rw [List.length_append, hD.2.1]; rfl, ?_, ?_⟩
  · intro e he
    rcases List.mem_append.1 he with he | he
    · exact hD.2.2.1 e he
    · obtain rfl : e = ⟨r.a, r.l, (idx : Nat)⟩ := by simpa using he
      exact hra
  · intro g hgm
    rcases (numG_len hn).2 g hgm with hx | rfl
    · exact hD.2.2.2 g hx
    · exact hg2
def GivesFIBR (R : Int) (lA bA nA : Option Addr) (n ln lc bn bc nn nc : Nat) (q : List (Int × List PV) × List Ent) (ls : List Int) (bs : List EV) (ns : List NH) (w : World) (e : Ending) (w' : World) : Prop :=
  Below w.heap.size w w' ∧ ((R ≠ 0 ∧ e = .returned (.tuple #[.agg #[.slice none 0 0, .slice none 0 0, .slice none 0 0, .slice none 0 0, .slice none 0 0], .int .i64 R])) ∨ (R = 0 ∧ ∃ gs, gs.map GE.dat = q.1 ∧ (∀ g ∈ gs, g.ps.length = g.n ∧ ∀ p ∈ g.ps, p.ls.length = p.ln) ∧
    ((fibErr q.2 gs ls bs ns ≠ 0 ∧ e = .returned (.tuple #[.agg #[.slice none 0 0, .slice none 0 0, .slice none 0 0, .slice none 0 0, .slice none 0 0], .int .i64 (fibErr q.2 gs ls bs ns)])) ∨
     (fibErr q.2 gs ls bs ns = 0 ∧ ∃ tA gA tc gc, e = .returned (.tuple #[.agg #[.slice tA n tc, .slice gA gs.length gc, .slice lA ln lc, .slice bA bn bc, .slice nA nn nc], .int .i64 0]) ∧
        FibAt w' w'.heap.size tA gA lA bA nA n tc gs.length gc ln lc bn bc nn nc q.2 gs ls bs ns ∧ (∀ g ∈ gs, g.n ≤ 1000 ∧ Short g.ps)))))
end Go.Proofs.YtplppbgkkfjknaaGreatDoor
namespace Go.Proofs.YtplppbgkkfjknaaGreatDoor
open Go.RowKit

set_option linter.unusedVariables false
set_option linter.unusedSimpArgs false
theorem labelR_skip {a : Nat} {l r : Int} : ∀ {os : List LO} {k : Nat}, (∀ j, j < k → ∀ x, os[j]? = some x → samePre a l x = false) → labelR a l r os = labelR a l r (os.drop k)
  | os, 0, _ => by simp
  | [], k + 1, _ => by simp
  | x :: t, k + 1, h => by
    rw [labelR, if_neg (by rw [h 0 (by omega) x rfl]; simp), List.drop_succ_cons]
    exact labelR_skip fun j hj y hy => h (j + 1) (by omega) y (by simpa using hy)
theorem labelR_at {a : Nat} {l r : Int} {os : List LO} {k : Nat} {x : LO} (hx : os[k]? = some x) (hp : samePre a l x = true) (h : ∀ j, j < k → ∀ x, os[j]? = some x → samePre a l x = false) : labelR a l r os = hopLab r x.hs := by
  obtain ⟨hk, he⟩ := List.getElem?_eq_some_iff.1 hx
  rw [labelR_skip h, List.drop_eq_getElem_cons hk, labelR, he, if_pos hp]
set_option maxRecDepth 100000 in
set_option maxHeartbeats 4000000 in
theorem refLabel52_any (oA : Option Addr) (on oc B : Nat) (os : List LO) (a : Nat) (l r : Int) (w : World) (hx : Outs w B oA on oc os) (hB : B ≤ w.heap.size) (hn : on ≤ 140737488355328) :
    Calls Tryz.prog 60 #[.slice oA on oc, .agg #[.int .u32 a, .int .i64 l], .int .u32 r] w (GivesLab (labelR a l r os) w) := by
  obtain ⟨w1, hw1⟩ : ∃ w1, w.alloc (.cells #[.int .u32 a, .int .i64 l] 65) = w1 := ⟨_, rfl⟩
  have HP1 : Hid (Blk w1 w.heap.size 65 [.int .u32 a, .int .i64 l]) := by show Blk _ _ _ _; rw [← hw1]; exact Blk.new w _ _
  have HB1 : Hid (Below w.heap.size w w1) := by show Below _ _ _; rw [← hw1]; exact belowA _ _
  have hlt1 := HP1.out.lt
  have HXW : Hid (∀ W, Below w.heap.size w W → Outs W B oA on oc os) := fun W h => hx.below (h.mono hB)
  have HOL : Hid (os.length = on) := hx.1.2
  obtain ⟨a', ha'⟩ : ∃ a' : Int, (a : Int) = a' := ⟨_, rfl⟩
  have HA := Lib.hid ha'
  rw [ha'] at HP1 hw1 ⊢
  have HI0 : Hid (∃ k : Nat, k ≤ on ∧ (Value.int .i64 (0 : Nat)) = .int .i64 k ∧ Hid (∀ j, j < k → ∀ x, os[j]? = some x → samePre a l x = false) ∧ Hid (Below w1.heap.size w1 w1)) := ⟨0, Nat.zero_le _, rfl, Lib.hid (fun j h => absurd h (by omega)), Lib.hid (Below.refl _ _)⟩
  clear hx ha'
  go_enter Tryz.func60, Tryz.ntmps60
  go_wp2
  go_loopw [12] (fun iv wr => ∃ k : Nat, k ≤ on ∧ iv = .int .i64 k ∧ Hid (∀ j, j < k → ∀ x, os[j]? = some x → samePre a l x = false) ∧ Hid (Below w1.heap.size w1 wr)) (fun iv _ => on - (intOf iv).toNat)
  case atStart => exact HI0.out
  case round =>
    obtain ⟨k, hk, rfl, hno, hB2⟩ := hrel
    clear HI0 hw1
    obtain ⟨wq, rfl⟩ : ∃ wq, wq = wr := ⟨_, rfl⟩
    have HBQ := Lib.hid (below3 HB1.out hB2.out)
    have HPQ := Lib.hid (HP1.out.keep hB2.out)
    by_cases hlt : k < on
    case neg =>
      obtain rfl : k = on := by omega
      have HE : Hid (labelR a l r os = []) := by
        show _ = _
        rw [labelR_skip (k := k) hno.out, List.drop_eq_nil_of_le (by rw [HOL.out]; omega)]
        rfl
      go_wp2
      go_ret
      rw [HE.out]
      exact ⟨none, 0, rfl, Own.nil _ _ _ _, HBQ.out⟩
    obtain ⟨wD, hwD⟩ : ∃ wD, wq.drew = wD := ⟨_, rfl⟩
    have hbD : Below wq.heap.size wq wD := by rw [← hwD]; exact (Below.refl _ _).drew
    have HBD := Lib.hid (below3 hB2.out hbD)
    have HBW := Lib.hid (below3 HBQ.out hbD)
    have hpD := HPQ.out.keep hbD
    obtain ⟨b, o, x, hbA, hbB, hxk, c0, c1, c2⟩ := LO.get (HXW.out _ HBW.out).1 hlt
    subst hbA
    have hbw : b < wD.heap.size := by have := HBW.out.size; omega
    obtain ⟨hxn, hxh⟩ := (HXW.out _ HBW.out).2 x (List.mem_of_getElem? hxk)
    have HXK := Lib.hid hxk
    obtain ⟨xa, xl, xA, xn, xc, hs⟩ := x
    dsimp only at c0 c1 c2 hxn hxh
    obtain ⟨sb, hsb⟩ : ∃ sb, samePre a l ⟨xa, xl, xA, xn, xc, hs⟩ = sb := ⟨_, rfl⟩
    have HSB := Lib.hid hsb
    obtain ⟨x0, hx0⟩ : ∃ q : Int, (xa : Int) = q := ⟨_, rfl⟩
    rw [hx0] at c0
    have HNE : Hid ((!(decide (x0 = a') && decide (xl = l))) = !sb) := by
      show _ = _
      rw [← hsb, ← hx0, ← HA.out]
      unfold samePre
      rw [Bool.eq_iff_iff]
      simp
      omega
    have p0 : wD.cell? ⟨w.heap.size, 0, none⟩ = some (.int .u32 a') := hpD.cell 0
    have p1 : wD.cell? ⟨w.heap.size, 1, none⟩ = some (.int .i64 l) := hpD.cell 1
    have HSD : Hid ((wD.cell? ⟨b, o + k * 3, none⟩ = some (.int .u32 x0) ∧ wD.cell? ⟨b, o + k * 3 + 1, none⟩ = some (.int .i64 xl)) ∧ wD.cell? ⟨w.heap.size, 0, none⟩ = some (.int .u32 a') ∧ wD.cell? ⟨w.heap.size, 1, none⟩ = some (.int .i64 l)) := ⟨⟨c0, c1⟩, p0, p1⟩
    have HXH : Hid (∀ W, Below wD.heap.size wD W → Hops W B xA xn xc hs) := fun W h => hxh.below (h.mono (by have := HBW.out.size; omega))
    have HHL := Lib.hid hxh.len
    clear hbD hsb hx0 c0 c1 p0 p1 hxk hxh hpD
    go_upto_region 4 with fail
    refine wp_region_noPanic ?_
    refine wp_region_held_drew (S := fun V => (V.cell? ⟨b, o + k * 3, none⟩ = some (.int .u32 x0) ∧ V.cell? ⟨b, o + k * 3 + 1, none⟩ = some (.int .i64 xl)) ∧ V.cell? ⟨w.heap.size, 0, none⟩ = some (.int .u32 a') ∧ V.cell? ⟨w.heap.size, 1, none⟩ = some (.int .i64 l)) (by kernel_rfl) (by rw [hwD]; exact HSD.out) (fun hHeld => ?_)
    rw [hwD] at hHeld ⊢
    clear hwD
    refine take_in (i := 0) _ (some 15) (by kernel_rfl) (by kernel_rfl) (by kernel_rfl) (by kernel_rfl) (fun _ _ _ h => h) (by rfl) (fun o ho w hSw => by cases ho; (try dsimp only at hSw); (try go_split_ands); go_simp; (try with_reducible rfl)) hHeld ?_
    try simp only [Act.put, List.setIfInBounds_toArray, List.set_cons_zero, List.set_cons_succ]
    refine take_in (i := 1) _ (some 16) (by kernel_rfl) (by kernel_rfl) (by kernel_rfl) (by kernel_rfl) (fun _ _ _ h => h) (by rfl) (fun o ho w hSw => by cases ho; (try dsimp only at hSw); (try go_split_ands); go_simp; (try with_reducible rfl)) hHeld ?_
    try simp only [Act.put, List.setIfInBounds_toArray, List.set_cons_zero, List.set_cons_succ]
    refine take_in (i := 2) _ (some 17) (by kernel_rfl) (by kernel_rfl) (by kernel_rfl) (by kernel_rfl) (fun _ _ _ h => h) (by rfl) (fun o ho w hSw => by cases ho; (try dsimp only at hSw); (try go_split_ands); go_simp; (try with_reducible rfl)) hHeld ?_
    try simp only [Act.put, List.setIfInBounds_toArray, List.set_cons_zero, List.set_cons_succ]
    refine take_in (i := 3) _ (some 18) (by kernel_rfl) (by kernel_rfl) (by kernel_rfl) (by kernel_rfl) (fun _ _ _ h => h) (by rfl) (fun o ho w hSw => by cases ho; (try dsimp only at hSw); (try go_split_ands); go_simp; (try with_reducible rfl)) hHeld ?_
    try simp only [Act.put, List.setIfInBounds_toArray, List.set_cons_zero, List.set_cons_succ]
    refine take_in (i := 4) _ (some 19) (by kernel_rfl) (by kernel_rfl) (by kernel_rfl) (by kernel_rfl) (fun _ _ _ h => h) (by rfl) (fun o ho w hSw => by cases ho; (try dsimp only at hSw); (try go_split_ands); go_simp; (try with_reducible rfl)) hHeld ?_
    try simp only [Act.put, List.setIfInBounds_toArray, List.set_cons_zero, List.set_cons_succ]
    refine take_in (i := 5) _ (some 20) (by kernel_rfl) (by kernel_rfl) (by kernel_rfl) (by kernel_rfl) (fun _ _ _ h => h) (by rfl) (fun o ho w hSw => by cases ho; (try dsimp only at hSw); (try go_split_ands); go_simp; (try with_reducible rfl)) hHeld ?_
    try simp only [Act.put, List.setIfInBounds_toArray, List.set_cons_zero, List.set_cons_succ]
    refine take_in (i := 6) _ (some 21) (by kernel_rfl) (by kernel_rfl) (by kernel_rfl) (by kernel_rfl) (fun _ _ _ h => h) (by rfl) (fun o ho w hSw => by cases ho; (try dsimp only at hSw); (try go_split_ands); go_simp; exact ne2w) hHeld ?_
    try simp only [Act.put, List.setIfInBounds_toArray, List.set_cons_zero, List.set_cons_succ]
    refine wpAnyH_done (by kernel_rfl) ?_ _
    refine NoPanic.normal ?_
    rw [HNE.out]
    clear HSD HNE
    cases sb with
    | false =>
      have HN : Hid (∀ j, j < k + 1 → ∀ x, os[j]? = some x → samePre a l x = false) := by
        intro j hj y hy
        rcases Nat.lt_or_ge j k with h | h
        · exact hno.out j h y hy
        · obtain rfl : j = k := by omega
          rw [HXK.out] at hy
          obtain rfl := Option.some.inj hy
          exact HSB.out
      clear c2
      go_wp2
      go_roundw
      case rel => exact ⟨k + 1, by omega, by go_num, HN, HBD⟩
      case measure => simp [intOf]; omega
    | true =>
      have HF : Hid (labelR a l r os = hopLab r hs) := labelR_at HXK.out HSB.out hno.out
      have HI1 : Hid (∃ j : Nat, j ≤ xn ∧ (Value.int .i64 (0 : Nat)) = .int .i64 j ∧ Hid (∀ i, i < j → ∀ y, hs[i]? = some y → y.router ≠ r) ∧ Hid (Below wD.heap.size wD wD)) := ⟨0, Nat.zero_le _, rfl, Lib.hid (fun i h => absurd h (by omega)), Lib.hid (Below.refl _ _)⟩
      go_wp2
      go_loopw [28] (fun iv wr => ∃ j : Nat, j ≤ xn ∧ iv = .int .i64 j ∧ Hid (∀ i, i < j → ∀ y, hs[i]? = some y → y.router ≠ r) ∧ Hid (Below wD.heap.size wD wr)) (fun iv _ => xn - (intOf iv).toNat)
      case atStart => exact HI1.out
      case round =>
        obtain ⟨j, hj, rfl, hno2, hB3⟩ := hrel
        have HBX := Lib.hid (below3 HBW.out hB3.out)
        by_cases hlt2 : j < xn
        case neg =>
          have HE : Hid (labelR a l r os = []) := by
            show _ = _
            rw [HF.out, hopLab_skip (k := j) hno2.out, List.drop_eq_nil_of_le (by rw [HHL.out]; omega)]
            rfl
          clear HI1 c2
          go_wp2
          go_ret
          rw [HE.out]
          exact ⟨none, 0, rfl, Own.nil _ _ _ _, HBX.out⟩
        have c2r : wr.cell? ⟨b, o + k * 3 + 2, none⟩ = some (.slice xA xn xc) := (hB3.out.cell (p := ⟨b, _, none⟩) hbw).trans c2
        have hbr : b < wr.heap.size := by have := hB3.out.size; omega
        obtain ⟨b4, o4, y, rfl, hb4, hyj, y0, y1⟩ := (HXH.out _ hB3.out).get hlt2
        have hb4w : b4 < wr.heap.size := by have := HBX.out.size; omega
        have HY := Lib.hid hyj
        have HD : Hid (labelR a l r os = if y.router = r then (if y.label = -1 then [] else [y.label]) else hopLab r (hs.drop (j + 1))) := by
          show _ = _
          rw [HF.out, hopLab_skip (k := j) hno2.out, List.drop_eq_getElem_cons (by rw [HHL.out]; exact hlt2)]
          rw [hopLab]
          have e : hs[j]'(by rw [HHL.out]; exact hlt2) = y := by
            have h := List.getElem?_eq_getElem (l := hs) (i := j) (by rw [HHL.out]; exact hlt2)
            rw [hyj] at h
            exact (Option.some.inj h).symm
          rw [e]
        obtain ⟨yr, yl⟩ := y
        dsimp only at y0 y1 HD
        obtain ⟨wa, hwa⟩ : ∃ wa, wr.alloc (.cells #[.int .u32 yr, .int .i64 yl] 105) = wa := ⟨_, rfl⟩
        have hya : Blk wa wr.heap.size 105 [.int .u32 yr, .int .i64 yl] := by rw [← hwa]; exact Blk.new wr _ _
        have HBA := Lib.hid (show Below wr.heap.size wr wa by rw [← hwa]; exact belowA _ _)
        have HB5 := Lib.hid (below3 HBX.out HBA.out)
        have HB6 := Lib.hid (below3 hB3.out HBA.out)
        have e0 := hya.cell 0
        have e1 := hya.cell 1
        simp only [List.getElem?_cons_zero, List.getElem?_cons_succ] at e0 e1
        have hlta := hya.lt
        clear hyj hya HI1 c2
        by_cases hr : yr = r
        · have d0 : (yr == r) = true := by simp [hr]
          by_cases hl1 : yl = -1
          · have HE : Hid (labelR a l r os = []) := by show _ = _; rw [HD.out, if_pos hr, if_pos hl1]
            have d1 : (yl != -1) = false := by simp [hl1]
            clear hr hl1
            go_upto_region 9 with fail
            try rw [hwa]
            go_wp2
            go_ret
            rw [HE.out]
            exact ⟨none, 0, rfl, Own.nil _ _ _ _, HB5.out⟩
          · have HE : Hid (labelR a l r os = [yl]) := by show _ = _; rw [HD.out, if_pos hr, if_neg hl1]
            have d1 : (yl != -1) = true := by simp [hl1]
            have HO : Hid (Own (wa.alloc (.cells #[.int .i64 yl] 3)) w.heap.size 3 .i64 (.slice (some ⟨wa.heap.size, 0, none⟩) 1 1) 1 [yl]) := by
              show Own _ _ _ _ _ _ _
              exact World.ownsRow_lit (base := w.heap.size) (size := 1) wa #[.int .i64 yl] 1 HB5.out.size (by simp [maxLen]) rfl
            clear hl1 hr
            go_upto_region 9 with fail
            try rw [hwa]
            go_wp2
            go_ret
            rw [HE.out]
            exact ⟨some ⟨wa.heap.size, 0, none⟩, 1, rfl, HO.out, below3 HB5.out (belowA _ _)⟩
        · have d1 : (yr == r) = false := by simp [hr]
          have HN : Hid (∀ i, i < j + 1 → ∀ y, hs[i]? = some y → y.router ≠ r) := by
            intro i hi y hy
            rcases Nat.lt_or_ge i j with h | h
            · exact hno2.out i h y hy
            · obtain rfl : i = j := by omega
              rw [HY.out] at hy
              obtain rfl := Option.some.inj hy
              exact hr
          clear hr
          go_upto_region 9 with fail
          try rw [hwa]
          go_wp2
          go_roundw
          case rel => exact ⟨j + 1, by omega, by go_num, HN, HB6⟩
          case measure => simp [intOf]; omega
end Go.Proofs.YtplppbgkkfjknaaGreatDoor
namespace Go.Proofs.YtplppbgkkfjknaaGreatDoor
open Go.RowKit

set_option linter.unusedVariables false
set_option linter.unusedSimpArgs false
theorem any_bad_no {hs : List XH} {n : Nat} (hl : hs.length = n) (h : ∀ i, i < n → ∀ y, hs[i]? = some y → badH y = false) : hs.any badH = false := by
  rw [List.any_eq_false]
  intro x hx
  obtain ⟨j, hj, he⟩ := List.getElem_of_mem hx
  have h1 := h j (by omega) x (by rw [List.getElem?_eq_getElem hj, he])
  rw [h1]
  simp
theorem any_bad_yes {hs : List XH} {j : Nat} {y : XH} (h : hs[j]? = some y) (hb : badH y = true) : hs.any badH = true := List.any_eq_true.2 ⟨y, List.mem_of_getElem? h, hb⟩
set_option maxRecDepth 100000 in
set_option maxHeartbeats 8000000 in
theorem refRequired_any (tA : Option Addr) (tn tc B : Nat) (es : List RT) (w : World) (hx : Rts w B tA tn tc es) (hB : B ≤ w.heap.size) (hn : tn ≤ 140737488355328) :
    Calls Tryz.prog 25 #[.slice tA tn tc] w fun e w' => e = .returned (.int .i64 (routesErr es)) ∧ Below w.heap.size w w' := by
  have HXW : Hid (∀ W, Below w.heap.size w W → Rts W B tA tn tc es) := fun W h => hx.below (h.mono hB)
  have HL : Hid (es.length = tn) := hx.1.2
  have HI0 : Hid (RouI w tn es (.int .i64 (0 : Nat)) w) := ⟨0, Nat.zero_le _, rfl, Lib.hid rfl, Lib.hid (Below.refl _ _)⟩
  clear hx
  go_enter Tryz.func25, Tryz.ntmps25
  go_wp2
  go_loopw [7] (fun iv wr => RouI w tn es iv wr) (fun iv _ => tn - (intOf iv).toNat)
  case atStart => exact HI0.out
  case round =>
    obtain ⟨k, hk, rfl, h0, hB2⟩ := hrel
    clear HI0
    obtain ⟨wq, rfl⟩ : ∃ wq, wq = wr := ⟨_, rfl⟩
    by_cases hlt : k < tn
    case neg =>
      obtain rfl : k = tn := by omega
      have HE : Hid (routesErr es = 0) := by show _ = _; unfold routesErr; rw [HL.out]; exact h0.out
      go_wp2
      go_ret
      exact ⟨ret_int HE.out.symm, hB2.out⟩
    have HX2 := Lib.hid (HXW.out _ hB2.out)
    obtain ⟨b, o, x, rfl, hbB, hxk, ⟨hxa, hxn, hxh⟩, c0, c1, c2, c3, c4, c5, c6⟩ := HX2.out.get hlt
    have hax := rou_of hxk
    have HO : Hid (rouErr es k = if validP x.a x.l = false then 1 else if 0 < k ∧ 0 ≤ cmpR (rtAtQ es (k - 1)) x then 16 else if x.hs.any badH = true then 11 else 0) := by
      show _ = _
      unfold rouErr
      rw [hax]
    have HAT : Hid (∀ v : Int, rouErr es k = v → v ≠ 0 → routesErr es = v) := fun v hv hne => by
      unfold routesErr
      rw [HL.out, firstE_at h0.out (by rw [hv]; exact hne) hlt, hv]
    have HST : Hid (rouErr es k = 0 → firstE (rouErr es) (k + 1) = 0) := fun hv => firstE_step h0.out hv
    have hbw : b < wq.heap.size := by have := hB2.out.size; omega
    obtain ⟨xa, xl, xp, xd, xm, xt, xA, xn, xc, xh⟩ := x
    dsimp only at hxa hxn hxh c0 c1 c2 c3 c4 c5 c6 HO
    have HXH : Hid (∀ W, Below w.heap.size w W → XHops W B xA xn xc xh) := fun W h => ((HXW.out W h).2 _ (List.mem_of_getElem? hxk)).2.2
    have HHL : Hid (xh.length = xn) := hxh.2
    have HV := Lib.hid (refValid_any xa xl wq hxa)
    obtain ⟨vb, hvb⟩ : ∃ vb, validP xa xl = vb := ⟨_, rfl⟩
    rw [hvb] at HV HO
    have HC0 := Lib.hid c0
    have HC1 := Lib.hid c1
    have HC6 := Lib.hid c6
    clear hax hvb hxh c2 c3 c4 c5
    go_wp2_with fail
    refine HV.out.mono ?_
    rintro e w2 ⟨rfl, hb2⟩
    have HB2 := Lib.hid hb2
    have HBW := Lib.hid (below3 hB2.out hb2)
    clear HV c0 c1 c6 hb2
    cases vb
    case false =>
      have HE : Hid (routesErr es = 1) := HAT.out 1 (by rw [HO.out, if_pos rfl]) (by omega)
      go_wp2
      go_ret
      exact ⟨ret_int HE.out.symm, HBW.out⟩
    have HO2 : Hid (rouErr es k = if 0 < k ∧ 0 ≤ cmpR (rtAtQ es (k - 1)) ⟨xa, xl, xp, xd, xm, xt, xA, xn, xc, xh⟩ then 16 else if xh.any badH = true then 11 else 0) := by
      show _ = _
      rw [HO.out, if_neg (by simp)]
    clear HO
    go_upto_region 6 with fail
    obtain ⟨wD, hwD⟩ : ∃ wD, w2.drew = wD := ⟨_, rfl⟩
    have hbD : Below w2.heap.size w2 wD := by rw [← hwD]; exact (Below.refl _ _).drew
    have HBD := Lib.hid (below3 HB2.out hbD)
    have HBV := Lib.hid (below3 HBW.out hbD)
    have x0 : wD.cell? ⟨b, o + k * 7, none⟩ = some (.int .u32 xa) := (HBD.out.cell (p := ⟨b, _, none⟩) hbw).trans HC0.out
    have x1 : wD.cell? ⟨b, o + k * 7 + 1, none⟩ = some (.int .i64 xl) := (HBD.out.cell (p := ⟨b, _, none⟩) hbw).trans HC1.out
    clear hbD
    rcases Nat.eq_zero_or_pos k with hk0 | hk0
    · have dk : decide ((k : Int) > 0) = false := decide_eq_false (by omega)
      have dk' : decide (0 < k) = false := decide_eq_false (by omega)
      have dk2 : decide ((0 : Int) < (k : Int)) = false := decide_eq_false (by omega)
      have HO3 : Hid (rouErr es k = if xh.any badH = true then 11 else 0) := by
        show _ = _
        rw [HO2.out, if_neg (by omega)]
      have HK0 := Lib.hid hk0
      clear hk0 x0 x1 HO2
      refine wp_region_noPanic ?_
      refine wp_region_held_drew (S := fun V => True) (by kernel_rfl) trivial (fun hHeld => ?_)
      try rw [hwD] at hHeld
      rw [hwD]
      clear hwD
      refine take_in (i := 0) _ (some 17) (by kernel_rfl) (by kernel_rfl) (by kernel_rfl) (by kernel_rfl) (fun _ _ _ h => h) (by rfl) (fun o ho w hSw => by cases ho; (try dsimp only at hSw); (try go_split_ands); go_simp; (try with_reducible rfl)) hHeld ?_
      try simp only [Act.put, List.setIfInBounds_toArray, List.set_cons_zero, List.set_cons_succ]
      refine take_in (i := 1) _ (some 18) (by kernel_rfl) (by kernel_rfl) (by kernel_rfl) (by kernel_rfl) (fun _ _ _ h => h) (by rfl) (fun o ho w hSw => by cases ho; (try dsimp only at hSw); (try go_split_ands); go_simp; (try with_reducible rfl)) hHeld ?_
      try simp only [Act.put, List.setIfInBounds_toArray, List.set_cons_zero, List.set_cons_succ]
      refine take_in (i := 2) _ (some 19) (by kernel_rfl) (by kernel_rfl) (by kernel_rfl) (by kernel_rfl) (fun _ _ _ h => h) (by rfl) (fun o ho w hSw => by cases ho; (try dsimp only at hSw); (try go_split_ands); go_simp; (try with_reducible rfl)) hHeld ?_
      try simp only [Act.put, List.setIfInBounds_toArray, List.set_cons_zero, List.set_cons_succ]
      refine take_un (i := 3) (some 20) (by kernel_rfl) (by kernel_rfl) (by kernel_rfl) (by kernel_rfl) (fun _ _ _ h => h) (by rfl) hHeld ?_
      try simp only [Act.put, List.setIfInBounds_toArray, List.set_cons_zero, List.set_cons_succ]
      refine take_un (i := 4) (some 21) (by kernel_rfl) (by kernel_rfl) (by kernel_rfl) (by kernel_rfl) (fun _ _ _ h => h) (by rfl) hHeld ?_
      try simp only [Act.put, List.setIfInBounds_toArray, List.set_cons_zero, List.set_cons_succ]
      refine take_un (i := 5) (some 22) (by kernel_rfl) (by kernel_rfl) (by kernel_rfl) (by kernel_rfl) (fun _ _ _ h => h) (by rfl) hHeld ?_
      try simp only [Act.put, List.setIfInBounds_toArray, List.set_cons_zero, List.set_cons_succ]
      refine take_un (i := 6) (some 23) (by kernel_rfl) (by kernel_rfl) (by kernel_rfl) (by kernel_rfl) (fun _ _ _ h => h) (by rfl) hHeld ?_
      try simp only [Act.put, List.setIfInBounds_toArray, List.set_cons_zero, List.set_cons_succ]
      refine take_un (i := 7) (some 24) (by kernel_rfl) (by kernel_rfl) (by kernel_rfl) (by kernel_rfl) (fun _ _ _ h => h) (by rfl) hHeld ?_
      try simp only [Act.put, List.setIfInBounds_toArray, List.set_cons_zero, List.set_cons_succ]
      refine take_un (i := 8) (some 25) (by kernel_rfl) (by kernel_rfl) (by kernel_rfl) (by kernel_rfl) (fun _ _ _ h => h) (by rfl) hHeld ?_
      try simp only [Act.put, List.setIfInBounds_toArray, List.set_cons_zero, List.set_cons_succ]
      refine take_un (i := 9) (some 26) (by kernel_rfl) (by kernel_rfl) (by kernel_rfl) (by kernel_rfl) (fun _ _ _ h => h) (by rfl) hHeld ?_
      try simp only [Act.put, List.setIfInBounds_toArray, List.set_cons_zero, List.set_cons_succ]
      refine take_un (i := 10) (some 27) (by kernel_rfl) (by kernel_rfl) (by kernel_rfl) (by kernel_rfl) (fun _ _ _ h => h) (by rfl) hHeld ?_
      try simp only [Act.put, List.setIfInBounds_toArray, List.set_cons_zero, List.set_cons_succ]
      refine take_un (i := 11) (some 28) (by kernel_rfl) (by kernel_rfl) (by kernel_rfl) (by kernel_rfl) (fun _ _ _ h => h) (by rfl) hHeld ?_
      try simp only [Act.put, List.setIfInBounds_toArray, List.set_cons_zero, List.set_cons_succ]
      refine take_un (i := 12) (some 29) (by kernel_rfl) (by kernel_rfl) (by kernel_rfl) (by kernel_rfl) (fun _ _ _ h => h) (by rfl) hHeld ?_
      try simp only [Act.put, List.setIfInBounds_toArray, List.set_cons_zero, List.set_cons_succ]
      refine take_un (i := 13) (some 30) (by kernel_rfl) (by kernel_rfl) (by kernel_rfl) (by kernel_rfl) (fun _ _ _ h => h) (by rfl) hHeld ?_
      try simp only [Act.put, List.setIfInBounds_toArray, List.set_cons_zero, List.set_cons_succ]
      refine take_un (i := 14) (some 31) (by kernel_rfl) (by kernel_rfl) (by kernel_rfl) (by kernel_rfl) (fun _ _ _ h => h) (by rfl) hHeld ?_
      try simp only [Act.put, List.setIfInBounds_toArray, List.set_cons_zero, List.set_cons_succ]
      refine take_un (i := 15) (some 32) (by kernel_rfl) (by kernel_rfl) (by kernel_rfl) (by kernel_rfl) (fun _ _ _ h => h) (by rfl) hHeld ?_
      try simp only [Act.put, List.setIfInBounds_toArray, List.set_cons_zero, List.set_cons_succ]
      refine take_in (i := 16) _ (some 33) (by kernel_rfl) (by kernel_rfl) (by kernel_rfl) (by kernel_rfl) (fun _ _ _ h => h) (by rfl) (fun o ho w hSw => by cases ho; (try dsimp only at hSw); (try go_split_ands); go_simp; (try with_reducible rfl)) hHeld ?_
      try simp only [Act.put, List.setIfInBounds_toArray, List.set_cons_zero, List.set_cons_succ]
      refine wpAnyH_done (by kernel_rfl) ?_ _
      refine NoPanic.normal ?_
      clear dk dk' dk2
      have c6 : wD.cell? ⟨b, o + k * 7 + 6, none⟩ = some (.slice xA xn xc) := (HBD.out.cell (p := ⟨b, _, none⟩) hbw).trans HC6.out
      have hbb6 : b < wD.heap.size := by have := HBD.out.size; omega
      have HI1 : Hid (∃ j : Nat, j ≤ xn ∧ (Value.int .i64 (0 : Nat)) = .int .i64 j ∧ Hid (∀ i, i < j → ∀ y, xh[i]? = some y → badH y = false) ∧ Hid (Below wD.heap.size wD wD)) := ⟨0, Nat.zero_le _, rfl, Lib.hid (fun i h => absurd h (by omega)), Lib.hid (Below.refl _ _)⟩
      go_wp2
      go_loopw [40] (fun iv wr => ∃ j : Nat, j ≤ xn ∧ iv = .int .i64 j ∧ Hid (∀ i, i < j → ∀ y, xh[i]? = some y → badH y = false) ∧ Hid (Below wD.heap.size wD wr)) (fun iv _ => xn - (intOf iv).toNat)
      case atStart => exact HI1.out
      case round =>
        obtain ⟨j, hj, rfl, hno, hB3⟩ := hrel
        have HBX := Lib.hid (below3 HBV.out hB3.out)
        by_cases hlt2 : j < xn
        case neg =>
          obtain rfl : j = xn := by omega
          have HN := Lib.hid (HST.out (by rw [HO3.out, any_bad_no HHL.out hno.out, if_neg (by simp)]))
          clear HI1 c6
          go_wp2
          go_roundw
          case rel => exact ⟨k + 1, by omega, by go_num, HN, HBX⟩
          case measure => simp [intOf]; omega
        have c6r : wr.cell? ⟨b, o + k * 7 + 6, none⟩ = some (.slice xA xn xc) := (hB3.out.cell (p := ⟨b, _, none⟩) hbb6).trans c6
        have hbr : b < wr.heap.size := by have := hB3.out.size; omega
        obtain ⟨b4, o4, y, rfl, hb4, hyj, y0, y1, _⟩ := XH.get (HXH.out _ HBX.out) hlt2
        have hb4w : b4 < wr.heap.size := by have := HBX.out.size; omega
        have HY := Lib.hid hyj
        obtain ⟨ya, yi, yr, yw, yv, yl⟩ := y
        dsimp only at y0 y1
        clear hyj HI1 c6 y0
        by_cases hneg : yi < 0
        · have dn : decide (yi < 0) = true := decide_eq_true hneg
          have HE : Hid (routesErr es = 11) := HAT.out 11 (by rw [HO3.out, any_bad_yes HY.out (decide_eq_true hneg), if_pos rfl]) (by omega)
          clear hneg
          go_wp2
          go_ret
          exact ⟨ret_int HE.out.symm, HBX.out⟩
        · have dn : decide (yi < 0) = false := decide_eq_false hneg
          have HN : Hid (∀ i, i < j + 1 → ∀ y, xh[i]? = some y → badH y = false) := by
            intro i hi y hy
            rcases Nat.lt_or_ge i j with h | h
            · exact hno.out i h y hy
            · obtain rfl : i = j := by omega
              rw [HY.out] at hy
              obtain rfl := Option.some.inj hy
              exact decide_eq_false hneg
          clear hneg
          go_wp2
          go_roundw
          case rel => exact ⟨j + 1, by omega, by go_num, HN, hB3⟩
          case measure => simp [intOf]; omega
    · obtain ⟨b2, o2, y, hA2, _, hyk, ⟨hya, _, _⟩, p0, p1, _⟩ := HX2.out.get (j := k - 1) (by omega)
      simp only [Option.some.injEq, Addr.mk.injEq] at hA2
      obtain ⟨rfl, rfl, _⟩ := hA2
      have hry := rou_of hyk
      obtain ⟨ya, yl, yp, yd, ym, yt, yA, yn, yc, yh⟩ := y
      dsimp only at p0 p1 hya
      rw [hry] at HO2
      have dk : decide ((k : Int) > 0) = true := decide_eq_true (by omega)
      have dk' : decide (0 < k) = true := decide_eq_true (by omega)
      have dk2 : decide ((0 : Int) < (k : Int)) = true := decide_eq_true (by omega)
      have hk1 : k - 1 < tn := by omega
      have hws : IntKind.i64.wrap ((k : Int) - 1) = ((k - 1 : Nat) : Int) := by rw [IntWalk.i64_in _ (by omega)]; omega
      have HO2 : Hid (rouErr es k = if 0 < k ∧ 0 ≤ cmpP ya yl xa xl then 16 else if xh.any badH = true then 11 else 0) := HO2
      have HQ := Lib.hid (refCompare_any ya xa yl xl wD)
      obtain ⟨q, hq⟩ : ∃ q, cmpP ya yl xa xl = q := ⟨_, rfl⟩
      rw [hq] at HO2 HQ
      have hbb : b < wD.heap.size := by have := HBD.out.size; omega
      have y0 : wD.cell? ⟨b, o + (k - 1) * 7, none⟩ = some (.int .u32 ya) := (HBD.out.cell (p := ⟨b, _, none⟩) hbw).trans p0
      have y1 : wD.cell? ⟨b, o + (k - 1) * 7 + 1, none⟩ = some (.int .i64 yl) := (HBD.out.cell (p := ⟨b, _, none⟩) hbw).trans p1
      have HS1 : Hid ((wD.cell? ⟨b, o + (k - 1) * 7, none⟩ = some (.int .u32 ya) ∧ wD.cell? ⟨b, o + (k - 1) * 7 + 1, none⟩ = some (.int .i64 yl)) ∧ wD.cell? ⟨b, o + k * 7, none⟩ = some (.int .u32 xa) ∧ wD.cell? ⟨b, o + k * 7 + 1, none⟩ = some (.int .i64 xl)) := ⟨⟨y0, y1⟩, x0, x1⟩
      have HSW : Hid (∀ V, Below wD.heap.size wD V → (V.cell? ⟨b, o + (k - 1) * 7, none⟩ = some (.int .u32 ya) ∧ V.cell? ⟨b, o + (k - 1) * 7 + 1, none⟩ = some (.int .i64 yl)) ∧ V.cell? ⟨b, o + k * 7, none⟩ = some (.int .u32 xa) ∧ V.cell? ⟨b, o + k * 7 + 1, none⟩ = some (.int .i64 xl)) := fun V hV => ⟨⟨(hV.cell (p := ⟨b, _, none⟩) hbb).trans y0, (hV.cell (p := ⟨b, _, none⟩) hbb).trans y1⟩, (hV.cell (p := ⟨b, _, none⟩) hbb).trans x0, (hV.cell (p := ⟨b, _, none⟩) hbb).trans x1⟩
      have HK0 := Lib.hid hk0
      obtain ⟨qb, hqb⟩ : ∃ qb, decide (0 ≤ q) = qb := ⟨_, rfl⟩
      have hqb' : decide (q ≥ 0) = qb := hqb
      have HQB := Lib.hid hqb
      clear hq hry hyk p0 p1 y0 y1 x0 x1 hk0
      refine wp_region_noPanic ?_
      refine wp_region_held_drew (S := fun V => (V.cell? ⟨b, o + (k - 1) * 7, none⟩ = some (.int .u32 ya) ∧ V.cell? ⟨b, o + (k - 1) * 7 + 1, none⟩ = some (.int .i64 yl)) ∧ V.cell? ⟨b, o + k * 7, none⟩ = some (.int .u32 xa) ∧ V.cell? ⟨b, o + k * 7 + 1, none⟩ = some (.int .i64 xl)) (by kernel_rfl) (by rw [hwD]; exact HS1.out) (fun hHeld => ?_)
      rw [hwD] at hHeld ⊢
      clear hwD
      refine take_in (i := 0) _ (some 17) (by kernel_rfl) (by kernel_rfl) (by kernel_rfl) (by kernel_rfl) (fun _ _ _ h => h) (by rfl) (fun o ho w hSw => by cases ho; (try dsimp only at hSw); (try go_split_ands); go_simp; (try with_reducible rfl)) hHeld ?_
      try simp only [Act.put, List.setIfInBounds_toArray, List.set_cons_zero, List.set_cons_succ]
      refine take_in (i := 1) _ (some 18) (by kernel_rfl) (by kernel_rfl) (by kernel_rfl) (by kernel_rfl) (fun _ _ _ h => h) (by rfl) (fun o ho w hSw => by cases ho; (try dsimp only at hSw); (try go_split_ands); go_simp; (try with_reducible rfl)) hHeld ?_
      try simp only [Act.put, List.setIfInBounds_toArray, List.set_cons_zero, List.set_cons_succ]
      refine take_in (i := 2) _ (some 19) (by kernel_rfl) (by kernel_rfl) (by kernel_rfl) (by kernel_rfl) (fun _ _ _ h => h) (by rfl) (fun o ho w hSw => by cases ho; (try dsimp only at hSw); (try go_split_ands); go_simp; (try with_reducible rfl)) hHeld ?_
      try simp only [Act.put, List.setIfInBounds_toArray, List.set_cons_zero, List.set_cons_succ]
      refine take_in (i := 3) _ (some 20) (by kernel_rfl) (by kernel_rfl) (by kernel_rfl) (by kernel_rfl) (fun _ _ _ h => h) (by rfl) (fun o ho w hSw => by cases ho; (try dsimp only at hSw); (try go_split_ands); go_simp; (try with_reducible rfl)) hHeld ?_
      try simp only [Act.put, List.setIfInBounds_toArray, List.set_cons_zero, List.set_cons_succ]
      refine take_in (i := 4) _ (some 21) (by kernel_rfl) (by kernel_rfl) (by kernel_rfl) (by kernel_rfl) (fun _ _ _ h => h) (by rfl) (fun o ho w hSw => by cases ho; (try dsimp only at hSw); (try go_split_ands); go_simp; (try with_reducible rfl)) hHeld ?_
      try simp only [Act.put, List.setIfInBounds_toArray, List.set_cons_zero, List.set_cons_succ]
      refine take_in (i := 5) _ (some 22) (by kernel_rfl) (by kernel_rfl) (by kernel_rfl) (by kernel_rfl) (fun _ _ _ h => h) (by rfl) (fun o ho w hSw => by cases ho; (try dsimp only at hSw); (try go_split_ands); go_simp; (try with_reducible rfl)) hHeld ?_
      try simp only [Act.put, List.setIfInBounds_toArray, List.set_cons_zero, List.set_cons_succ]
      refine take_in (i := 6) _ (some 23) (by kernel_rfl) (by kernel_rfl) (by kernel_rfl) (by kernel_rfl) (fun _ _ _ h => h) (by rfl) (fun o ho w hSw => by cases ho; (try dsimp only at hSw); (try go_split_ands); go_simp; (try with_reducible rfl)) hHeld ?_
      try simp only [Act.put, List.setIfInBounds_toArray, List.set_cons_zero, List.set_cons_succ]
      refine take_in (i := 7) _ (some 24) (by kernel_rfl) (by kernel_rfl) (by kernel_rfl) (by kernel_rfl) (fun _ _ _ h => h) (by rfl) (fun o ho w hSw => by cases ho; (try dsimp only at hSw); (try go_split_ands); go_simp; (try with_reducible rfl)) hHeld ?_
      try simp only [Act.put, List.setIfInBounds_toArray, List.set_cons_zero, List.set_cons_succ]
      refine take_in (i := 8) _ (some 25) (by kernel_rfl) (by kernel_rfl) (by kernel_rfl) (by kernel_rfl) (fun _ _ _ h => h) (by rfl) (fun o ho w hSw => by cases ho; (try dsimp only at hSw); (try go_split_ands); go_simp; (try with_reducible rfl)) hHeld ?_
      try simp only [Act.put, List.setIfInBounds_toArray, List.set_cons_zero, List.set_cons_succ]
      refine take_in (i := 9) _ (some 26) (by kernel_rfl) (by kernel_rfl) (by kernel_rfl) (by kernel_rfl) (fun _ _ _ h => h) (by rfl) (fun o ho w hSw => by cases ho; (try dsimp only at hSw); (try go_split_ands); go_simp; (try with_reducible rfl)) hHeld ?_
      try simp only [Act.put, List.setIfInBounds_toArray, List.set_cons_zero, List.set_cons_succ]
      refine take_in (i := 10) _ (some 27) (by kernel_rfl) (by kernel_rfl) (by kernel_rfl) (by kernel_rfl) (fun _ _ _ h => h) (by rfl) (fun o ho w hSw => by cases ho; (try dsimp only at hSw); (try go_split_ands); go_simp; (try with_reducible rfl)) hHeld ?_
      try simp only [Act.put, List.setIfInBounds_toArray, List.set_cons_zero, List.set_cons_succ]
      refine take_in (i := 11) _ (some 28) (by kernel_rfl) (by kernel_rfl) (by kernel_rfl) (by kernel_rfl) (fun _ _ _ h => h) (by rfl) (fun o ho w hSw => by cases ho; (try dsimp only at hSw); (try go_split_ands); go_simp; (try with_reducible rfl)) hHeld ?_
      try simp only [Act.put, List.setIfInBounds_toArray, List.set_cons_zero, List.set_cons_succ]
      refine take_in (i := 12) _ (some 29) (by kernel_rfl) (by kernel_rfl) (by kernel_rfl) (by kernel_rfl) (fun _ _ _ h => h) (by rfl) (fun o ho w hSw => by cases ho; (try dsimp only at hSw); (try go_split_ands); go_simp; (try with_reducible rfl)) hHeld ?_
      try simp only [Act.put, List.setIfInBounds_toArray, List.set_cons_zero, List.set_cons_succ]
      refine take_in (i := 13) _ (some 30) (by kernel_rfl) (by kernel_rfl) (by kernel_rfl) (by kernel_rfl) (fun _ _ _ h => h) (by rfl) (fun o ho w hSw => by cases ho; (try dsimp only at hSw); (try go_split_ands); go_simp; (try with_reducible rfl)) hHeld ?_
      try simp only [Act.put, List.setIfInBounds_toArray, List.set_cons_zero, List.set_cons_succ]
      refine wpAnyH_ready (rs := [14]) (by kernel_rfl) (by simp) ?_
      refine AllReadyH.cons (o := _) rfl (fun K hK => ?_) AllReadyH.nil
      go_simp
      go_at_call 29
      with_reducible refine HQ.out.mono ?_
      rintro e wX ⟨rfl, hbX⟩
      have HBDX := Lib.hid (below3 HBD.out hbX)
      have HBVX := Lib.hid (below3 HBV.out hbX)
      have HS2 := Lib.hid (HSW.out _ hbX)
      clear hbX
      refine hK.out _ _ HS2.out (fun hHeld => ?_)
      clear hK K
      try simp only [Act.put, List.setIfInBounds_toArray, List.set_cons_zero, List.set_cons_succ]
      refine take_in (i := 15) _ (some 32) (by kernel_rfl) (by kernel_rfl) (by kernel_rfl) (by kernel_rfl) (fun _ _ _ h => h) (by rfl) (fun o ho w hSw => by cases ho; (try dsimp only at hSw); (try go_split_ands); go_simp; (try with_reducible rfl)) hHeld ?_
      try simp only [Act.put, List.setIfInBounds_toArray, List.set_cons_zero, List.set_cons_succ]
      refine take_in (i := 16) _ (some 33) (by kernel_rfl) (by kernel_rfl) (by kernel_rfl) (by kernel_rfl) (fun _ _ _ h => h) (by rfl) (fun o ho w hSw => by cases ho; (try dsimp only at hSw); (try go_split_ands); go_simp; (try with_reducible rfl)) hHeld ?_
      try simp only [Act.put, List.setIfInBounds_toArray, List.set_cons_zero, List.set_cons_succ]
      refine wpAnyH_done (by kernel_rfl) ?_ _
      refine NoPanic.normal ?_
      clear HS1 HSW HS2 HQ
      clear hqb hqb'
      cases qb
      case true =>
        have HE : Hid (routesErr es = 16) := HAT.out 16 (by rw [HO2.out, if_pos ⟨HK0.out, of_decide_eq_true HQB.out⟩]) (by omega)
        go_wp2
        go_ret
        exact ⟨ret_int HE.out.symm, HBVX.out⟩
      case false =>
        have HO3 : Hid (rouErr es k = if xh.any badH = true then 11 else 0) := by
          show _ = _
          rw [HO2.out, if_neg (fun h => of_decide_eq_false HQB.out h.2)]
        clear dk dk' dk2 hws HO2
        have c6 : wX.cell? ⟨b, o + k * 7 + 6, none⟩ = some (.slice xA xn xc) := (HBDX.out.cell (p := ⟨b, _, none⟩) hbw).trans HC6.out
        have hbb6 : b < wX.heap.size := by have := HBDX.out.size; omega
        have HI1 : Hid (∃ j : Nat, j ≤ xn ∧ (Value.int .i64 (0 : Nat)) = .int .i64 j ∧ Hid (∀ i, i < j → ∀ y, xh[i]? = some y → badH y = false) ∧ Hid (Below wX.heap.size wX wX)) := ⟨0, Nat.zero_le _, rfl, Lib.hid (fun i h => absurd h (by omega)), Lib.hid (Below.refl _ _)⟩
        go_wp2
        go_loopw [40] (fun iv wr => ∃ j : Nat, j ≤ xn ∧ iv = .int .i64 j ∧ Hid (∀ i, i < j → ∀ y, xh[i]? = some y → badH y = false) ∧ Hid (Below wX.heap.size wX wr)) (fun iv _ => xn - (intOf iv).toNat)
        case atStart => exact HI1.out
        case round =>
          obtain ⟨j, hj, rfl, hno, hB3⟩ := hrel
          have HBX := Lib.hid (below3 HBVX.out hB3.out)
          by_cases hlt2 : j < xn
          case neg =>
            obtain rfl : j = xn := by omega
            have HN := Lib.hid (HST.out (by rw [HO3.out, any_bad_no HHL.out hno.out, if_neg (by simp)]))
            clear HI1 c6
            go_wp2
            go_roundw
            case rel => exact ⟨k + 1, by omega, by go_num, HN, HBX⟩
            case measure => simp [intOf]; omega
          have c6r : wr.cell? ⟨b, o + k * 7 + 6, none⟩ = some (.slice xA xn xc) := (hB3.out.cell (p := ⟨b, _, none⟩) hbb6).trans c6
          have hbr : b < wr.heap.size := by have := hB3.out.size; omega
          obtain ⟨b4, o4, y, rfl, hb4, hyj, y0, y1, _⟩ := XH.get (HXH.out _ HBX.out) hlt2
          have hb4w : b4 < wr.heap.size := by have := HBX.out.size; omega
          have HY := Lib.hid hyj
          obtain ⟨ya, yi, yr, yw, yv, yl⟩ := y
          dsimp only at y0 y1
          clear hyj HI1 c6 y0
          by_cases hneg : yi < 0
          · have dn : decide (yi < 0) = true := decide_eq_true hneg
            have HE : Hid (routesErr es = 11) := HAT.out 11 (by rw [HO3.out, any_bad_yes HY.out (decide_eq_true hneg), if_pos rfl]) (by omega)
            clear hneg
            go_wp2
            go_ret
            exact ⟨ret_int HE.out.symm, HBX.out⟩
          · have dn : decide (yi < 0) = false := decide_eq_false hneg
            have HN : Hid (∀ i, i < j + 1 → ∀ y, xh[i]? = some y → badH y = false) := by
              intro i hi y hy
              rcases Nat.lt_or_ge i j with h | h
              · exact hno.out i h y hy
              · obtain rfl : i = j := by omega
                rw [HY.out] at hy
                obtain rfl := Option.some.inj hy
                exact decide_eq_false hneg
            clear hneg
            go_wp2
            go_roundw
            case rel => exact ⟨j + 1, by omega, by go_num, HN, hB3⟩
            case measure => simp [intOf]; omega
end Go.Proofs.YtplppbgkkfjknaaGreatDoor
