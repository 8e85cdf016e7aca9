/- The trie in memory: nodes by the bits that lead to them; Put. Put: the walk. Of; the list of entries that Above collects: add. -/
import Derived.Test.YtplppbgkkfjknaaGreatDoorG2
namespace Go.Proofs.YtplppbgkkfjknaaGreatDoor
open Go.RowKit

set_option linter.unusedVariables false
set_option linter.unusedSimpArgs false
/-- a node: its block, and what it holds -/
structure Nd where
  b : Nat
  has : Bool
  val : Int
abbrev TM := List Bool → Option Nd
def kidA (M : TM) (π : List Bool) (i : Bool) : Option Addr := (M (π ++ [i])).map fun d => ⟨d.b, 0, none⟩
/-- the cells of a node; the root lies in the trie's own block, ahead of the count -/
def ndCells (M : TM) (n : Int) (π : List Bool) (d : Nd) : List Value := [.pointer (kidA M π false), .pointer (kidA M π true), .bool d.has, .int .i64 d.val] ++ (if π = [] then [.int .i64 n] else [])
def ndType (π : List Bool) : TypeId := if π = [] then 157 else 155
structure TrieAt (w : World) (T lo : Nat) (M : TM) (n : Int) : Prop where
  root : ∃ d, M [] = some d ∧ d.b = T
  node : ∀ π d, M π = some d → lo ≤ d.b ∧ Blk w d.b (ndType π) (ndCells M n π d)
  inj : ∀ π σ d e, M π = some d → M σ = some e → d.b = e.b → π = σ
  clo : ∀ π i d, M (π ++ [i]) = some d → ∃ e, M π = some e
/-- the entries -/
def EM (M : TM) (π : List Bool) : Option Int := match M π with
  | some d => if d.has = true then some d.val else none
  | none => none
theorem TrieAt.below {w w' : World} {T lo : Nat} {M : TM} {n : Int} (h : TrieAt w T lo M n) (hb : Below w.heap.size w w') : TrieAt w' T lo M n :=
  ⟨h.root, fun π d hd => ⟨(h.node π d hd).1, (h.node π d hd).2.keep hb⟩, h.inj, h.clo⟩
theorem TrieAt.save {w w' : World} {T lo g : Nat} {M : TM} {n : Int} (h : TrieAt w T lo M n) (hs : Save g w w') (hg : ∀ π d, M π = some d → d.b ≠ g) : TrieAt w' T lo M n :=
  ⟨h.root, fun π d hd => ⟨(h.node π d hd).1, (h.node π d hd).2.save hs (hg π d hd)⟩, h.inj, h.clo⟩
theorem app_inj {π σ : List Bool} {i j : Bool} (h : π ++ [i] = σ ++ [j]) : π = σ ∧ i = j := by
  have := List.append_inj' h rfl
  exact ⟨this.1, by simpa using this.2⟩
theorem app_ne (π : List Bool) (i : Bool) : π ++ [i] ≠ π := by
  intro h
  have := congrArg List.length h
  simp at this
/-- a child more -/
def tmAdd (M : TM) (π : List Bool) (i : Bool) (b : Nat) : TM := fun σ => if σ = π ++ [i] then some ⟨b, false, 0⟩ else M σ
theorem tmAdd_at (M : TM) (π : List Bool) (i : Bool) (b : Nat) : tmAdd M π i b (π ++ [i]) = some ⟨b, false, 0⟩ := if_pos rfl
theorem tmAdd_ne {M : TM} {π σ : List Bool} {i : Bool} (b : Nat) (h : σ ≠ π ++ [i]) : tmAdd M π i b σ = M σ := if_neg h
theorem tmAdd_em {M : TM} {π : List Bool} {i : Bool} (b : Nat) (h : M (π ++ [i]) = none) (σ : List Bool) : EM (tmAdd M π i b) σ = EM M σ := by
  by_cases hs : σ = π ++ [i]
  · subst hs
    unfold EM
    rw [tmAdd_at, h]
    rfl
  · unfold EM
    rw [tmAdd_ne b hs]
def kidIx (i : Bool) : Nat := if i = true then 1 else 0
theorem ndType_app (π : List Bool) (i : Bool) : ndType (π ++ [i]) = 155 := by unfold ndType; rw [if_neg (by simp)]
theorem TrieAt.addKid {w : World} {T lo : Nat} {M : TM} {n : Int} (h : TrieAt w T lo M n) {π : List Bool} {i : Bool} {d : Nd} (hd : M π = some d) (hk : M (π ++ [i]) = none) (hlo : lo ≤ w.heap.size) :
    TrieAt ((w.setCell ⟨d.b, kidIx i, none⟩ (.pointer (some ⟨w.heap.size, 0, none⟩))).alloc (.cells #[.pointer none, .pointer none, .bool false, .int .i64 0] 155)) T lo (tmAdd M π i w.heap.size) n := by
  obtain ⟨dr, hr1, hr2⟩ := h.root
  have hlt : ∀ σ e, M σ = some e → e.b < w.heap.size := fun σ e he => (h.node σ e he).2.lt
  obtain ⟨W, hW⟩ : ∃ W, w.setCell ⟨d.b, kidIx i, none⟩ (.pointer (some ⟨w.heap.size, 0, none⟩)) = W := ⟨_, rfl⟩
  have hsz : W.heap.size = w.heap.size := by rw [← hW]; exact World.size_setCell _ _ _
  rw [hW]
  refine ⟨⟨dr, by rw [tmAdd_ne _ (by simp)]; exact hr1, hr2⟩, fun σ e he => ?_, fun σ τ e f he hf hb => ?_, fun σ j e he => ?_⟩
  · by_cases hs : σ = π ++ [i]
    · subst hs
      rw [tmAdd_at] at he
      obtain rfl := Option.some.inj he
      refine ⟨hlo, ?_⟩
      have hb := Blk.new W 155 #[.pointer none, .pointer none, .bool false, .int .i64 0]
      rw [hsz] at hb
      have k : ∀ j, kidA (tmAdd M π i w.heap.size) (π ++ [i]) j = none := by
        intro j
        unfold kidA
        rw [tmAdd_ne _ (app_ne _ _)]
        cases hq : M (π ++ [i] ++ [j]) with
        | none => rfl
        | some q =>
          obtain ⟨e, he⟩ := h.clo _ _ _ hq
          rw [hk] at he
          cases he
      have e1 : ndCells (tmAdd M π i w.heap.size) n (π ++ [i]) ⟨w.heap.size, false, 0⟩ = [.pointer none, .pointer none, .bool false, .int .i64 0] := by
        unfold ndCells
        rw [k, k, if_neg (by simp)]
        rfl
      rw [ndType_app, e1]
      exact hb
    · rw [tmAdd_ne _ hs] at he
      obtain ⟨h1, h2⟩ := h.node σ e he
      refine ⟨h1, ?_⟩
      by_cases hb : e.b = d.b
      · obtain rfl := h.inj σ π e d he hd hb
        obtain rfl : e = d := Option.some.inj (he.symm.trans hd)
        have h3 := (h2.set (kidIx i) (.pointer (some ⟨w.heap.size, 0, none⟩)))
        rw [hW] at h3
        have h4 := h3.keep (belowA W (.cells #[.pointer none, .pointer none, .bool false, .int .i64 0] 155))
        have e1 : ndCells (tmAdd M σ i w.heap.size) n σ e = (ndCells M n σ e).set (kidIx i) (.pointer (some ⟨w.heap.size, 0, none⟩)) := by
          have ka : kidA (tmAdd M σ i w.heap.size) σ i = some ⟨w.heap.size, 0, none⟩ := by unfold kidA; rw [tmAdd_at]; rfl
          have kb : ∀ j, j ≠ i → kidA (tmAdd M σ i w.heap.size) σ j = kidA M σ j := by
            intro j hj
            unfold kidA
            rw [tmAdd_ne _ (fun he => hj (app_inj he).2)]
          unfold ndCells
          cases i
          · rw [ka, kb true (by simp)]
            simp [kidIx]
          · rw [ka, kb false (by simp)]
            simp [kidIx]
        rw [e1]
        exact h4
      · have h3 := h2.other (g := d.b) (i := kidIx i) (v := .pointer (some ⟨w.heap.size, 0, none⟩)) hb
        rw [hW] at h3
        have h4 := h3.keep (belowA W (.cells #[.pointer none, .pointer none, .bool false, .int .i64 0] 155))
        have kb : ∀ j, kidA (tmAdd M π i w.heap.size) σ j = kidA M σ j := by
          intro j
          unfold kidA
          rw [tmAdd_ne]
          intro hx
          obtain rfl := (app_inj hx).1
          exact hb (by rw [Option.some.inj (he.symm.trans hd)])
        have e1 : ndCells (tmAdd M π i w.heap.size) n σ e = ndCells M n σ e := by unfold ndCells; rw [kb, kb]
        rw [e1]
        exact h4
  · by_cases hs : σ = π ++ [i] <;> by_cases ht : τ = π ++ [i]
    · rw [hs, ht]
    · subst hs
      rw [tmAdd_at] at he
      rw [tmAdd_ne _ ht] at hf
      obtain rfl := Option.some.inj he
      have := hlt _ _ hf
      dsimp only at hb
      omega
    · subst ht
      rw [tmAdd_at] at hf
      rw [tmAdd_ne _ hs] at he
      obtain rfl := Option.some.inj hf
      have := hlt _ _ he
      dsimp only at hb
      omega
    · rw [tmAdd_ne _ hs] at he
      rw [tmAdd_ne _ ht] at hf
      exact h.inj _ _ _ _ he hf hb
  · by_cases hs : σ ++ [j] = π ++ [i]
    · obtain rfl := (app_inj hs).1
      exact ⟨d, by rw [tmAdd_ne _ (fun hx => app_ne _ _ hx.symm)]; exact hd⟩
    · rw [tmAdd_ne _ hs] at he
      obtain ⟨f, hf⟩ := h.clo _ _ _ he
      refine ⟨f, ?_⟩
      rw [tmAdd_ne]
      · exact hf
      · intro hx
        rw [hx, hk] at hf
        cases hf
/-- a value set -/
def tmSet (M : TM) (π : List Bool) (b : Nat) (v : Int) : TM := fun σ => if σ = π then some ⟨b, true, v⟩ else M σ
theorem tmSet_at (M : TM) (π : List Bool) (b : Nat) (v : Int) : tmSet M π b v π = some ⟨b, true, v⟩ := if_pos rfl
theorem tmSet_ne {M : TM} {π σ : List Bool} (b : Nat) (v : Int) (h : σ ≠ π) : tmSet M π b v σ = M σ := if_neg h
theorem tmSet_em (M : TM) (π : List Bool) (b : Nat) (v : Int) (σ : List Bool) : EM (tmSet M π b v) σ = if σ = π then some v else EM M σ := by
  by_cases hs : σ = π
  · subst hs
    unfold EM
    rw [tmSet_at, if_pos rfl]
    rfl
  · unfold EM
    rw [tmSet_ne b v hs, if_neg hs]
theorem tmSet_kid {M : TM} {π : List Bool} {d : Nd} (hd : M π = some d) (v : Int) (σ : List Bool) (j : Bool) : kidA (tmSet M π d.b v) σ j = kidA M σ j := by
  unfold kidA
  by_cases hs : σ ++ [j] = π
  · rw [hs, tmSet_at, hd]
    rfl
  · rw [tmSet_ne _ _ hs]
theorem TrieAt.setVal {w : World} {T lo : Nat} {M : TM} {n : Int} (h : TrieAt w T lo M n) {π : List Bool} {d : Nd} (hd : M π = some d) (v : Int) :
    TrieAt ((w.setCell ⟨d.b, 2, none⟩ (.bool true)).setCell ⟨d.b, 3, none⟩ (.int .i64 v)) T lo (tmSet M π d.b v) n := by
  obtain ⟨dr, hr1, hr2⟩ := h.root
  have same : ∀ σ e, tmSet M π d.b v σ = some e → ∃ f, M σ = some f ∧ f.b = e.b := by
    intro σ e he
    by_cases hs : σ = π
    · subst hs
      rw [tmSet_at] at he
      obtain rfl := Option.some.inj he
      exact ⟨d, hd, rfl⟩
    · rw [tmSet_ne _ _ hs] at he
      exact ⟨e, he, rfl⟩
  refine ⟨?_, fun σ e he => ?_, fun σ τ e f he hf hb => ?_, fun σ j e he => ?_⟩
  · by_cases hs : ([] : List Bool) = π
    · refine ⟨⟨d.b, true, v⟩, by rw [← hs, tmSet_at], ?_⟩
      rw [← hs] at hd
      rw [Option.some.inj (hd.symm.trans hr1)]
      exact hr2
    · exact ⟨dr, by rw [tmSet_ne _ _ hs]; exact hr1, hr2⟩
  · by_cases hs : σ = π
    · subst hs
      rw [tmSet_at] at he
      obtain rfl := Option.some.inj he
      obtain ⟨h1, h2⟩ := h.node σ d hd
      refine ⟨h1, ?_⟩
      have e1 : ndCells (tmSet M σ d.b v) n σ ⟨d.b, true, v⟩ = ((ndCells M n σ d).set 2 (.bool true)).set 3 (.int .i64 v) := by
        unfold ndCells
        rw [tmSet_kid hd, tmSet_kid hd]
        simp
      rw [e1]
      exact (h2.set 2 _).set 3 _
    · rw [tmSet_ne _ _ hs] at he
      obtain ⟨h1, h2⟩ := h.node σ e he
      have hb : e.b ≠ d.b := fun hb => hs (h.inj _ _ _ _ he hd hb)
      refine ⟨h1, ?_⟩
      have e1 : ndCells (tmSet M π d.b v) n σ e = ndCells M n σ e := by unfold ndCells; rw [tmSet_kid hd, tmSet_kid hd]
      rw [e1]
      exact (h2.other hb).other hb
  · obtain ⟨e', h1, h2⟩ := same _ _ he
    obtain ⟨f', h3, h4⟩ := same _ _ hf
    exact h.inj _ _ _ _ h1 h3 (by rw [h2, h4]; exact hb)
  · obtain ⟨e', h1, h2⟩ := same _ _ he
    obtain ⟨f, hf⟩ := h.clo _ _ _ h1
    by_cases hs : σ = π
    · exact ⟨_, by rw [hs, tmSet_at]⟩
    · exact ⟨f, by rw [tmSet_ne _ _ hs]; exact hf⟩
/-- the count set -/
theorem TrieAt.setCount {w : World} {T lo : Nat} {M : TM} {n : Int} (h : TrieAt w T lo M n) (m : Int) : TrieAt (w.setCell ⟨T, 4, none⟩ (.int .i64 m)) T lo M m := by
  obtain ⟨dr, hr1, hr2⟩ := h.root
  refine ⟨⟨dr, hr1, hr2⟩, fun σ e he => ?_, h.inj, h.clo⟩
  obtain ⟨h1, h2⟩ := h.node σ e he
  refine ⟨h1, ?_⟩
  by_cases hs : σ = []
  · subst hs
    obtain rfl : e = dr := Option.some.inj (he.symm.trans hr1)
    have e1 : ndCells M m [] e = (ndCells M n [] e).set 4 (.int .i64 m) := by unfold ndCells; simp
    rw [e1, ← hr2]
    exact h2.set 4 _
  · have hb : e.b ≠ T := by rw [← hr2]; exact fun hb => hs (h.inj _ _ _ _ he hr1 hb)
    have e1 : ndCells M m σ e = ndCells M n σ e := by unfold ndCells; rw [if_neg hs, if_neg hs]
    rw [e1]
    exact h2.other hb
/-- what the walk reads of a node -/
theorem TrieAt.cells {w : World} {T lo : Nat} {M : TM} {n : Int} (h : TrieAt w T lo M n) {π : List Bool} {d : Nd} (hd : M π = some d) :
    lo ≤ d.b ∧ d.b < w.heap.size ∧ w.cell? ⟨d.b, 0, none⟩ = some (.pointer (kidA M π false)) ∧ w.cell? ⟨d.b, 1, none⟩ = some (.pointer (kidA M π true)) ∧ w.cell? ⟨d.b, 2, none⟩ = some (.bool d.has) ∧ w.cell? ⟨d.b, 3, none⟩ = some (.int .i64 d.val) ∧ ∀ i, w.frozen? ⟨d.b, i, none⟩ = false := by
  obtain ⟨h1, h2⟩ := h.node π d hd
  refine ⟨h1, h2.lt, ?_, ?_, ?_, ?_, fun i => h2.frozen i⟩
  all_goals
    rw [h2.cell]
    unfold ndCells
    rfl
theorem TrieAt.count {w : World} {T lo : Nat} {M : TM} {n : Int} (h : TrieAt w T lo M n) : w.cell? ⟨T, 4, none⟩ = some (.int .i64 n) ∧ w.frozen? ⟨T, 4, none⟩ = false ∧ T < w.heap.size ∧ lo ≤ T := by
  obtain ⟨dr, hr1, rfl⟩ := h.root
  obtain ⟨h1, h2⟩ := h.node _ _ hr1
  refine ⟨?_, h2.frozen 4, h2.lt, h1⟩
  rw [h2.cell]
  unfold ndCells
  rfl
/-- the empty trie -/
def tmNew (T : Nat) : TM := fun σ => if σ = [] then some ⟨T, false, 0⟩ else none
theorem trie_new (w : World) (lo : Nat) (hlo : lo ≤ w.heap.size) : TrieAt (w.alloc (.cells #[.pointer none, .pointer none, .bool false, .int .i64 0, .int .i64 0] 157)) w.heap.size lo (tmNew w.heap.size) 0 := by
  have hb := Blk.new w 157 #[.pointer none, .pointer none, .bool false, .int .i64 0, .int .i64 0]
  have nil : ∀ σ e, tmNew w.heap.size σ = some e → σ = [] ∧ e = ⟨w.heap.size, false, 0⟩ := by
    intro σ e he
    unfold tmNew at he
    by_cases hs : σ = []
    · rw [if_pos hs] at he
      exact ⟨hs, (Option.some.inj he).symm⟩
    · rw [if_neg hs] at he
      cases he
  refine ⟨⟨_, if_pos rfl, rfl⟩, fun σ e he => ?_, fun σ τ e f he hf _ => ?_, fun σ j e he => ?_⟩
  · obtain ⟨rfl, rfl⟩ := nil _ _ he
    refine ⟨hlo, ?_⟩
    have k : ∀ j, kidA (tmNew w.heap.size) [] j = none := by
      intro j
      unfold kidA tmNew
      rw [if_neg (by simp)]
      rfl
    have e1 : ndCells (tmNew w.heap.size) 0 [] ⟨w.heap.size, false, 0⟩ = [.pointer none, .pointer none, .bool false, .int .i64 0, .int .i64 0] := by
      unfold ndCells
      rw [k, k, if_pos rfl]
      rfl
    rw [e1]
    exact hb
  · rw [(nil _ _ he).1, (nil _ _ hf).1]
  · have := (nil _ _ he).1
    simp at this
theorem tmNew_em (T : Nat) (σ : List Bool) : EM (tmNew T) σ = none := by
  unfold EM tmNew
  by_cases hs : σ = []
  · rw [if_pos hs]
    rfl
  · rw [if_neg hs]
theorem new_any (w : World) (lo : Nat) (hlo : lo ≤ w.heap.size) : Calls Tryz.prog 65 #[] w fun e w' => e = .returned (.pointer (some ⟨w.heap.size, 0, none⟩)) ∧ TrieAt w' w.heap.size lo (tmNew w.heap.size) 0 ∧ Below w.heap.size w w' := by
  have H := Lib.hid (trie_new w lo hlo)
  go_enter Tryz.func65, Tryz.ntmps65
  go_wp2
  go_ret
  exact ⟨rfl, H.out, belowA _ _⟩
theorem bit_any (a i : Nat) (w : World) (ha : a < 4294967296) (hi : i < 32) : Calls Tryz.prog 98 #[.int .u32 a, .int .i64 i] w fun e w' => e = .returned (.int .i64 (if bitN a i = true then 1 else 0)) ∧ w = w' := by
  have HC := Lib.hid (at_any a i w ha hi)
  obtain ⟨bt, hbt⟩ : ∃ bt : Int, (if bitN a i = true then 1 else 0) = bt := ⟨_, rfl⟩
  rw [hbt] at HC ⊢
  clear hbt
  go_enter Tryz.func98, Tryz.ntmps98
  go_wp2_with fail
  refine HC.out.mono ?_
  rintro e w1 ⟨rfl, rfl⟩
  go_wp2
  go_ret
  exact ⟨rfl, rfl⟩
end Go.Proofs.YtplppbgkkfjknaaGreatDoor
namespace Go.Proofs.YtplppbgkkfjknaaGreatDoor
open Go.RowKit

set_option linter.unusedVariables false
set_option linter.unusedSimpArgs false
/-- the loop of Put: the box N of the prefix is no node's -/
def PutI (w : World) (T lo N : Nat) (M : TM) (n : Int) (a : Nat) (l : Nat) (xv kv : Value) (W : World) : Prop :=
  ∃ (k : Nat) (M' : TM) (d : Nd), k ≤ l ∧ kv = .int .i64 k ∧ xv = .pointer (some ⟨d.b, 0, none⟩) ∧ Hid (M' (bitL a k) = some d) ∧ Hid (TrieAt W T lo M' n) ∧ Hid (∀ σ, EM M' σ = EM M σ) ∧ Hid (∀ π e, M' π = some e → e.b ≠ N) ∧ Hid (Blk W N 65 [.int .u32 a, .int .i64 l]) ∧ Hid (Below lo w W)
def GivesPut (T lo : Nat) (M : TM) (a : Nat) (l v : Int) (w : World) (e : Ending) (w' : World) : Prop :=
  (validP a l = false ∧ e = .returned (.tuple #[.bool false, .int .i64 1]) ∧ Below w.heap.size w w') ∨
  (validP a l = true ∧ ∃ (M' : TM) (n' : Int) (ad : Bool), e = .returned (.tuple #[.bool ad, .int .i64 0]) ∧ TrieAt w' T lo M' n' ∧ (∀ σ, EM M' σ = if σ = bitL a l.toNat then some v else EM M σ) ∧ Below lo w w')
set_option maxRecDepth 100000 in
set_option maxHeartbeats 4000000 in
theorem putT_any (T lo : Nat) (M : TM) (n : Int) (a : Nat) (l v : Int) (w : World) (hT : TrieAt w T lo M n) (hlo : lo ≤ w.heap.size) (ha : a < 4294967296) :
    Calls Tryz.prog 66 #[.pointer (some ⟨T, 0, none⟩), .agg #[.int .u32 a, .int .i64 l], .int .i64 v] w (GivesPut T lo M a l v w) := by
  have HT := Lib.hid hT
  obtain ⟨w1, hw1⟩ : ∃ w1, w.alloc (.cells #[.int .u32 a, .int .i64 l] 65) = w1 := ⟨_, rfl⟩
  have hbA : Blk w1 w.heap.size 65 [.int .u32 a, .int .i64 l] := by rw [← hw1]; exact Blk.new w _ _
  have hb1 : Below w.heap.size w w1 := by rw [← hw1]; exact belowA _ _
  have HB1 := Lib.hid hb1
  have HKA := Lib.hid hbA
  have a0 := hbA.cell 0
  have a1 := hbA.cell 1
  simp only [List.getElem?_cons_zero, List.getElem?_cons_succ] at a0 a1
  have hlt1 : w.heap.size < w1.heap.size := hbA.lt
  have HV := Lib.hid (valid_any a l w1 ha)
  obtain ⟨vb, hvb⟩ : ∃ vb, validP a l = vb := ⟨_, rfl⟩
  have HVB := Lib.hid hvb
  rw [hvb] at HV
  clear hT hbA hb1 hvb
  go_enter Tryz.func66, Tryz.ntmps66
  go_wp2_with fail
  refine HV.out.mono ?_
  rintro e w2 ⟨rfl, hb⟩
  clear HV hw1 a0 a1 hlt1
  have HKA2 := Lib.hid (HKA.out.keep hb)
  have HB2 := Lib.hid (HB1.out.trans (hb.mono HB1.out.size))
  clear hb HKA HB1
  cases vb
  case false =>
    go_wp2
    go_ret2
    exact .inl ⟨HVB.out, rfl, HB2.out⟩
  have hvl : 0 ≤ l ∧ l ≤ 32 := by
    have h := HVB.out
    unfold validP at h
    simp only [Bool.and_eq_true, decide_eq_true_eq] at h
    exact ⟨h.1, h.2.1⟩
  obtain ⟨L, rfl⟩ : ∃ L : Nat, l = (L : Int) := ⟨l.toNat, by omega⟩
  have hL : L ≤ 32 := by omega
  have a0 := HKA2.out.cell 0
  have a1 := HKA2.out.cell 1
  simp only [List.getElem?_cons_zero, List.getElem?_cons_succ] at a0 a1
  have hlt2 : w.heap.size < w2.heap.size := HKA2.out.lt
  have hT2 : T < w2.heap.size := by have h1 := HT.out.count; have h2 := HB2.out.size; omega
  have hI0 : PutI w T lo w.heap.size M n a L (.pointer (some ⟨T, 0, none⟩)) (.int .i64 (0 : Nat)) w2 := by
    obtain ⟨dr, hr1, hr2⟩ := HT.out.root
    refine ⟨0, M, dr, Nat.zero_le _, rfl, by rw [hr2], hr1, HT.out.below HB2.out, fun _ => rfl, fun π e he => ?_, HKA2, HB2.out.mono hlo⟩
    have := (HT.out.cells he).2.1
    omega
  have HI0 := Lib.hid hI0
  clear hI0 hvl HKA2 HB2
  go_wp2
  go_loopw [8, 22] (fun xv kv wr => PutI w T lo w.heap.size M n a L xv kv wr) (fun _ kv _ => L - (intOf kv).toNat)
  case atStart => exact HI0.out
  case round =>
    obtain ⟨k, M', d, hk, rfl, rfl, hd, hT', hE, hN, hKN, hB⟩ := hrel
    clear HI0 a0 a1 hlt2 hT2
    obtain ⟨d1, d2, k0, k1, k2, k3, kf⟩ := hT'.out.cells hd.out
    have hltN : w.heap.size < wr.heap.size := hKN.out.lt
    by_cases hlt : k < L
    case neg =>
      obtain rfl : k = L := by omega
      obtain ⟨c4, f4, hTw, hTlo⟩ := hT'.out.count
      obtain ⟨we, hwe⟩ : ∃ we, (wr.setCell ⟨d.b, 2, none⟩ (.bool true)).setCell ⟨d.b, 3, none⟩ (.int .i64 v) = we := ⟨_, rfl⟩
      have hTe : TrieAt we T lo (tmSet M' (bitL a k) d.b v) n := by rw [← hwe]; exact hT'.out.setVal hd.out v
      obtain ⟨e4, g4, hTwe, _⟩ := hTe.count
      have hbe : Below lo w we := by
        rw [← hwe]
        exact hB.out.trans (((Save.set (g := d.b) (w := wr)).trans Save.set).below d1 (by have := hB.out.size; omega))
      have HE2 : Hid (∀ σ, EM (tmSet M' (bitL a k) d.b v) σ = if σ = bitL a ((k : Nat) : Int).toNat then some v else EM M σ) := fun σ => by rw [tmSet_em, hE.out, Int.toNat_natCast]
      have HTE := Lib.hid hTe
      have HBE := Lib.hid hbe
      have hdb : d.b < we.heap.size := by
        have := (hTe.cells (tmSet_at M' (bitL a k) d.b v)).2.1
        exact this
      clear hTe hbe hE hN hKN hB c4 f4
      cases hh : d.has
      case true =>
        rw [hh] at k2
        clear hh
        go_wp2
        go_ret2
        exact .inr ⟨HVB.out, _, _, false, rfl, HTE.out, HE2.out, HBE.out⟩
      case false =>
        rw [hh] at k2
        clear hh
        go_wp2
        go_ret2
        refine .inr ⟨HVB.out, _, _, true, rfl, HTE.out.setCount _, HE2.out, HBE.out.trans ((Save.set (g := T) (w := we)).below hTlo (by omega))⟩
    have a0 := hKN.out.cell 0
    simp only [List.getElem?_cons_zero, List.getElem?_cons_succ] at a0
    have HC := Lib.hid (bit_any a k wr ha (by omega))
    have hS : bitL a (k + 1) = bitL a k ++ [bitN a k] := rfl
    have HS := Lib.hid hS
    obtain ⟨i, hi⟩ : ∃ i, bitN a k = i := ⟨_, rfl⟩
    rw [hi] at HC HS
    clear hi hS
    cases hkid : M' (bitL a k ++ [i]) with
    | some e =>
      obtain ⟨e1, e2, _⟩ := hT'.out.cells hkid
      have kv0 : kidA M' (bitL a k) i = some ⟨e.b, 0, none⟩ := by unfold kidA; rw [hkid]; rfl
      have HE := Lib.hid hkid
      clear hkid
      cases i
      case false =>
        rw [kv0] at k0
        go_wp2_with fail
        refine HC.out.mono ?_
        rintro e w3 ⟨rfl, rfl⟩
        go_wp2
        go_roundw
        case rel => exact ⟨k + 1, M', e, by omega, by go_num, rfl, by show _ = _; rw [HS.out]; exact HE.out, hT', hE, hN, hKN, hB⟩
        case measure => simp [intOf]; omega
      case true =>
        rw [kv0] at k1
        go_wp2_with fail
        refine HC.out.mono ?_
        rintro e w3 ⟨rfl, rfl⟩
        go_wp2
        go_roundw
        case rel => exact ⟨k + 1, M', e, by omega, by go_num, rfl, by show _ = _; rw [HS.out]; exact HE.out, hT', hE, hN, hKN, hB⟩
        case measure => simp [intOf]; omega
    | none =>
      have kv0 : kidA M' (bitL a k) i = none := by unfold kidA; rw [hkid]; rfl
      have hlo2 : lo ≤ wr.heap.size := by omega
      obtain ⟨wn, hwn⟩ : ∃ wn, (wr.setCell ⟨d.b, kidIx i, none⟩ (.pointer (some ⟨wr.heap.size, 0, none⟩))).alloc (.cells #[.pointer none, .pointer none, .bool false, .int .i64 0] 155) = wn := ⟨_, rfl⟩
      have hTn : TrieAt wn T lo (tmAdd M' (bitL a k) i wr.heap.size) n := by rw [← hwn]; exact hT'.out.addKid hd.out hkid hlo2
      have hsv : Save d.b wr (wr.setCell ⟨d.b, kidIx i, none⟩ (.pointer (some ⟨wr.heap.size, 0, none⟩))) := Save.set
      have hal := belowA (wr.setCell ⟨d.b, kidIx i, none⟩ (.pointer (some ⟨wr.heap.size, 0, none⟩))) (.cells #[.pointer none, .pointer none, .bool false, .int .i64 0] 155)
      rw [hwn] at hal
      have hdn : d.b ≠ w.heap.size := hN.out _ _ hd.out
      have hKn : Blk wn w.heap.size 65 [.int .u32 a, .int .i64 L] := (hKN.out.save hsv (fun h => hdn h.symm)).keep hal
      have hbn : Below lo w wn := hB.out.trans ((hsv.below d1 hlo2).trans (hal.mono (by rw [World.size_setCell]; exact hlo2)))
      have hNn : ∀ π e, tmAdd M' (bitL a k) i wr.heap.size π = some e → e.b ≠ w.heap.size := by
        intro π e he
        by_cases hs : π = bitL a k ++ [i]
        · subst hs
          rw [tmAdd_at] at he
          obtain rfl := Option.some.inj he
          show wr.heap.size ≠ _
          omega
        · rw [tmAdd_ne _ hs] at he
          exact hN.out _ _ he
      have hEn : ∀ σ, EM (tmAdd M' (bitL a k) i wr.heap.size) σ = EM M σ := fun σ => by rw [tmAdd_em _ hkid, hE.out]
      have hdn2 : tmAdd M' (bitL a k) i wr.heap.size (bitL a k) = some d := by rw [tmAdd_ne _ (fun h => app_ne _ _ h.symm)]; exact hd.out
      have hnew : tmAdd M' (bitL a k) i wr.heap.size (bitL a (k + 1)) = some ⟨wr.heap.size, false, 0⟩ := by rw [HS.out, tmAdd_at]
      obtain ⟨_, n2, m0, m1, _, _, mf⟩ := hTn.cells hdn2
      have kn : kidA (tmAdd M' (bitL a k) i wr.heap.size) (bitL a k) i = some ⟨wr.heap.size, 0, none⟩ := by unfold kidA; rw [tmAdd_at]; rfl
      have HR : Hid (∃ M2, TrieAt wn T lo M2 n ∧ M2 (bitL a (k + 1)) = some ⟨wr.heap.size, false, 0⟩ ∧ (∀ σ, EM M2 σ = EM M σ) ∧ (∀ π e, M2 π = some e → e.b ≠ w.heap.size)) := ⟨_, hTn, hnew, hEn, hNn⟩
      have HKn := Lib.hid hKn
      have HBn := Lib.hid hbn
      clear hTn hnew hEn hNn hKn hbn hal hsv hdn2 hkid hE hN hT' hB hd hKN
      cases i
      case false =>
        rw [kv0] at k0
        rw [kn] at m0
        change (wr.setCell ⟨d.b, 0, none⟩ _).alloc _ = wn at hwn
        clear kv0 kn
        go_wp2_with fail
        refine HC.out.mono ?_
        rintro e w3 ⟨rfl, rfl⟩
        go_wp2
        go_roundw
        case rel =>
          obtain ⟨M2, q1, q2, q3, q4⟩ := HR.out
          exact ⟨k + 1, M2, _, by omega, by go_num, rfl, q2, q1, q3, q4, HKn, HBn⟩
        case measure => simp [intOf]; omega
      case true =>
        rw [kv0] at k1
        rw [kn] at m1
        change (wr.setCell ⟨d.b, 1, none⟩ _).alloc _ = wn at hwn
        clear kv0 kn
        go_wp2_with fail
        refine HC.out.mono ?_
        rintro e w3 ⟨rfl, rfl⟩
        go_wp2
        go_roundw
        case rel =>
          obtain ⟨M2, q1, q2, q3, q4⟩ := HR.out
          exact ⟨k + 1, M2, _, by omega, by go_num, rfl, q2, q1, q3, q4, HKn, HBn⟩
        case measure => simp [intOf]; omega
end Go.Proofs.YtplppbgkkfjknaaGreatDoor
namespace Go.Proofs.YtplppbgkkfjknaaGreatDoor
open Go.RowKit

set_option linter.unusedVariables false
set_option linter.unusedSimpArgs false
/-- a row of a table -/
structure Ent where
  a : Nat
  l : Int
  v : Int
def Ent.vals (e : Ent) : List Value := [.int .u32 e.a, .int .i64 e.l, .int .i64 e.v]
theorem Ent.vals_len (e : Ent) : e.vals.length = 3 := rfl
def Ents (w : World) (B : Nat) (A : Option Addr) (n c : Nat) (es : List Ent) : Prop := Recs w B 3 A n c Ent.vals es ∧ ∀ e ∈ es, e.a < 4294967296
theorem Ents.below {w w' : World} {B n c : Nat} {A : Option Addr} {es : List Ent} (h : Ents w B A n c es) (hb : Below B w w') : Ents w' B A n c es := ⟨h.1.below hb, h.2⟩
theorem Ents.more {w : World} {B B' n c : Nat} {A : Option Addr} {es : List Ent} (h : Ents w B A n c es) (hB : B ≤ B') : Ents w B' A n c es := ⟨h.1.more hB, h.2⟩
theorem Ents.len {w : World} {B n c : Nat} {A : Option Addr} {es : List Ent} (h : Ents w B A n c es) : es.length = n := h.1.2
theorem Ents.get {w : World} {B n c : Nat} {A : Option Addr} {es : List Ent} (h : Ents w B A n c es) {j : Nat} (hj : j < n) :
    ∃ b o e, A = some ⟨b, o, none⟩ ∧ b < B ∧ es[j]? = some e ∧ e.a < 4294967296 ∧ w.cell? ⟨b, o + j * 3, none⟩ = some (.int .u32 e.a) ∧ w.cell? ⟨b, o + j * 3 + 1, none⟩ = some (.int .i64 e.l) ∧ w.cell? ⟨b, o + j * 3 + 2, none⟩ = some (.int .i64 e.v) := by
  obtain ⟨b, o, e, hA, hb, he, hc⟩ := h.1.get Ent.vals_len hj
  exact ⟨b, o, e, hA, hb, he, h.2 e (List.mem_of_getElem? he), hc 0 (by omega), hc 1 (by omega), hc 2 (by omega)⟩
/-- the entries of a table as a trie has them -/
def putE (E : List Bool → Option Int) (e : Ent) : List Bool → Option Int := fun σ => if σ = bitL e.a e.l.toNat then some e.v else E σ
def ofE (es : List Ent) : List Bool → Option Int := es.foldl putE (fun _ => none)
theorem ofE_succ {es : List Ent} {k : Nat} {e : Ent} (h : es[k]? = some e) : ofE (es.take (k + 1)) = putE (ofE (es.take k)) e := by
  unfold ofE
  rw [List.take_add_one, h]
  simp
def validE (e : Ent) : Bool := validP e.a e.l
/-- what Of returns -/
def GivesTrie (es : List Ent) (w : World) (e : Ending) (w' : World) : Prop :=
  (es.all validE = false ∧ e = .returned (.tuple #[.pointer none, .int .i64 1]) ∧ Below w.heap.size w w') ∨
  (es.all validE = true ∧ ∃ (T : Nat) (M : TM) (n : Int), e = .returned (.tuple #[.pointer (some ⟨T, 0, none⟩), .int .i64 0]) ∧ TrieAt w' T w.heap.size M n ∧ (∀ σ, EM M σ = ofE es σ) ∧ Below w.heap.size w w')
def OfI (w : World) (T : Nat) (es : List Ent) (n : Nat) (iv : Value) (W : World) : Prop :=
  ∃ (k : Nat) (M : TM) (m : Int), k ≤ n ∧ iv = .int .i64 k ∧ Hid (TrieAt W T w.heap.size M m) ∧ Hid (∀ σ, EM M σ = ofE (es.take k) σ) ∧ Hid ((es.take k).all validE = true) ∧ Hid (Below w.heap.size w W)
set_option maxRecDepth 100000 in
set_option maxHeartbeats 2000000 in
theorem of_trie_any (A : Option Addr) (n c : Nat) (es : List Ent) (w : World) (hx : Ents w w.heap.size A n c es) (hn : n ≤ 140737488355328) :
    Calls Tryz.prog 33 #[.slice A n c] w (GivesTrie es w) := by
  have HX := Lib.hid hx
  have HL := Lib.hid hx.len
  have HC := Lib.hid (new_any w w.heap.size (Nat.le_refl _))
  clear hx
  go_enter Tryz.func33, Tryz.ntmps33
  go_wp2_with fail
  refine HC.out.mono ?_
  rintro e w1 ⟨rfl, hT, hb⟩
  have HI0 : Hid (OfI w w.heap.size es n (.int .i64 (0 : Nat)) w1) := ⟨0, _, _, Nat.zero_le _, rfl, hT, fun σ => by rw [tmNew_em]; rfl, rfl, hb⟩
  clear HC hT hb
  go_wp2
  go_loopw [12] (fun iv wr => OfI w w.heap.size es n iv wr) (fun iv _ => n - (intOf iv).toNat)
  case atStart => exact HI0.out
  case round =>
    obtain ⟨k, M, m, hk, rfl, hT, hE, hV, hB⟩ := hrel
    clear HI0
    by_cases hlt : k < n
    case neg =>
      obtain rfl : k = n := by omega
      have e : es.take k = es := List.take_of_length_le (Nat.le_of_eq HL.out)
      rw [e] at hE hV
      clear e
      go_wp2
      go_ret2
      exact .inr ⟨hV.out, _, _, _, rfl, hT.out, hE.out, hB.out⟩
    obtain ⟨b, o, e, rfl, hbB, he, hea, c0, c1, c2⟩ := (HX.out.below hB.out).get hlt
    obtain ⟨ea, el, ev⟩ := e
    dsimp only at hea c0 c1 c2
    have hbr : b < wr.heap.size := by have := hB.out.size; omega
    obtain ⟨wa, hwa⟩ : ∃ wa, wr.alloc (.cells #[.int .u32 ea, .int .i64 el, .int .i64 ev] 79) = wa := ⟨_, rfl⟩
    have hbE : Blk wa wr.heap.size 79 [.int .u32 ea, .int .i64 el, .int .i64 ev] := by rw [← hwa]; exact Blk.new wr _ _
    have hba : Below wr.heap.size wr wa := by rw [← hwa]; exact belowA _ _
    have e0 := hbE.cell 0
    have e1 := hbE.cell 1
    have e2 := hbE.cell 2
    simp only [List.getElem?_cons_zero, List.getElem?_cons_succ] at e0 e1 e2
    have lra : wr.heap.size < wa.heap.size := hbE.lt
    have HBA := Lib.hid (below3 hB.out hba)
    have HP := Lib.hid (putT_any w.heap.size w.heap.size M m ea el ev wa (hT.out.below hba) HBA.out.size hea)
    have HE1 : Hid (ofE (es.take (k + 1)) = putE (ofE (es.take k)) ⟨ea, el, ev⟩) := ofE_succ he
    have HV1 : Hid ((es.take (k + 1)).all validE = validP ea el) := by
      show _ = _
      rw [List.take_add_one, he, List.all_append, hV.out]
      simp [validE]
    have HV2 : Hid (validP ea el = false → es.all validE = false) := by
      intro h
      rw [List.all_eq_false]
      exact ⟨⟨ea, el, ev⟩, List.mem_of_getElem? he, by unfold validE; rw [h]; simp⟩
    clear hbE hba hea he hV
    go_upto_region 5 with fail
    try rw [hwa]
    clear hwa c0 c1 c2
    obtain ⟨nb, hnb⟩ : ∃ nb, wr.heap.size = nb := ⟨_, rfl⟩
    rw [hnb] at e0 e1 e2 lra ⊢
    clear hT hB hnb hbr
    go_wp2_with fail
    refine HP.out.mono ?_
    rintro e w3 (⟨q1, rfl, q2⟩ | ⟨q1, M2, m2, ad, rfl, q2, q3, q4⟩)
    · have HQ1 := Lib.hid (HV2.out q1)
      have HQ2 := Lib.hid (below3 HBA.out q2)
      clear HP q1 q2 e0 e1 e2
      go_wp2
      go_ret2
      exact .inl ⟨HQ1.out, rfl, HQ2.out⟩
    · have HQ1 : Hid ((es.take (k + 1)).all validE = true) := by show _ = _; rw [HV1.out]; exact q1
      have HQ2 := Lib.hid q2
      have HQ3 : Hid (∀ σ, EM M2 σ = ofE (es.take (k + 1)) σ) := by
        intro σ
        rw [q3, HE1.out]
        unfold putE
        rw [hE.out]
      have HQ4 := Lib.hid (HBA.out.trans q4)
      clear HP q1 q2 q3 q4 e0 e1 e2
      go_wp2
      go_roundw
      case rel => exact ⟨k + 1, M2, m2, by omega, by go_num, HQ2, HQ3, HQ1, HQ4⟩
      case measure => simp [intOf]; omega
end Go.Proofs.YtplppbgkkfjknaaGreatDoor
