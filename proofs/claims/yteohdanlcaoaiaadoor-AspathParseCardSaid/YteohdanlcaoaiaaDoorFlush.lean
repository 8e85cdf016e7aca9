/- The parser's state in memory; flush. -/
import Derived.Test.YteohdanlcaoaiaaDoorSetWalk
namespace Go.Proofs.YteohdanlcaoaiaaDoor
open Go.RowKit

def PS (w : World) (g : Nat) (st : PStt) : Prop := ∃ (pv rv : Value) (pm : Nat) (fs : List SV),
  w.heap[g]? = some (.cells #[pv, rv, .bool st.2.2] 60 (0, 0)) ∧ w.ownsRow (g + 1) 46 2 pv pm (fs.flatMap SV.vals) ∧ fs.length = pm ∧ fs.map SV.key = st.1 ∧
  (∀ t ∈ fs, Ints w w.heap.size .i64 t.A t.n t.c t.xs ∧ Free (g + 1) pv t.A t.n ∧ Free 0 rv t.A t.n) ∧ Own w (g + 1) 3 .i64 rv st.2.1.length st.2.1 ∧ (st.2.1 = [] → rv = .slice none 0 0)
theorem heap_lt {w : World} {g : Nat} {o : Obj} (h : w.heap[g]? = some o) : g < w.heap.size := by
  rcases Nat.lt_or_ge g w.heap.size with hl | hl
  · exact hl
  · rw [Array.getElem?_eq_none hl] at h
    cases h
theorem ints_set {w : World} {B n c g i : Nat} {k : IntKind} {A : Option Addr} {xs : List Int} (h : Ints w B k A n c xs) (hf : 0 < n → ∀ ad, A = some ad → ad.block ≠ g) (v : Value) : Ints (w.setCell ⟨g, i, none⟩ v) B k A n c xs := by
  refine ⟨h.1, h.2.1, h.2.2.1, fun hn => ?_⟩
  obtain ⟨b, o, e, hb, hc⟩ := h.2.2.2 hn
  refine ⟨b, o, e, hb, fun j hj => ?_⟩
  rw [World.cell?_setCell_other w _ _ _ (fun he => hf (by omega) _ e (by injection he with he; exact he.symm))]
  exact hc j hj
theorem sout_set {w : World} {g i base lo m : Nat} {pv v : Value} {ts : Path} (h : SOut w base lo pv m ts) (hb : g < base) (hl : g < lo) : SOut (w.setCell ⟨g, i, none⟩ v) base lo pv m ts := by
  obtain ⟨fs, h1, h2, h3, h4⟩ := h
  refine ⟨fs, ownsRow_setCell_below h1 hb _, h2, h3, fun t ht => ⟨?_, (h4 t ht).2⟩⟩
  rw [World.size_setCell]
  exact ints_set (h4 t ht).1 (fun hn ad ha => by have := ((h4 t ht).2 hn ad ha).1; omega) v
theorem own_set {w : World} {g i base n : Nat} {e : TypeId} {k : IntKind} {rv v : Value} {xs : List Int} (h : Own w base e k rv n xs) (hb : g < base) : Own (w.setCell ⟨g, i, none⟩ v) base e k rv n xs := ownsRow_setCell_below h hb _
/-- a state with an empty run -/
theorem PS.of {w : World} {g pm : Nat} {pv : Value} {op : Bool} {p : Path} (h : w.heap[g]? = some (.cells #[pv, .slice none 0 0, .bool op] 60 (0, 0))) (hs : SOut w (g + 1) (g + 1) pv pm p) : PS w g (p, [], op) := by
  obtain ⟨fs, h1, h2, h3, h4⟩ := hs
  exact ⟨pv, _, pm, fs, h, h1, h2, h3, fun t ht => ⟨(h4 t ht).1, (h4 t ht).2, fun _ _ _ => ⟨Nat.zero_le _, by simp [Value.ownBlock]⟩⟩, Own.nil _ _ _ _, fun _ => rfl⟩
theorem PS.new (w : World) : PS (w.alloc (.cells #[.slice none 0 0, .slice none 0 0, .bool false] 60)) w.heap.size ([], [], false) := by
  refine PS.of (pm := 0) ?_ (SOut.nil _ _ _)
  show (w.heap.push _)[w.heap.size]? = _
  simp
/-- the fields, as the walk wants them -/
theorem PS.parts {w : World} {g : Nat} {st : PStt} (h : PS w g st) : ∃ (A : Option Addr) (pm c : Nat) (A' : Option Addr) (c' : Nat),
    w.heap[g]? = some (.cells #[.slice A pm c, .slice A' st.2.1.length c', .bool st.2.2] 60 (0, 0)) ∧ SOut w (g + 1) (g + 1) (.slice A pm c) pm st.1 ∧ Own w (g + 1) 3 .i64 (.slice A' st.2.1.length c') st.2.1.length st.2.1 ∧
    w.cell? ⟨g, 0, none⟩ = some (.slice A pm c) ∧ w.cell? ⟨g, 1, none⟩ = some (.slice A' st.2.1.length c') ∧ w.cell? ⟨g, 2, none⟩ = some (.bool st.2.2) ∧ w.frozen? ⟨g, 0, none⟩ = false ∧ w.frozen? ⟨g, 1, none⟩ = false ∧ w.frozen? ⟨g, 2, none⟩ = false ∧ g < w.heap.size ∧ (st.2.1 = [] → Value.slice A' st.2.1.length c' = .slice none 0 0) := by
  obtain ⟨pv, rv, pm, fs, h1, h2, h3, h4, h5, h6, h7⟩ := h
  obtain ⟨A, c, rfl⟩ := own_form h2
  obtain ⟨A', c', rfl⟩ := own_form h6
  refine ⟨A, pm, c, A', c', h1, ⟨fs, h2, h3, h4, fun t ht => ⟨(h5 t ht).1, (h5 t ht).2.1⟩⟩, h6, ?_, ?_, ?_, frozen_of_row w g 0 _ _ h1, frozen_of_row w g 1 _ _ h1, frozen_of_row w g 2 _ _ h1, heap_lt h1, h7⟩
  · rw [cell_of_row w g 0 _ _ _ h1]; rfl
  · rw [cell_of_row w g 1 _ _ _ h1]; rfl
  · rw [cell_of_row w g 2 _ _ _ h1]; rfl
theorem PS.below {w w' : World} {g : Nat} {st : PStt} (h : PS w g st) (hb : Below w.heap.size w w') : PS w' g st := by
  obtain ⟨pv, rv, pm, fs, h1, h2, h3, h4, h5, h6, h7⟩ := h
  exact ⟨pv, rv, pm, fs, by rw [hb.block g (heap_lt h1)]; exact h1, row_below h2 hb, h3, h4, fun t ht => ⟨((h5 t ht).1.below hb).more hb.size, (h5 t ht).2⟩, row_below h6 hb, h7⟩
/-- the state within parentheses is set -/
theorem PS.setOpen {w : World} {g : Nat} {p : Path} {run : List Int} {op : Bool} (h : PS w g (p, run, op)) (op' : Bool) : PS (w.setCell ⟨g, 2, none⟩ (.bool op')) g (p, run, op') := by
  obtain ⟨pv, rv, pm, fs, h1, h2, h3, h4, h5, h6, h7⟩ := h
  refine ⟨pv, rv, pm, fs, ?_, ownsRow_setCell_below h2 (by simp) _, h3, h4, fun t ht => ⟨?_, (h5 t ht).2⟩, ownsRow_setCell_below h6 (by simp) _, h7⟩
  · rw [heap_setCell_same w g 2 _ _ _ h1]
    rfl
  · rw [World.size_setCell]
    exact ints_set (h5 t ht).1 (fun hn ad ha => by have := ((h5 t ht).2.1 hn ad ha).1; omega) _
/-- a segment is appended to the path; the run is empty -/
theorem PS.pushed {w w' : World} {g m : Nat} {pv pv' : Value} {op : Bool} {p : Path} (h : w.heap[g]? = some (.cells #[pv, .slice none 0 0, .bool op] 60 (0, 0))) (hs : SOut w' (g + 1) (g + 1) pv' m p) (hb : Below (g + 1) w w') : PS (w'.setCell ⟨g, 0, none⟩ pv') g (p, [], op) := by
  refine PS.of ?_ (sout_set hs (by omega) (by omega))
  rw [heap_setCell_same w' g 0 _ _ _ (by rw [hb.block g (by omega)]; exact h)]
  rfl
/-- a number is appended to the run -/
theorem PS.number {w : World} {g : Nat} {p : Path} {run : List Int} {op : Bool} (h : PS w g (p, run, op)) (n : Int) (hl : run.length ≤ 1000000000) {N : Nat} (hN : N = w.heap.size) {A : Option Addr} {c : Nat} (hc : w.cell? ⟨g, 1, none⟩ = some (.slice A run.length c)) :
    ∃ A' c' w', (Builtin.append_ #[30, 30] 30 #[.slice A run.length c, .slice (some ⟨N, 0, none⟩) 1 1]).run Tryd.prog (w.alloc (.cells #[.int .i64 n] 3)) = .ok (.slice A' (run.length + 1) c') w' ∧ PS (w'.setCell ⟨g, 1, none⟩ (.slice A' (run.length + 1) c')) g (p, run ++ [n], op) ∧ Below (g + 1) w w' := by
  subst hN
  obtain ⟨pv, rv, pm, fs, h1, h2, h3, h4, h5, h6, _⟩ := h
  have hrv : rv = .slice A run.length c := by
    have := cell_of_row w g 1 _ _ _ h1
    rw [hc] at this
    exact (Option.some.inj this).symm
  subst hrv
  dsimp only at h6
  have hgw := heap_lt h1
  obtain ⟨W, hW⟩ : ∃ W, w.alloc (.cells #[.int .i64 n] 3) = W := ⟨_, rfl⟩
  have hbel : Below w.heap.size w W := by rw [← hW]; exact belowA _ _
  have hlit : Ints W W.heap.size .i64 (some ⟨w.heap.size, 0, none⟩) 1 1 [n] := by
    rw [← hW]
    exact ints_lit w 3 .i64 1 [n] rfl (by simp [maxLen]) _ (by simp)
  have hr1 : Own W (g + 1) 3 .i64 (.slice A run.length c) run.length run := row_below h6 hbel
  have hWz := hbel.size
  obtain ⟨v', w', k1, k2, k3, k4⟩ := Ints.append (P := Tryd.prog) (t := 30) (ty := 30) (e := 3) Tryd.underlying30 int_info rfl hr1 hlit (by simp only [maxLen]; omega) (by omega) (by omega)
  obtain ⟨A', c', rfl⟩ := own_form k2
  have hlt := World.ownsRow.lt hr1
  have hbw : Below (g + 1) w w' := (hbel.mono (by omega)).grown k3 (by omega) (fun k hk => (hlt k hk).1)
  rw [hW]
  refine ⟨A', c', w', k1, ⟨pv, .slice A' (run.length + 1) c', pm, fs, ?_, ownsRow_setCell_below ?_ (by simp) _, h3, h4, fun t ht => ?_, ?_, fun h => absurd h (by simp)⟩, hbw⟩
  · rw [heap_setCell_same w' g 1 _ _ _ (by rw [hbw.block g (by omega)]; exact h1)]
    rfl
  · have h2' := row_below h2 hbel
    exact h2'.kept k3 (rows_apart h2' hr1 (by decide))
  · obtain ⟨i1, i2, i3⟩ := h5 t ht
    have i4 : Ints w' w'.heap.size .i64 t.A t.n t.c t.xs := (ints_grown ((i1.below hbel).more hWz) (Nat.le_refl _) k3 (fun hn ad ha => (i3 hn ad ha).2)).more k3.size
    refine ⟨?_, i2, fun hn ad ha => ⟨Nat.zero_le _, fun hk => ?_⟩⟩
    · rw [World.size_setCell]
      exact ints_set i4 (fun hn ad ha => by have := (i2 hn ad ha).1; omega) _
    · obtain ⟨b, o, e, hb, _⟩ := i1.2.2.2 (by omega)
      rw [e] at ha
      obtain rfl := Option.some.inj ha
      rcases k4 with h7 | h7
      · rw [h7] at hk
        exact (i3 hn _ e).2 hk
      · rw [h7] at hk
        have := Option.some.inj hk
        dsimp only at this
        omega
  · show Own _ _ _ _ _ (run ++ [n]).length (run ++ [n])
    rw [List.length_append]
    exact own_set k2 (by omega)
/-- blocks of numbers are kept -/
def KeepInt (w w' : World) : Prop := ∀ (b : Nat) (cs : Array Value) (fr : Nat × Nat), w.heap[b]? = some (.cells cs 3 fr) → w'.heap[b]? = w.heap[b]?
theorem keepInt_below {w w' : World} (h : Below w.heap.size w w') : KeepInt w w' := fun b _ _ hb => h.block b (heap_lt hb)
theorem KeepInt.trans {a b c : World} (h : KeepInt a b) (k : KeepInt b c) : KeepInt a c := fun n cs fr hn => (k n cs fr (by rw [h n cs fr hn]; exact hn)).trans (h n cs fr hn)
theorem keepInt_set {w : World} {g i : Nat} {v : Value} {cs : Array Value} {fr : Nat × Nat} (h : w.heap[g]? = some (.cells cs 60 fr)) : KeepInt w (w.setCell ⟨g, i, none⟩ v) := fun b cs' fr' hb => by
  refine heap_setCell_other w _ b v ?_
  intro e
  have e' : b = g := e
  subst e'
  rw [h] at hb
  simp only [Option.some.injEq, Obj.cells.injEq] at hb
  exact absurd hb.2.1 (by decide)
theorem keepInt_grown {w w' : World} {base n : Nat} {pv : Value} {vs : List Value} (h : w.ownsRow base 46 2 pv n vs) (hg : w.grownBy w' pv.ownBlock) : KeepInt w w' := fun b _ _ hb => by
  refine hg.block b (heap_lt hb) (fun e => ?_)
  rcases h.2 with ⟨rfl, _⟩ | ⟨g, cap, cur, rfl, _, hh, _⟩
  · cases e
  · obtain rfl := Option.some.inj e
    rw [hh] at hb
    simp only [Option.some.injEq, Obj.cells.injEq] at hb
    exact absurd hb.2.1 (by decide)
theorem own_keep {w w' : World} {base n : Nat} {k : IntKind} {v : Value} {xs : List Int} (h : Own w base 3 k v n xs) (hk : KeepInt w w') : Own w' base 3 k v n xs := by
  refine ⟨h.1, ?_⟩
  rcases h.2 with h2 | ⟨g, cap, cur, hv, hg, hh, r⟩
  · exact .inl h2
  · exact .inr ⟨g, cap, cur, hv, hg, (hk g cur _ hh).trans hh, r⟩
theorem SOut.appendK {w : World} {base lo l n c B : Nat} {v : Value} {ts us : Path} {A : Option Addr} (h : SOut w base lo v l ts) (hbase : base ≤ w.heap.size) (hl : l + n ≤ 2000000000000) (hf : FSegs w B lo v A n c us) :
    ∃ A' c' w', (Builtin.append_ #[22, 22] 22 #[v, .slice A n c]).run Tryd.prog w = .ok (.slice A' (l + n) c') w' ∧ SOut w' base lo (.slice A' (l + n) c') (l + n) (ts ++ us) ∧ Below base w w' ∧ KeepInt w w' := by
  obtain ⟨fs, h1, h2, h3⟩ := hf
  obtain ⟨A', c', w', k1, k2, k3, k4⟩ := h.append hbase hl fs h1 h2 h3
  obtain ⟨gs, g1, _⟩ := h
  exact ⟨A', c', w', k1, k2, (Below.refl base w).grown k3 hbase (fun k hk => (World.ownsRow.lt g1 k hk).1), keepInt_grown g1 k3⟩
set_option linter.unusedSimpArgs false in
set_option maxHeartbeats 4000000 in
theorem flush_any (g : Nat) (kind : Int) (st : PStt) (w : World) (h : PS w g st) (hs : st.1.length + st.2.1.length ≤ 1000000000) :
    Calls Tryd.prog 55 #[.pointer (some ⟨g, 0, none⟩), .int .i64 kind] w fun e w' => e = .returned (.tuple #[]) ∧ PS w' g (st.1 ++ seqs kind st.2.1, [], st.2.2) ∧ Below g w w' ∧ KeepInt w w' := by
  obtain ⟨p, run, op⟩ := st
  obtain ⟨A, pm, c, A', c', hh, hso, hro, c0, c1, c2, f0, f1, f2, hgw, _⟩ := h.parts
  dsimp only at hh hso hro c1 c2 hs ⊢
  have hpl := hso.len
  have HH := Lib.hid hh
  have HSO := Lib.hid hso
  have HRI := Lib.hid hro.ints
  have hdW : Below w.heap.size w w.drew := (Below.refl _ _).drew
  clear h hh hro
  go_enter Tryd.func55, Tryd.ntmps55
  go_upto_region 0 with fail
  go_cut [] (fun wx => ∃ (v : Value) (m : Nat), Hid (wx.heap[g]? = some (.cells #[v, .slice A' run.length c', .bool op] 60 (0, 0))) ∧ Hid (SOut wx (g + 1) (g + 1) v m (p ++ seqs kind run)) ∧ Hid (Below g w wx) ∧ Hid (KeepInt w wx))
  case first =>
    refine wp_region_noPanic ?_
    refine wp_region_held_drew (S := fun W => W.cell? ⟨g, 1, none⟩ = some (.slice A' run.length c')) (by kernel_rfl) c1 (fun hHeld => ?_)
    refine take_in (i := 0) _ (some 4) (by kernel_rfl) (by kernel_rfl) (by kernel_rfl) (by kernel_rfl) (fun _ _ _ h => h) (by rfl) (fun o ho w hSw => by cases ho; (try dsimp only at hSw); (try go_split_ands); go_simp; (try with_reducible rfl)) hHeld ?_
    try simp only [Act.put, List.setIfInBounds_toArray, List.set_cons_zero, List.set_cons_succ]
    refine take_in (i := 1) _ (some 5) (by kernel_rfl) (by kernel_rfl) (by kernel_rfl) (by kernel_rfl) (fun _ _ _ h => h) (by rfl) (fun o ho w hSw => by cases ho; (try dsimp only at hSw); (try go_split_ands); go_simp; (try with_reducible rfl)) hHeld ?_
    try simp only [Act.put, List.setIfInBounds_toArray, List.set_cons_zero, List.set_cons_succ]
    refine take_in (i := 2) _ (some 6) (by kernel_rfl) (by kernel_rfl) (by kernel_rfl) (by kernel_rfl) (fun _ _ _ h => h) (by rfl) (fun o ho w hSw => by cases ho; (try dsimp only at hSw); (try go_split_ands); go_simp; (try with_reducible rfl)) hHeld ?_
    try simp only [Act.put, List.setIfInBounds_toArray, List.set_cons_zero, List.set_cons_succ]
    refine take_in (i := 3) _ (some 7) (by kernel_rfl) (by kernel_rfl) (by kernel_rfl) (by kernel_rfl) (fun _ _ _ h => h) (by rfl) (fun o ho w hSw => by cases ho; (try dsimp only at hSw); (try go_split_ands); go_simp; (try with_reducible rfl)) hHeld ?_
    try simp only [Act.put, List.setIfInBounds_toArray, List.set_cons_zero, List.set_cons_succ]
    refine take_in (i := 5) _ (some 9) (by kernel_rfl) (by kernel_rfl) (by kernel_rfl) (by kernel_rfl) (fun _ _ _ h => h) (by rfl) (fun o ho w hSw => by cases ho; (try dsimp only at hSw); (try go_split_ands); go_simp; (try with_reducible rfl)) hHeld ?_
    try simp only [Act.put, List.setIfInBounds_toArray, List.set_cons_zero, List.set_cons_succ]
    refine take_in (i := 6) _ (some 10) (by kernel_rfl) (by kernel_rfl) (by kernel_rfl) (by kernel_rfl) (fun _ _ _ h => h) (by rfl) (fun o ho w hSw => by cases ho; (try dsimp only at hSw); (try go_split_ands); go_simp; (try with_reducible rfl)) hHeld ?_
    try simp only [Act.put, List.setIfInBounds_toArray, List.set_cons_zero, List.set_cons_succ]
    refine take_in (i := 7) _ (some 11) (by kernel_rfl) (by kernel_rfl) (by kernel_rfl) (by kernel_rfl) (fun _ _ _ h => h) (by rfl) (fun o ho w hSw => by cases ho; (try dsimp only at hSw); (try go_split_ands); go_simp; (try with_reducible rfl)) hHeld ?_
    try simp only [Act.put, List.setIfInBounds_toArray, List.set_cons_zero, List.set_cons_succ]
    refine take_in (i := 8) _ (some 12) (by kernel_rfl) (by kernel_rfl) (by kernel_rfl) (by kernel_rfl) (fun _ _ _ h => h) (by rfl) (fun o ho w hSw => by cases ho; (try dsimp only at hSw); (try go_split_ands); go_simp; (try with_reducible rfl)) hHeld ?_
    try simp only [Act.put, List.setIfInBounds_toArray, List.set_cons_zero, List.set_cons_succ]
    refine take_in (i := 9) _ (some 13) (by kernel_rfl) (by kernel_rfl) (by kernel_rfl) (by kernel_rfl) (fun _ _ _ h => h) (by rfl) (fun o ho w hSw => by cases ho; (try dsimp only at hSw); (try go_split_ands); go_simp; (try with_reducible rfl)) hHeld ?_
    try simp only [Act.put, List.setIfInBounds_toArray, List.set_cons_zero, List.set_cons_succ]
    refine wpAnyH_ready (rs := [4, 10]) (by kernel_rfl) (by simp) ?_
    refine AllReadyH.cons (o := _) rfl (fun K hK => ?_) (AllReadyH.cons (o := _) rfl (fun K hK => ?_) AllReadyH.nil)
    · go_simp
      refine hK.out _ _ hHeld (fun hHeld => ?_)
      clear hK K
      try simp only [Act.put, List.setIfInBounds_toArray, List.set_cons_zero, List.set_cons_succ]
      refine wpAnyH_ready (rs := [10]) (by kernel_rfl) (by simp) ?_
      refine AllReadyH.cons (o := _) rfl (fun K hK => ?_) AllReadyH.nil
      go_simp
      go_at_call 41
      with_reducible refine (sequences_any kind A' _ c' _ run _ (HRI.out.below hdW) (Nat.le_refl _) (by omega)).mono ?_
      rintro e w4 ⟨A4, m4, c4, rfl, ho4, hb4'⟩
      have hb4 : Below w.heap.size w w4 := hdW.trans hb4'
      refine hK.out _ _ ((hb4.cell (p := ⟨g, 1, none⟩) hgw).trans c1) (fun hHeld => ?_)
      clear hK K
      try simp only [Act.put, List.setIfInBounds_toArray, List.set_cons_zero, List.set_cons_succ]
      have hl4 := ho4.len
      have hm4 := seqs_len kind _ run (Nat.le_refl _)
      have hz4 := hb4.size
      obtain ⟨A6, c6, w6, hr6, ho6, hb6, hk6⟩ := (HSO.out.below hb4).appendK (by omega) (by omega) (fsegs_new (lo := g + 1) ho4 (fun z hz => (HSO.out.block z hz).2) hgw)
      refine wpAnyH_ready (rs := [11]) (by kernel_rfl) (by simp) ?_
      refine AllReadyH.cons (o := _) rfl (fun K hK => ?_) AllReadyH.nil
      refine step_append_at (some 15) (by rfl) (by rfl) _ _ _ (by rfl) (by rfl) (by rfl) hr6 ?_
      have hh6 : w6.heap[g]? = some (.cells #[.slice A pm c, .slice A' run.length c', .bool op] 60 (0, 0)) := by rw [hb6.block g (by omega), hb4.block g hgw]; exact HH.out
      have r0 : w6.cell? ⟨g, 0, none⟩ = some (.slice A pm c) := by rw [cell_of_row w6 g 0 _ _ _ hh6]; rfl
      have r1 : w6.cell? ⟨g, 1, none⟩ = some (.slice A' run.length c') := by rw [cell_of_row w6 g 1 _ _ _ hh6]; rfl
      have rf : w6.frozen? ⟨g, 0, none⟩ = false := frozen_of_row w6 g 0 _ _ hh6
      have rz : g < w6.heap.size := heap_lt hh6
      have HB6 : Hid (Below g w w6) := (hb4.mono (by omega)).trans (hb6.mono (by omega))
      have HH6 := Lib.hid hh6
      have HO6 := Lib.hid ho6
      have HK6 : Hid (KeepInt w w6) := (keepInt_below hb4).trans hk6
      refine hK.out _ _ r1 (fun hHeld => ?_)
      clear hK K hr6 ho6 hb6 hh6 hk6
      try simp only [Act.put, List.setIfInBounds_toArray, List.set_cons_zero, List.set_cons_succ]
      refine take_in (i := 12) _ (some 16) (by kernel_rfl) (by kernel_rfl) (by kernel_rfl) (by kernel_rfl) (fun _ _ _ h => h) (by rfl) (fun o ho w hSw => by cases ho; (try dsimp only at hSw); (try go_split_ands); go_simp; (try with_reducible rfl)) hHeld ?_
      try simp only [Act.put, List.setIfInBounds_toArray, List.set_cons_zero, List.set_cons_succ]
      refine take_in (i := 13) _ (some 17) (by kernel_rfl) (by kernel_rfl) (by kernel_rfl) (by kernel_rfl) (fun _ _ _ h => h) (by rfl) (fun o ho w hSw => by cases ho; (try dsimp only at hSw); (try go_split_ands); go_simp; (try with_reducible rfl)) hHeld ?_
      try simp only [Act.put, List.setIfInBounds_toArray, List.set_cons_zero, List.set_cons_succ]
      refine wpAnyH_ready (rs := [14]) (by kernel_rfl) (by simp) ?_
      refine AllReadyH.cons (o := _) rfl (fun K hK => ?_) AllReadyH.nil
      go_simp
      refine hK.out _ _ (by go_simp) (fun _ => ?_)
      clear hK K
      try simp only [Act.put, List.setIfInBounds_toArray, List.set_cons_zero, List.set_cons_succ]
      refine wpAnyH_done (by kernel_rfl) ?_ _
      refine NoPanic.normal ?_
      go_wp2_with fail
      go_meet
      refine ⟨.slice A6 (pm + m4) c6, pm + m4, ?_, sout_set HO6.out (by omega) (by omega), HB6.out.setCell (p := ⟨g, 0, none⟩) (Nat.le_refl _) _, HK6.out.trans (keepInt_set HH6.out)⟩
      show _ = _
      rw [heap_setCell_same w6 g 0 _ _ _ HH6.out]
      rfl
    · go_simp
      go_at_call 41
      with_reducible refine (sequences_any kind A' _ c' _ run _ (HRI.out.below hdW) (Nat.le_refl _) (by omega)).mono ?_
      rintro e w4 ⟨A4, m4, c4, rfl, ho4, hb4'⟩
      have hb4 : Below w.heap.size w w4 := hdW.trans hb4'
      refine hK.out _ _ ((hb4.cell (p := ⟨g, 1, none⟩) hgw).trans c1) (fun hHeld => ?_)
      clear hK K
      try simp only [Act.put, List.setIfInBounds_toArray, List.set_cons_zero, List.set_cons_succ]
      have q0 : w4.cell? ⟨g, 0, none⟩ = some (.slice A pm c) := (hb4.cell (p := ⟨g, 0, none⟩) hgw).trans c0
      refine wpAnyH_ready (rs := [4]) (by kernel_rfl) (by simp) ?_
      refine AllReadyH.cons (o := _) rfl (fun K hK => ?_) AllReadyH.nil
      go_simp
      refine hK.out _ _ hHeld (fun hHeld => ?_)
      clear hK K
      try simp only [Act.put, List.setIfInBounds_toArray, List.set_cons_zero, List.set_cons_succ]
      have hl4 := ho4.len
      have hm4 := seqs_len kind _ run (Nat.le_refl _)
      have hz4 := hb4.size
      obtain ⟨A6, c6, w6, hr6, ho6, hb6, hk6⟩ := (HSO.out.below hb4).appendK (by omega) (by omega) (fsegs_new (lo := g + 1) ho4 (fun z hz => (HSO.out.block z hz).2) hgw)
      refine wpAnyH_ready (rs := [11]) (by kernel_rfl) (by simp) ?_
      refine AllReadyH.cons (o := _) rfl (fun K hK => ?_) AllReadyH.nil
      refine step_append_at (some 15) (by rfl) (by rfl) _ _ _ (by rfl) (by rfl) (by rfl) hr6 ?_
      have hh6 : w6.heap[g]? = some (.cells #[.slice A pm c, .slice A' run.length c', .bool op] 60 (0, 0)) := by rw [hb6.block g (by omega), hb4.block g hgw]; exact HH.out
      have r0 : w6.cell? ⟨g, 0, none⟩ = some (.slice A pm c) := by rw [cell_of_row w6 g 0 _ _ _ hh6]; rfl
      have r1 : w6.cell? ⟨g, 1, none⟩ = some (.slice A' run.length c') := by rw [cell_of_row w6 g 1 _ _ _ hh6]; rfl
      have rf : w6.frozen? ⟨g, 0, none⟩ = false := frozen_of_row w6 g 0 _ _ hh6
      have rz : g < w6.heap.size := heap_lt hh6
      have HB6 : Hid (Below g w w6) := (hb4.mono (by omega)).trans (hb6.mono (by omega))
      have HH6 := Lib.hid hh6
      have HO6 := Lib.hid ho6
      have HK6 : Hid (KeepInt w w6) := (keepInt_below hb4).trans hk6
      refine hK.out _ _ r1 (fun hHeld => ?_)
      clear hK K hr6 ho6 hb6 hh6 hk6
      try simp only [Act.put, List.setIfInBounds_toArray, List.set_cons_zero, List.set_cons_succ]
      refine take_in (i := 12) _ (some 16) (by kernel_rfl) (by kernel_rfl) (by kernel_rfl) (by kernel_rfl) (fun _ _ _ h => h) (by rfl) (fun o ho w hSw => by cases ho; (try dsimp only at hSw); (try go_split_ands); go_simp; (try with_reducible rfl)) hHeld ?_
      try simp only [Act.put, List.setIfInBounds_toArray, List.set_cons_zero, List.set_cons_succ]
      refine take_in (i := 13) _ (some 17) (by kernel_rfl) (by kernel_rfl) (by kernel_rfl) (by kernel_rfl) (fun _ _ _ h => h) (by rfl) (fun o ho w hSw => by cases ho; (try dsimp only at hSw); (try go_split_ands); go_simp; (try with_reducible rfl)) hHeld ?_
      try simp only [Act.put, List.setIfInBounds_toArray, List.set_cons_zero, List.set_cons_succ]
      refine wpAnyH_ready (rs := [14]) (by kernel_rfl) (by simp) ?_
      refine AllReadyH.cons (o := _) rfl (fun K hK => ?_) AllReadyH.nil
      go_simp
      refine hK.out _ _ (by go_simp) (fun _ => ?_)
      clear hK K
      try simp only [Act.put, List.setIfInBounds_toArray, List.set_cons_zero, List.set_cons_succ]
      refine wpAnyH_done (by kernel_rfl) ?_ _
      refine NoPanic.normal ?_
      go_wp2_with fail
      go_meet
      refine ⟨.slice A6 (pm + m4) c6, pm + m4, ?_, sout_set HO6.out (by omega) (by omega), HB6.out.setCell (p := ⟨g, 0, none⟩) (Nat.le_refl _) _, HK6.out.trans (keepInt_set HH6.out)⟩
      show _ = _
      rw [heap_setCell_same w6 g 0 _ _ _ HH6.out]
      rfl
  obtain ⟨v, m, hh2, hso2, hb2, hki⟩ := hcut
  have e0 : g < wc.heap.size := heap_lt hh2.out
  have e1 : wc.cell? ⟨g, 1, none⟩ = some (.slice A' run.length c') := by rw [cell_of_row wc g 1 _ _ _ hh2.out]; rfl
  have e2 : wc.frozen? ⟨g, 1, none⟩ = false := frozen_of_row wc g 1 _ _ hh2.out
  clear c0 c1 c2 f0 f1 f2 hso hdW HRI HSO HH
  go_wp2
  go_end0
  refine ⟨rfl, PS.of (pm := m) ?_ (sout_set hso2.out (by omega) (by omega)), hb2.out.setCell (p := ⟨g, 1, none⟩) (Nat.le_refl _) _, hki.out.trans (keepInt_set hh2.out)⟩
  rw [heap_setCell_same wc g 1 _ _ _ hh2.out]
  rfl
end Go.Proofs.YteohdanlcaoaiaaDoor
