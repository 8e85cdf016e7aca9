/- number: the number of a group, by its text, in a map of the call's own (plain part). number: the walk. Build, plain: the groups and rows; the widths of a group's numbers; the builder kept. -/
import Derived.Test.YtplppbgkkfjknaaGreatDoorG19
import Derived.Test.YtplppbgkkfjknaaGreatDoorG18
import Derived.Maps.OwnSet
namespace Go.Proofs.YtplppbgkkfjknaaGreatDoor
open Go.RowKit
open Go.Maps

set_option linter.unusedVariables false
set_option linter.unusedSimpArgs false
def litT (t : List UInt8) : Lit := .string t
theorem litT_key (t : List UInt8) : WideAt.IsKeyLit (litT t) := trivial
/-- what the map of numbers holds (texts in the other order) -/
def dmapR : List (List UInt8) → DataW Unit
  | [] => .map []
  | t :: r => (dmapR r).put (litT t) (.lit (.int .i64 r.length))
def dmap (ts : List (List UInt8)) : DataW Unit := dmapR ts.reverse
theorem dmap_snoc (ts : List (List UInt8)) (t : List UInt8) : dmap (ts ++ [t]) = (dmap ts).put (litT t) (.lit (.int .i64 ts.length)) := by
  unfold dmap
  rw [List.reverse_append]
  show (dmapR ts.reverse).put _ (.lit (.int .i64 (ts.reverse.length : Int))) = _
  rw [List.length_reverse]
theorem dmapR_is : ∀ r, IsMap (dmapR r)
  | [] => isMap_empty
  | t :: r => (dmapR_is r).put _ _
theorem dmap_is (ts : List (List UInt8)) : IsMap (dmap ts) := dmapR_is _
theorem litT_ne {a b : List UInt8} (h : a ≠ b) : litT a ≠ litT b := fun e => h (by injection e)
theorem dmapR_has (t : List UInt8) : ∀ r, has (dmapR r) (litT t) = decide (t ∈ r)
  | [] => by simp [dmapR, has_eq]
  | x :: r => by
    rw [dmapR]
    by_cases h : t = x
    · subst h
      rw [has_put_same (dmapR_is r) (litT_key t)]
      simp
    · rw [has_put_other (litT_ne h), dmapR_has t r]
      simp [h]
theorem dmap_has (t : List UInt8) (ts : List (List UInt8)) : has (dmap ts) (litT t) = decide (t ∈ ts) := by
  unfold dmap
  rw [dmapR_has]
  simp
def sameT (t x : List UInt8) : Bool := decide (x = t)
theorem idxQ_app {α : Type} {P : α → Bool} : ∀ {l : List α} {x : α}, 0 ≤ idxQ P l → idxQ P (l ++ [x]) = idxQ P l
  | [], x, h => by simp [idxQ] at h
  | y :: t, x, h => by
    rw [List.cons_append, idxQ, idxQ]
    rw [idxQ] at h
    by_cases hp : P y = true
    · rw [if_pos hp, if_pos hp]
    · rw [if_neg hp] at h
      rw [if_neg hp, if_neg hp]
      by_cases h2 : idxQ P t < 0
      · rw [if_pos h2] at h
        omega
      · rw [if_neg h2] at h
        have h3 : 0 ≤ idxQ P t := by omega
        rw [idxQ_app h3]
theorem idxQ_new {α : Type} {P : α → Bool} : ∀ {l : List α} {x : α}, (∀ y ∈ l, P y = false) → P x = true → idxQ P (l ++ [x]) = l.length
  | [], x, _, hx => by simp [idxQ, hx]
  | y :: t, x, h, hx => by
    have ih := idxQ_new (l := t) (fun z hz => h z (List.mem_cons_of_mem _ hz)) hx
    rw [List.cons_append, idxQ, h y List.mem_cons_self, if_neg (by simp), ih, if_neg (by omega), List.length_cons]
    omega
theorem idxQ_neg {α : Type} {P : α → Bool} : ∀ {l : List α}, idxQ P l < 0 → ∀ y ∈ l, P y = false
  | [], _, y, hy => by cases hy
  | x :: t, h, y, hy => by
    rw [idxQ] at h
    by_cases hp : P x = true
    · rw [if_pos hp] at h
      omega
    · rw [if_neg hp] at h
      have h2 : idxQ P t < 0 := by
        by_cases h2 : idxQ P t < 0
        · exact h2
        · rw [if_neg h2] at h
          omega
      rcases List.mem_cons.1 hy with rfl | hy
      · simpa using hp
      · exact idxQ_neg h2 y hy
theorem idxQ_pos {α : Type} {P : α → Bool} : ∀ {l : List α}, 0 ≤ idxQ P l → ∃ y, l[(idxQ P l).toNat]? = some y ∧ P y = true
  | [], h => by simp [idxQ] at h
  | x :: t, h => by
    rw [idxQ] at h ⊢
    by_cases hp : P x = true
    · rw [if_pos hp]
      exact ⟨x, rfl, hp⟩
    · rw [if_neg hp] at h ⊢
      by_cases h2 : idxQ P t < 0
      · rw [if_pos h2] at h
        omega
      · rw [if_neg h2] at h ⊢
        have h5 : 0 ≤ idxQ P t := by omega
        obtain ⟨y, h3, h4⟩ := idxQ_pos h5
        refine ⟨y, ?_, h4⟩
        rw [show (idxQ P t + 1).toNat = (idxQ P t).toNat + 1 by omega]
        exact h3
theorem dmap_at_aux (t : List UInt8) (z : DataW Unit) : ∀ (n : Nat) (ts : List (List UInt8)), ts.length = n → ts.Nodup → t ∈ ts → (dmap ts).atKey (litT t) z = .lit (.int .i64 (idxQ (sameT t) ts))
  | 0, ts, hl, _, h => by rw [List.length_eq_zero_iff.1 hl] at h; cases h
  | n + 1, ts, hl, hd, h => by
    obtain ⟨r, x, rfl⟩ : ∃ r x, ts = r ++ [x] := ⟨ts.dropLast, ts.getLast (by intro e; rw [e] at hl; cases hl), (List.dropLast_concat_getLast _).symm⟩
    rw [dmap_snoc]
    have hdr : r.Nodup := (List.nodup_append.1 hd).1
    have hxr : x ∉ r := fun hx => (List.nodup_append.1 hd).2.2 x hx x (by simp) rfl
    by_cases e : t = x
    · subst e
      rw [atKey_put_same (dmap_is _) (litT_key t), idxQ_new (fun y hy => by
        unfold sameT
        exact decide_eq_false fun e => hxr (e ▸ hy)) (by simp [sameT])]
    · have ht : t ∈ r := by
        rcases List.mem_append.1 h with h | h
        · exact h
        · exact absurd (by simpa using h) e
      have hp : 0 ≤ idxQ (sameT t) r := by
        by_cases h2 : idxQ (sameT t) r < 0
        · have := idxQ_neg h2 t ht
          simp [sameT] at this
        · omega
      rw [atKey_put_other (litT_ne e), dmap_at_aux t z n r (by rw [List.length_append] at hl; simpa using hl) hdr ht, idxQ_app hp]
theorem dmap_at {t : List UInt8} {ts : List (List UInt8)} (z : DataW Unit) (hd : ts.Nodup) (h : t ∈ ts) : (dmap ts).atKey (litT t) z = .lit (.int .i64 (idxQ (sameT t) ts)) := dmap_at_aux t z _ ts rfl hd h
/-- the text of a group -/
def keyG (g : GE) : List UInt8 := textT g.act g.ps
/-- a group is stored once -/
def numG (gs : List GE) (g : GE) : List GE × Nat := if idxQ (sameT (keyG g)) (gs.map keyG) < 0 then (gs ++ [g], gs.length) else (gs, (idxQ (sameT (keyG g)) (gs.map keyG)).toNat)
theorem mem_of_idx {t : List UInt8} {ts : List (List UInt8)} : t ∈ ts ↔ 0 ≤ idxQ (sameT t) ts := by
  constructor
  · intro h
    by_cases h2 : idxQ (sameT t) ts < 0
    · have := idxQ_neg h2 t h
      simp [sameT] at this
    · omega
  · intro h
    obtain ⟨y, h3, h4⟩ := idxQ_pos h
    unfold sameT at h4
    have h5 := of_decide_eq_true h4
    subst h5
    exact List.mem_of_getElem? h3
/-- a row of groups of the call's own -/
structure GRow (w : World) (base : Nat) (v : Value) (n : Nat) (gs : List GE) : Prop where
  row : w.ownsRow base 47 2 v n (gs.flatMap GE.vals)
  len : gs.length = n
  data : ∀ g ∈ gs, Paths w w.heap.size g.A g.n g.c g.ps ∧ In (fun k => v.ownBlock ≠ some k ∧ base ≤ k) g.A g.n g.ps
theorem GRow.nil (w : World) (base : Nat) : GRow w base (.slice none 0 0) 0 [] := ⟨World.ownsRow_nil _ _ _ _, rfl, fun p hp => by cases hp⟩
theorem GRow.kp {w w' : World} {P : Nat → Prop} {base n : Nat} {v : Value} {gs : List GE} (h : GRow w base v n gs) (hk : Keep P w w') (hv : ∀ k, v.ownBlock = some k → P k) (hd : ∀ g ∈ gs, In P g.A g.n g.ps) : GRow w' base v n gs :=
  ⟨row_kp h.row hk hv, h.len, fun g hg => ⟨(paths_kp (h.data g hg).1 hk (Nat.le_refl _) (hd g hg)).more hk.size, (h.data g hg).2⟩⟩
theorem GRow.below {w w' : World} {base n : Nat} {v : Value} {gs : List GE} (h : GRow w base v n gs) (hb : Below w.heap.size w w') : GRow w' base v n gs :=
  h.kp (P := fun _ => True) (Keep.of hb) (fun _ _ => trivial) (fun _ _ => ⟨fun _ _ _ => trivial, fun _ _ _ _ _ => trivial⟩)
theorem GRow.grps {w : World} {base n c : Nat} {A : Option Addr} {gs : List GE} (h : GRow w base (.slice A n c) n gs) : Grps w w.heap.size A n c gs := ⟨⟨Cells.of_own h.row, h.len⟩, fun g hg => (h.data g hg).1⟩
theorem group_info : (Tryz.prog.info? 47).map (fun i => (i.zero, i.size, i.bytes)) = some (some (.agg #[.int .i64 0, .slice none 0 0]), 2, 32) := by kernel_rfl
theorem ge_one (g : GE) : ∀ u ∈ g.vals, u.oneCell' = true := by
  intro u hu
  unfold GE.vals at hu
  simp only [List.mem_cons, List.not_mem_nil, or_false] at hu
  rcases hu with rfl | rfl <;> rfl
/-- append of one group -/
theorem grp_push {w : World} {base n N : Nat} {v : Value} {gs : List GE} (h : GRow w base v n gs) (g : GE) (hp : Paths w w.heap.size g.A g.n g.c g.ps) (hi : In (fun k => v.ownBlock ≠ some k ∧ base ≤ k) g.A g.n g.ps) (hN : N = w.heap.size) (hbase : base ≤ w.heap.size) (hn : n ≤ 1000000) :
    ∃ A' c' w', (Builtin.append_ #[33, 33] 33 #[v, .slice (some ⟨N, 0, none⟩) 1 1]).run Tryz.prog (w.alloc (.cells #[.int .i64 g.act, .slice g.A g.n g.c] 47)) = .ok (.slice A' (n + 1) c') w' ∧
      GRow w' base (.slice A' (n + 1) c') (n + 1) (gs ++ [g]) ∧ Below base w w' ∧ Keep (fun k => v.ownBlock ≠ some k) w w' ∧ ∀ k, (Value.slice A' (n + 1) c').ownBlock = some k → v.ownBlock = some k ∨ w.heap.size ≤ k := by
  obtain ⟨A', c', w', h1, h2, h3, h4, h5⟩ := row_push (S := 33) Tryz.underlying33 group_info rfl (by omega) (by omega) h.row g.vals g.vals_len (ge_one g) hN hbase hn
  have key : ∀ q : GE, Paths w w.heap.size q.A q.n q.c q.ps → In (fun k => v.ownBlock ≠ some k ∧ base ≤ k) q.A q.n q.ps → Paths w' w'.heap.size q.A q.n q.c q.ps ∧ In (fun k => (Value.slice A' (n + 1) c').ownBlock ≠ some k ∧ base ≤ k) q.A q.n q.ps := by
    intro q k1 k2
    refine ⟨(paths_kp k1 h4 (Nat.le_refl _) (k2.mono fun _ e => e.1)).more h4.size, ?_⟩
    refine (k2.and (paths_in k1)).mono fun k hk => ⟨fun e => ?_, hk.1.2⟩
    rcases h5 k e with e2 | e2
    · exact hk.1.1 e2
    · have := hk.2
      omega
  refine ⟨A', c', w', h1, ⟨by rw [List.flatMap_append]; simpa using h2, by rw [List.length_append, h.len]; rfl, fun q hq => ?_⟩, h3, h4, h5⟩
  rcases List.mem_append.1 hq with hq | hq
  · exact key q (h.data q hq).1 (h.data q hq).2
  · obtain rfl : q = g := by simpa using hq
    exact key q hp hi
end Go.Proofs.YtplppbgkkfjknaaGreatDoor
namespace Go.Proofs.YtplppbgkkfjknaaGreatDoor
open Go.RowKit
open Go.Maps

set_option linter.unusedVariables false
set_option linter.unusedSimpArgs false
theorem zero_int (w : World) : (zeroValue 3).run Tryz.prog w = .ok (.int .i64 0) w := by kernel_rfl
theorem law_str : Keyed Tryz.prog 9 := string_keyed Tryz.underlying9
/-- the builder, in block bb, its map in block mb -/
structure Bld (w : World) (bb mb base : Nat) (kv ov gv : Value) (n : Nat) (gs : List GE) : Prop where
  box : Blk w bb 115 [kv, ov, .map (some mb), gv]
  map : w.ownsMap Tryz.prog 9 (plainElem Tryz.prog 3) mb n (dmap (gs.map keyG))
  row : GRow w base gv n gs
  nodup : (gs.map keyG).Nodup
  lo : bb < base ∧ mb < base ∧ bb ≠ mb
def GivesNum (w : World) (bb mb base : Nat) (kv ov : Value) (gv : Value) (gs : List GE) (g : GE) (e : Ending) (w' : World) : Prop :=
  ∃ A' n' c' gs' idx, e = .returned (.int .i64 (idx : Nat)) ∧ numG gs g = (gs', idx) ∧ Bld w' bb mb base kv ov (.slice A' n' c') n' gs' ∧
    Keep (fun k => k ≠ bb ∧ k ≠ mb ∧ gv.ownBlock ≠ some k) w w' ∧ (∀ k, (Value.slice A' n' c').ownBlock = some k → gv.ownBlock = some k ∨ w.heap.size ≤ k)
theorem hkey_of {t : List UInt8} {b : ByteArray} (h : b.data.toList = t) (hs : b.size ≤ maxLen) : keyOf Tryz.prog 9 (.string b) = some (litT t) := by
  rw [WideMaps.keyOf_string_mk Tryz.underlying9 hs, h]
  rfl
set_option maxRecDepth 100000 in
set_option maxHeartbeats 4000000 in
theorem number_fib_any (bb mb base : Nat) (kv ov : Value) (gA : Option Addr) (gn gc : Nat) (gs : List GE) (g : GE) (w : World) (hb : Bld w bb mb base kv ov (.slice gA gn gc) gn gs) (hp : Paths w w.heap.size g.A g.n g.c g.ps)
    (hi : In (fun k => (Value.slice gA gn gc).ownBlock ≠ some k ∧ base ≤ k) g.A g.n g.ps) (hbase : base ≤ w.heap.size) (hgn : gn ≤ 1000) (hn : g.n ≤ 1000) (hw : ∀ p ∈ g.ps, WPath p ∧ p.ls.length ≤ 1000) (ha : W64 g.act) (henv : Env w) :
    Calls Tryz.prog 57 #[.pointer (some ⟨bb, 0, none⟩), .agg #[.int .i64 g.act, .slice g.A g.n g.c]] w (GivesNum w bb mb base kv ov (.slice gA gn gc) gs g) := by
  obtain ⟨act, A, n, c, ps⟩ := g
  dsimp only at hp hi hn hw ha ⊢
  obtain ⟨hb1, hb2, hb3, hb4, hlo⟩ := hb
  obtain ⟨w1, hw1⟩ : ∃ w1, w.alloc (.cells #[.int .i64 act, .slice A n c] 47) = w1 := ⟨_, rfl⟩
  have HB1 : Hid (Below w.heap.size w w1) := by show Below _ _ _; rw [← hw1]; exact belowA _ _
  have HX1 : Hid (Blk w1 w.heap.size 47 [.int .i64 act, .slice A n c]) := by show Blk _ _ _ _; rw [← hw1]; exact Blk.new w _ _
  have hsz1 : w.heap.size ≤ w1.heap.size := HB1.out.size
  have HT := Lib.hid (text_any A n c w.heap.size act ps w1 (hp.below HB1.out) hsz1 hn hw ha (henv.below HB1.out))
  have HTL : Hid ((textT act ps).length ≤ 23000021) := text_len ha hw (by rw [hp.1.2]; exact hn)
  obtain ⟨T, hT⟩ : ∃ T, textT act ps = T := ⟨_, rfl⟩
  obtain ⟨tb, htb⟩ : ∃ tb, strB T = tb := ⟨_, rfl⟩
  rw [hT, htb] at HT
  rw [hT] at HTL
  have HK : Hid (keyG ⟨act, A, n, c, ps⟩ = T) := hT
  have HTB : Hid (tb.data.toList = T) := by show _ = _; rw [← htb, strB_list]
  have hts : tb.size ≤ maxLen := by rw [← htb, strB_size]; have := HTL.out; simp only [maxLen]; omega
  have HKEY := Lib.hid (hkey_of HTB.out hts)
  have g0 := HX1.out.cell 0
  have g1 := HX1.out.cell 1
  simp only [List.getElem?_cons_zero, List.getElem?_cons_succ] at g0 g1
  have hl1 := HX1.out.lt
  have HBX := Lib.hid hb1
  have HMP := Lib.hid hb2
  have HRW := Lib.hid hb3
  have HND := Lib.hid hb4
  have HPP := Lib.hid hp
  have HIN := Lib.hid hi
  have hbbw : bb < w.heap.size := hb1.lt
  have hgl : (gs.map keyG).length = gn := by rw [List.length_map, hb3.len]
  have HGL := Lib.hid hgl
  clear hb1 hb2 hb3 hb4 hp hi hT htb henv hgl
  go_enter Tryz.func57, Tryz.ntmps57
  go_wp2_with fail
  refine HT.out.mono ?_
  rintro e w2 ⟨rfl, hb2⟩
  have HB2 := Lib.hid (below3 HB1.out hb2)
  have HX2 := Lib.hid (HX1.out.keep hb2)
  have HBX2 := Lib.hid (HBX.out.keep HB2.out)
  have HMP2 : Hid (w2.ownsMap Tryz.prog 9 (plainElem Tryz.prog 3) mb gn (dmap (gs.map keyG))) := by
    have h := HMP.out
    have hl := h.lt
    obtain ⟨es, clock, h1, h2⟩ := h
    exact ⟨es, clock, (HB2.out.block mb hl).trans h1, h2⟩
  have HRW2 := Lib.hid (HRW.out.below HB2.out)
  have HPP2 := Lib.hid (HPP.out.below HB2.out)
  have q2 := HBX2.out.cell 2
  have q3 := HBX2.out.cell 3
  simp only [List.getElem?_cons_zero, List.getElem?_cons_succ] at q2 q3
  have hbb2 := HBX2.out.lt
  clear HT hb2 g0 g1
  by_cases hin : T ∈ gs.map keyG
  · have hhas : has (dmap (gs.map keyG)) (litT T) = true := by rw [dmap_has]; exact decide_eq_true hin
    have HAT := Lib.hid (dmap_at (.lit (.int .i64 0)) HND.out hin)
    have hip := mem_of_idx.1 hin
    obtain ⟨idx, hidx⟩ : ∃ idx : Nat, idxQ (sameT T) (gs.map keyG) = idx := ⟨_, (Int.toNat_of_nonneg hip).symm⟩
    have HF : Hid (numG gs ⟨act, A, n, c, ps⟩ = (gs, idx)) := by
      show _ = _
      unfold numG
      rw [HK.out, hidx, if_neg (by omega), Int.toNat_natCast]
    rw [hidx] at HAT
    have HAT2 : Hid (∀ c2, (dmap (gs.map keyG)).atKey (litT T) (.lit (.int .i64 0)) = .lit (.int .i64 c2) → c2 = (idx : Int)) := by
      intro c2 h
      rw [HAT.out] at h
      injection h with h
      injection h with _ h
      exact h.symm
    clear hin hip hidx HAT
    go_wp2_with (at_lookup; refine wpList_lookup_own_ok_int _ rfl _ _ 113 rfl 9 3 .i64 law_str Tryz.underlying113 Tryz.underlying3 (zero_int _) mb gn _ rfl HMP2.out _ _ rfl HKEY.out ?_; intro c2 hat hwc; rw [hhas]; obtain rfl := HAT2.out c2 hat; clear hat hwc hhas)
    go_ret
    exact ⟨gA, gn, gc, gs, idx, rfl, HF.out, ⟨HBX2.out, HMP2.out, HRW2.out, HND.out, hlo⟩, Keep.of HB2.out, fun k e => .inl e⟩
  · have hhas : has (dmap (gs.map keyG)) (litT T) = false := by rw [dmap_has]; exact decide_eq_false hin
    have hneg : idxQ (sameT T) (gs.map keyG) < 0 := by
      rcases Int.lt_or_le (idxQ (sameT T) (gs.map keyG)) 0 with h | h
      · exact h
      · exact absurd (mem_of_idx.2 h) hin
    have HF0 : Hid (numG gs ⟨act, A, n, c, ps⟩ = (gs ++ [(⟨act, A, n, c, ps⟩ : GE)], gn)) := by
      show _ = _
      unfold numG
      rw [HK.out, if_pos hneg, HRW.out.len]
    have HND2 : Hid (((gs ++ [(⟨act, A, n, c, ps⟩ : GE)]).map keyG).Nodup) := by
      show List.Nodup _
      rw [List.map_append, List.nodup_append]
      refine ⟨HND.out, by simp, fun a ha b hb e => ?_⟩
      have h1 : b = keyG ⟨act, A, n, c, ps⟩ := by simpa using hb
      rw [HK.out] at h1
      exact hin (by rw [← h1, ← e]; exact ha)
    have HDM : Hid ((dmap (gs.map keyG)).put (litT T) (.lit (.int .i64 gn)) = dmap ((gs ++ [(⟨act, A, n, c, ps⟩ : GE)]).map keyG)) := by
      show _ = _
      rw [List.map_append]
      show _ = dmap (gs.map keyG ++ [keyG ⟨act, A, n, c, ps⟩])
      rw [HK.out, dmap_snoc, HGL.out]
    have HVAL : Hid (plainElem (H := Unit) Tryz.prog 3 (.int .i64 gn) = some (.lit (.int .i64 gn), [])) := plainElem_int Tryz.underlying3 (by simp [Lit.wf, IntKind.min, IntKind.max, IntKind.signed, IntKind.bits]; omega)
    have hroom : gn < maxLen := by simp only [maxLen]; omega
    obtain ⟨hlo1, hlo2, hlo3⟩ := hlo
    clear hin hneg
    go_upto_region 6 with (first | (at_lookup; refine wpList_lookup_own_ok_int _ rfl _ _ 113 rfl 9 3 .i64 law_str Tryz.underlying113 Tryz.underlying3 (zero_int _) mb gn _ rfl HMP2.out _ _ rfl HKEY.out ?_; intro c2 hat hwc; rw [hhas]; clear hat hwc hhas) | (at_mapUpdate; refine wpList_mapUpdate_own _ rfl _ _ _ 113 rfl 9 3 law_str Tryz.underlying113 _ mb gn _ rfl HMP2.out hroom _ _ _ rfl rfl HKEY.out _ [] HVAL.out ?_; intro w3 hm3 hg3))
    rw [HDM.out] at hm3
    have hk3 : Keep (· ≠ mb) w2 w3 := Keep.grown hg3 fun k hk e => hk (Option.some.inj e)
    have hsz2 := HB2.out.size
    have hsz3 := hk3.size
    have hX3 := HX2.out.kp hk3 (show w.heap.size ≠ mb by omega)
    have hBX3 := HBX2.out.kp hk3 hlo3
    have hRW3 : GRow w3 base (.slice gA gn gc) gn gs := HRW2.out.kp hk3 (fun k e => by have := (World.ownsRow.lt HRW2.out.row k e).1; show k ≠ mb; omega) (fun g hg => (HRW2.out.data g hg).2.mono fun k hk => by show k ≠ mb; omega)
    have hPP3 := paths_kp HPP2.out hk3 (by omega) (HIN.out.mono fun k hk => by show k ≠ mb; omega)
    obtain ⟨wD, hwD⟩ : ∃ wD, w3.drew = wD := ⟨_, rfl⟩
    have hbD : Below w3.heap.size w3 wD := by rw [← hwD]; exact (Below.refl _ _).drew
    have hszD := hbD.size
    obtain ⟨A', c', w4, hr4, hrow4, hb4, hk4, hown4⟩ := grp_push (hRW3.below hbD) ⟨act, A, n, c, ps⟩ ((hPP3.below (hbD.mono (by omega))).more (by omega)) HIN.out rfl (by omega) (by omega)
    dsimp only at hr4
    have HR := Lib.hid hr4
    obtain ⟨wB, hwB⟩ : ∃ wB, wD.alloc (.cells #[.int .i64 act, .slice A n c] 47) = wB := ⟨_, rfl⟩
    rw [hwB] at HR
    have hbB : Below wD.heap.size wD wB := by rw [← hwB]; exact belowA _ _
    have hXD := hX3.keep hbD
    have HSD := Lib.hid hXD
    have HSB := Lib.hid (hXD.keep hbB)
    have hX4 := hXD.kp hk4 (fun e => by have := (World.ownsRow.lt HRW.out.row _ e).2; omega)
    have HS4 := Lib.hid hX4
    have hsv : Save bb w4 (w4.setCell ⟨bb, 3, none⟩ (.slice A' (gn + 1) c')) := Save.set
    have HS5 := Lib.hid (hX4.save hsv (by omega))
    have hBXD := hBX3.keep hbD
    have hBXB := hBXD.keep hbB
    have hBX4 := hBXD.below hb4 hlo1
    have b3D := hBXD.cell 3
    have b3B := hBXB.cell 3
    have b34 := hBX4.cell 3
    have f4 := hBX4.frozen 3
    simp only [List.getElem?_cons_zero, List.getElem?_cons_succ] at b3D b3B b34
    have hbbD := hBXD.lt
    have hbbB := hBXB.lt
    have hbb4 := hBX4.lt
    have HF : Hid (GivesNum w bb mb base kv ov (.slice gA gn gc) gs ⟨act, A, n, c, ps⟩ (.returned (.int .i64 (gn : Nat))) (w4.setCell ⟨bb, 3, none⟩ (.slice A' (gn + 1) c'))) := by
      refine ⟨A', gn + 1, c', _, gn, rfl, HF0.out, ⟨hBX4.set 3 _, ?_, ?_, HND2.out, hlo1, hlo2, hlo3⟩, ?_, fun k e => ?_⟩
      · obtain ⟨es, clock, h1, h2⟩ := hm3
        refine ⟨es, clock, ?_, h2⟩
        rw [hsv.block mb (by have := hb4.size; omega) (fun e => hlo3 e.symm), hb4.block mb hlo2, hbD.block mb (by have := hk3.size; omega)]
        exact h1
      · exact hrow4.kp (P := (· ≠ bb)) (Keep.save hsv fun k hk => hk) (fun k e => by have := (World.ownsRow.lt hrow4.row k e).1; show k ≠ bb; omega) (fun g hg => (hrow4.data g hg).2.mono fun k hk => by show k ≠ bb; omega)
      · refine (Keep.of HB2.out).trans (((hk3.mono fun k _ hk => hk.2.1).trans (Keep.of hbD)).trans ((hk4.mono fun k _ hk => hk.2.2).trans (Keep.save hsv fun k hk => hk.1)))
      · rcases hown4 k e with h | h
        · exact .inl h
        · exact .inr (by omega)
    clear hm3 hg3 hk3 hX3 hBX3 hRW3 hPP3 hbD hr4 hrow4 hb4 hk4 hown4 hbB hXD hX4 hsv hBXD hBXB hBX4
    refine wp_region_noPanic ?_
    refine wp_region_held_drew (S := fun V => Blk V w.heap.size 47 [.int .i64 act, .slice A n c]) (by kernel_rfl) (by rw [hwD]; exact HSD.out) (fun hHeld => ?_)
    rw [hwD] at hHeld ⊢
    clear hwD
    refine take_in (i := 0) _ (some 32) (by kernel_rfl) (by kernel_rfl) (by kernel_rfl) (by kernel_rfl) (fun _ _ _ h => h) (by rfl) (fun o ho w hSw => by cases ho; (try dsimp only at hSw); (try go_split_ands); go_simp; (try with_reducible rfl)) hHeld ?_
    try simp only [Act.put, List.setIfInBounds_toArray, List.set_cons_zero, List.set_cons_succ]
    refine take_in (i := 1) _ (some 33) (by kernel_rfl) (by kernel_rfl) (by kernel_rfl) (by kernel_rfl) (fun _ _ _ h => h) (by rfl) (fun o ho w hSw => by cases ho; (try dsimp only at hSw); (try go_split_ands); go_simp; (try with_reducible rfl)) hHeld ?_
    try simp only [Act.put, List.setIfInBounds_toArray, List.set_cons_zero, List.set_cons_succ]
    refine take_in (i := 2) _ (some 34) (by kernel_rfl) (by kernel_rfl) (by kernel_rfl) (by kernel_rfl) (fun _ _ _ h => h) (by rfl) (fun o ho w hSw => by cases ho; (try dsimp only at hSw); (try go_split_ands); go_simp; (try with_reducible rfl)) hHeld ?_
    try simp only [Act.put, List.setIfInBounds_toArray, List.set_cons_zero, List.set_cons_succ]
    refine take_in (i := 3) _ (some 35) (by kernel_rfl) (by kernel_rfl) (by kernel_rfl) (by kernel_rfl) (fun _ _ _ h => h) (by rfl) (fun o ho w hSw => by cases ho; (try dsimp only at hSw); (try go_split_ands); go_simp; (try with_reducible rfl)) hHeld ?_
    try simp only [Act.put, List.setIfInBounds_toArray, List.set_cons_zero, List.set_cons_succ]
    refine take_in (i := 5) _ (some 37) (by kernel_rfl) (by kernel_rfl) (by kernel_rfl) (by kernel_rfl) (fun _ _ _ h => h) (by rfl) (fun o ho w hSw => by cases ho; exact run_load_blk _ _ rfl _ rfl (hSw) _ Tryz.underlying47 rfl (by kernel_rfl)) hHeld ?_
    try simp only [Act.put, List.setIfInBounds_toArray, List.set_cons_zero, List.set_cons_succ]
    refine wpAnyH_ready (rs := [4, 6]) (by kernel_rfl) (by simp) ?_
    refine AllReadyH.cons (o := _) rfl (fun K hK => ?_) (AllReadyH.cons (o := _) rfl (fun K hK => ?_) AllReadyH.nil)
    · go_simp
      refine hK.out _ _ hHeld (fun hHeld => ?_)
      clear hK K
      try simp only [Act.put, List.setIfInBounds_toArray, List.set_cons_zero, List.set_cons_succ]
      refine wpAnyH_ready (rs := [6]) (by kernel_rfl) (by simp) ?_
      refine AllReadyH.cons (o := _) rfl (fun K hK => ?_) AllReadyH.nil
      go_simp
      try rw [hwB]
      refine hK.out _ _ HSB.out (fun hHeld => ?_)
      clear hK K
      try simp only [Act.put, List.setIfInBounds_toArray, List.set_cons_zero, List.set_cons_succ]
      refine wpAnyH_ready (rs := [7]) (by kernel_rfl) (by simp) ?_
      refine AllReadyH.cons (o := _) rfl (fun K hK => ?_) AllReadyH.nil
      refine step_append_at (some 39) (by rfl) (by rfl) _ _ _ (by rfl) (by rfl) (by rfl) HR.out ?_
      refine hK.out _ _ HS4.out (fun hHeld => ?_)
      clear hK K
      try simp only [Act.put, List.setIfInBounds_toArray, List.set_cons_zero, List.set_cons_succ]
      refine take_in (i := 8) _ (some 40) (by kernel_rfl) (by kernel_rfl) (by kernel_rfl) (by kernel_rfl) (fun _ _ _ h => h) (by rfl) (fun o ho w hSw => by cases ho; (try dsimp only at hSw); (try go_split_ands); go_simp; (try with_reducible rfl)) hHeld ?_
      try simp only [Act.put, List.setIfInBounds_toArray, List.set_cons_zero, List.set_cons_succ]
      refine take_in (i := 9) _ (some 41) (by kernel_rfl) (by kernel_rfl) (by kernel_rfl) (by kernel_rfl) (fun _ _ _ h => h) (by rfl) (fun o ho w hSw => by cases ho; (try dsimp only at hSw); (try go_split_ands); go_simp; (try with_reducible rfl)) hHeld ?_
      try simp only [Act.put, List.setIfInBounds_toArray, List.set_cons_zero, List.set_cons_succ]
      refine wpAnyH_ready (rs := [10]) (by kernel_rfl) (by simp) ?_
      refine AllReadyH.cons (o := _) rfl (fun K hK => ?_) AllReadyH.nil
      go_simp
      refine hK.out _ _ HS5.out (fun hHeld => ?_)
      clear hK K
      try simp only [Act.put, List.setIfInBounds_toArray, List.set_cons_zero, List.set_cons_succ]
      refine wpAnyH_done (by kernel_rfl) ?_ _
      refine NoPanic.normal ?_
      go_wp2
      go_ret
      exact HF.out
    · go_simp
      try rw [hwB]
      refine hK.out _ _ HSB.out (fun hHeld => ?_)
      clear hK K
      try simp only [Act.put, List.setIfInBounds_toArray, List.set_cons_zero, List.set_cons_succ]
      refine wpAnyH_ready (rs := [4]) (by kernel_rfl) (by simp) ?_
      refine AllReadyH.cons (o := _) rfl (fun K hK => ?_) AllReadyH.nil
      go_simp
      refine hK.out _ _ hHeld (fun hHeld => ?_)
      clear hK K
      try simp only [Act.put, List.setIfInBounds_toArray, List.set_cons_zero, List.set_cons_succ]
      refine wpAnyH_ready (rs := [7]) (by kernel_rfl) (by simp) ?_
      refine AllReadyH.cons (o := _) rfl (fun K hK => ?_) AllReadyH.nil
      refine step_append_at (some 39) (by rfl) (by rfl) _ _ _ (by rfl) (by rfl) (by rfl) HR.out ?_
      refine hK.out _ _ HS4.out (fun hHeld => ?_)
      clear hK K
      try simp only [Act.put, List.setIfInBounds_toArray, List.set_cons_zero, List.set_cons_succ]
      refine take_in (i := 8) _ (some 40) (by kernel_rfl) (by kernel_rfl) (by kernel_rfl) (by kernel_rfl) (fun _ _ _ h => h) (by rfl) (fun o ho w hSw => by cases ho; (try dsimp only at hSw); (try go_split_ands); go_simp; (try with_reducible rfl)) hHeld ?_
      try simp only [Act.put, List.setIfInBounds_toArray, List.set_cons_zero, List.set_cons_succ]
      refine take_in (i := 9) _ (some 41) (by kernel_rfl) (by kernel_rfl) (by kernel_rfl) (by kernel_rfl) (fun _ _ _ h => h) (by rfl) (fun o ho w hSw => by cases ho; (try dsimp only at hSw); (try go_split_ands); go_simp; (try with_reducible rfl)) hHeld ?_
      try simp only [Act.put, List.setIfInBounds_toArray, List.set_cons_zero, List.set_cons_succ]
      refine wpAnyH_ready (rs := [10]) (by kernel_rfl) (by simp) ?_
      refine AllReadyH.cons (o := _) rfl (fun K hK => ?_) AllReadyH.nil
      go_simp
      refine hK.out _ _ HS5.out (fun hHeld => ?_)
      clear hK K
      try simp only [Act.put, List.setIfInBounds_toArray, List.set_cons_zero, List.set_cons_succ]
      refine wpAnyH_done (by kernel_rfl) ?_ _
      refine NoPanic.normal ?_
      go_wp2
      go_ret
      exact HF.out
end Go.Proofs.YtplppbgkkfjknaaGreatDoor
namespace Go.Proofs.YtplppbgkkfjknaaGreatDoor
open Go.RowKit
open Go.Maps

set_option linter.unusedVariables false
set_option linter.unusedSimpArgs false
def GE.dat (g : GE) : Int × List PV := (g.act, g.ps.map PV.dat)
theorem dat_dat (p : PV) : p.dat.dat = p.dat := rfl
def keyD (g : Int × List PV) : List UInt8 := textT g.1 g.2
theorem keyG_dat (g : GE) : keyG g = keyD g.dat := by
  unfold keyG keyD GE.dat
  refine text_dat ?_
  rw [List.map_map]
  exact List.map_congr_left fun p _ => (dat_dat p).symm
def numD (gs : List (Int × List PV)) (g : Int × List PV) : List (Int × List PV) × Nat := if idxQ (sameT (keyD g)) (gs.map keyD) < 0 then (gs ++ [g], gs.length) else (gs, (idxQ (sameT (keyD g)) (gs.map keyD)).toNat)
theorem map_keyG (gs : List GE) : gs.map keyG = (gs.map GE.dat).map keyD := by
  rw [List.map_map]
  exact List.map_congr_left fun g _ => keyG_dat g
theorem numG_dat {gs gs' : List GE} {g : GE} {i : Nat} (h : numG gs g = (gs', i)) : numD (gs.map GE.dat) g.dat = (gs'.map GE.dat, i) := by
  unfold numG at h
  rw [map_keyG, keyG_dat] at h
  unfold numD
  split
  · rename_i hl
    rw [if_pos hl] at h
    injection h with h1 h2
    rw [← h1, ← h2, List.map_append, List.length_map]
    rfl
  · rename_i hl
    rw [if_neg hl] at h
    injection h with h1 h2
    rw [← h1, ← h2]
def grpD (ks : List BK) (os : List LO) (r : RT) : Int × List PV := (r.n, groupR ks os r.hs)
def stepB (ks : List BK) (os : List LO) (q : List (Int × List PV) × List Ent) (r : RT) : List (Int × List PV) × List Ent := ((numD q.1 (grpD ks os r)).1, q.2 ++ [⟨r.a, r.l, ((numD q.1 (grpD ks os r)).2 : Nat)⟩])
/-- the groups and the rows of a table -/
def buildS (ks : List BK) (os : List LO) (rs : List RT) : List (Int × List PV) × List Ent := rs.foldl (stepB ks os) ([], [])
theorem buildS_take {ks : List BK} {os : List LO} {rs : List RT} {k : Nat} {r : RT} (h : rs[k]? = some r) : buildS ks os (rs.take (k + 1)) = stepB ks os (buildS ks os (rs.take k)) r := by
  unfold buildS
  rw [List.take_add_one, h, List.foldl_append]
  rfl
structure WHop (h : XH) : Prop where
  iface : W64 h.iface
  addr : W32 h.addr
  router : W32 h.router
  weight : W64 h.weight
structure WIn (rs : List RT) (ks : List BK) (os : List LO) : Prop where
  hops : ∀ r ∈ rs, ∀ h ∈ r.hs, WHop h
  backs : ∀ k ∈ ks, W64 k.p.iface ∧ W32 k.p.addr ∧ W32 k.p.router
  labs : ∀ o ∈ os, ∀ h ∈ o.hs, W64 h.label
theorem hopLab_wide {r : Int} : ∀ {hs : List HV}, (∀ h ∈ hs, W64 h.label) → (hopLab r hs).length ≤ 1 ∧ ∀ n ∈ hopLab r hs, W64 n
  | [], _ => ⟨by simp [hopLab], fun n hn => by cases hn⟩
  | h :: t, hw => by
    rw [hopLab]
    split
    · split
      · exact ⟨by simp, fun n hn => by cases hn⟩
      · refine ⟨by simp, fun n hn => ?_⟩
        obtain rfl : n = h.label := by simpa using hn
        exact hw h List.mem_cons_self
    · exact hopLab_wide fun x hx => hw x (List.mem_cons_of_mem _ hx)
theorem labelR_wide {a : Nat} {l r : Int} : ∀ {os : List LO}, (∀ o ∈ os, ∀ h ∈ o.hs, W64 h.label) → (labelR a l r os).length ≤ 1 ∧ ∀ n ∈ labelR a l r os, W64 n
  | [], _ => ⟨by simp [labelR], fun n hn => by cases hn⟩
  | o :: t, hw => by
    rw [labelR]
    split
    · exact hopLab_wide (hw o List.mem_cons_self)
    · exact labelR_wide fun x hx => hw x (List.mem_cons_of_mem _ hx)
theorem backR_mem {a : Nat} {l r : Int} {bs : List BK} {x : PV} (h : backR a l r bs = some x) : ∃ k ∈ bs, x = k.p := by
  unfold backR at h
  split at h
  · cases h
  · obtain ⟨k, h1, h2⟩ := Option.map_eq_some_iff.1 h
    exact ⟨k, List.mem_of_getElem? h1, h2.symm⟩
theorem W64_z : W64 0 := by unfold W64; omega
theorem W32_z : W32 0 := by unfold W32; omega
theorem W64_m : W64 (-1) := by unfold W64; omega
theorem hopAtX_wide {hs : List XH} (h : ∀ x ∈ hs, WHop x) (k : Nat) : WHop (hopAtX hs k) := by
  unfold hopAtX
  cases e : hs[k]? with
  | none => exact ⟨W64_z, W32_z, W32_z, W64_z⟩
  | some x => exact h x (List.mem_of_getElem? e)
theorem pathOf_wide {os : List LO} {h : XH} (hw : WHop h) (ho : ∀ o ∈ os, ∀ h ∈ o.hs, W64 h.label) : WPath (pathOf os h) ∧ (pathOf os h).ls.length ≤ 1 := by
  have h1 := labelR_wide (a := h.va) (l := h.vl) (r := h.router) ho
  exact ⟨⟨hw.iface, hw.addr, hw.router, hw.weight, W64_m, by show (labelR _ _ _ _).length ≤ _; omega, h1.2⟩, h1.1⟩
theorem grpTo_wide {ks : List BK} {os : List LO} {hs : List XH} (hh : ∀ x ∈ hs, WHop x) (hk : ∀ k ∈ ks, W64 k.p.iface ∧ W32 k.p.addr ∧ W32 k.p.router) (ho : ∀ o ∈ os, ∀ h ∈ o.hs, W64 h.label) (hn : hs.length ≤ 1000000) :
    ∀ k, k ≤ hs.length → ∀ p ∈ grpTo ks os hs k, WPath p ∧ p.ls.length ≤ 1
  | 0, _, p, hp => by
    rw [grpTo] at hp
    obtain ⟨x, hx, rfl⟩ := List.mem_map.1 hp
    exact pathOf_wide (hh x hx) ho
  | k + 1, hkn, p, hp => by
    have ih := grpTo_wide hh hk ho hn k (by omega)
    have hlen := grpTo_len ks os hs k
    have hX := hopAtX_wide hh k
    rw [grpTo] at hp
    unfold addBack at hp
    split at hp
    · rename_i x hb
      split at hp
      · exact ih p hp
      · rcases List.mem_append.1 hp with hp | hp
        · rcases List.mem_or_eq_of_mem_set hp with hp | rfl
          · exact ih p hp
          · have hq : WPath ((grpTo ks os hs k)[k]?.getD (pathOf os (hopAtX hs k))) ∧ ((grpTo ks os hs k)[k]?.getD (pathOf os (hopAtX hs k))).ls.length ≤ 1 := by
              cases e : (grpTo ks os hs k)[k]? with
              | none => exact pathOf_wide hX ho
              | some q => exact ih q (List.mem_of_getElem? e)
            exact ⟨⟨hq.1.iface, hq.1.addr, hq.1.router, hq.1.weight, by unfold W64; dsimp only; omega, hq.1.ln, hq.1.ls⟩, hq.2⟩
        · obtain rfl : p = backOf os (hopAtX hs k) x := by simpa using hp
          obtain ⟨b, hbm, rfl⟩ := backR_mem hb
          have h1 := labelR_wide (a := (hopAtX hs k).va) (l := (hopAtX hs k).vl) (r := b.p.router) ho
          have h2 := hk b hbm
          exact ⟨⟨h2.1, h2.2.1, h2.2.2, hX.weight, W64_m, by show (labelR _ _ _ _).length ≤ _; omega, h1.2⟩, h1.1⟩
    · exact ih p hp
theorem groupR_wide {rs : List RT} {ks : List BK} {os : List LO} {r : RT} (hw : WIn rs ks os) (hr : r ∈ rs) (hn : r.hs.length ≤ 1000000) : ∀ p ∈ groupR ks os r.hs, WPath p ∧ p.ls.length ≤ 1 :=
  grpTo_wide (hw.hops r hr) hw.backs hw.labs hn _ (Nat.le_refl _)
theorem wide_dat {p : PV} (h : WPath p.dat) : WPath p := ⟨h.iface, h.addr, h.router, h.weight, h.backup, h.ln, h.ls⟩
/-- the builder kept -/
theorem Bld.kp {w w' : World} {P : Nat → Prop} {bb mb base n : Nat} {kv ov gv : Value} {gs : List GE} (h : Bld w bb mb base kv ov gv n gs) (hk : Keep P w w') (h1 : P bb) (h2 : P mb) (h3 : ∀ k, gv.ownBlock = some k → P k) (h4 : ∀ g ∈ gs, In P g.A g.n g.ps) : Bld w' bb mb base kv ov gv n gs := by
  refine ⟨h.box.kp hk h1, ?_, h.row.kp hk h3 h4, h.nodup, h.lo⟩
  have hl := h.map.lt
  obtain ⟨es, clock, k1, k2⟩ := h.map
  exact ⟨es, clock, (hk.block mb hl h2).trans k1, k2⟩
theorem Bld.below {w w' : World} {bb mb base n : Nat} {kv ov gv : Value} {gs : List GE} (h : Bld w bb mb base kv ov gv n gs) (hb : Below w.heap.size w w') : Bld w' bb mb base kv ov gv n gs :=
  h.kp (P := fun _ => True) (Keep.of hb) trivial trivial (fun _ _ => trivial) (fun _ _ => ⟨fun _ _ _ => trivial, fun _ _ _ _ _ => trivial⟩)
theorem numG_len {gs gs' : List GE} {g : GE} {i : Nat} (h : numG gs g = (gs', i)) : gs'.length ≤ gs.length + 1 ∧ (∀ x ∈ gs', x ∈ gs ∨ x = g) := by
  unfold numG at h
  split at h
  · injection h with h1 h2
    subst h1
    exact ⟨by simp, fun x hx => by simpa using hx⟩
  · injection h with h1 h2
    subst h1
    exact ⟨by omega, fun x hx => .inl hx⟩
end Go.Proofs.YtplppbgkkfjknaaGreatDoor
