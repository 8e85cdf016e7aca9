/- What holds of the groups and rows of a built table, plain. The row with the longest prefix that contains an address: the trie's answer is the document's. routingref02.Contains. FibTable, plain: the rows of a built table are its routes', and a row's group is its route's. -/
import Derived.Test.YtplppbgkkfjknaaGreatDoorG27
import Derived.Test.YtplppbgkkfjknaaGreatDoorG17
import Derived.Test.YtplppbgkkfjknaaGreatDoorG22
namespace Go.Proofs.YtplppbgkkfjknaaGreatDoor
open Go.RowKit

set_option linter.unusedVariables false
set_option linter.unusedSimpArgs false
/-- what holds of the groups and rows of a built table -/
structure BOK (q : List (Int × List PV) × List Ent) : Prop where
  nodup : (q.1.map keyD).Nodup
  used : ∀ i, i < q.1.length → ∃ e ∈ q.2, e.v = (i : Nat)
  inr : ∀ e ∈ q.2, 0 ≤ e.v ∧ e.v < q.1.length
theorem numD_ok (gs : List (Int × List PV)) (g : Int × List PV) (h : (gs.map keyD).Nodup) :
    ((numD gs g).1.map keyD).Nodup ∧ (numD gs g).2 < (numD gs g).1.length ∧ gs.length ≤ (numD gs g).1.length ∧ (∀ i, i < (numD gs g).1.length → i < gs.length ∨ i = (numD gs g).2) ∧ (numD gs g).1[(numD gs g).2]?.map keyD = some (keyD g) ∧ (∀ i, i < gs.length → (numD gs g).1[i]? = gs[i]?) := by
  unfold numD
  split
  · rename_i hl
    dsimp only
    refine ⟨?_, by simp, by simp, fun i hi => by rw [List.length_append, List.length_singleton] at hi; omega, by simp, fun i hi => List.getElem?_append_left hi⟩
    rw [List.map_append, List.nodup_append]
    refine ⟨h, by simp, fun a ha b hb e => ?_⟩
    have h1 : b = keyD g := by simpa using hb
    subst h1
    subst e
    have := mem_of_idx.1 ha
    omega
  · rename_i hl
    dsimp only
    obtain ⟨y, h3, h4⟩ := idxQ_pos (P := sameT (keyD g)) (l := gs.map keyD) (by omega)
    have h5 : (idxQ (sameT (keyD g)) (gs.map keyD)).toNat < gs.length := by
      have := (List.getElem?_eq_some_iff.1 h3).1
      simpa using this
    have h6 : y = keyD g := by unfold sameT at h4; exact of_decide_eq_true h4
    rw [List.getElem?_map] at h3
    exact ⟨h, h5, Nat.le_refl _, fun i hi => .inl hi, by rw [h3, h6], fun i hi => rfl⟩
theorem stepB_ok {ks : List BK} {os : List LO} {q : List (Int × List PV) × List Ent} {r : RT} (h : BOK q) : BOK (stepB ks os q r) := by
  obtain ⟨h1, h2, h3, h4, h5, h6⟩ := numD_ok q.1 (grpD ks os r) h.nodup
  refine ⟨h1, fun i hi => ?_, fun e he => ?_⟩
  · rcases h4 i hi with h7 | h7
    · obtain ⟨e, he, hv⟩ := h.used i h7
      exact ⟨e, List.mem_append_left _ he, hv⟩
    · exact ⟨⟨r.a, r.l, ((numD q.1 (grpD ks os r)).2 : Nat)⟩, List.mem_append_right _ (by simp), by rw [h7]⟩
  · rcases List.mem_append.1 he with he | he
    · have := h.inr e he
      exact ⟨this.1, by have h8 := this.2; show e.v < ((numD q.1 (grpD ks os r)).1.length : Int); omega⟩
    · obtain rfl : e = ⟨r.a, r.l, ((numD q.1 (grpD ks os r)).2 : Nat)⟩ := by simpa using he
      exact ⟨by dsimp only; omega, by show (((numD q.1 (grpD ks os r)).2 : Nat) : Int) < ((numD q.1 (grpD ks os r)).1.length : Int); omega⟩
theorem foldB_ok {ks : List BK} {os : List LO} : ∀ (rs : List RT) (q : List (Int × List PV) × List Ent), BOK q → BOK (rs.foldl (stepB ks os) q)
  | [], q, h => h
  | r :: t, q, h => foldB_ok t _ (stepB_ok h)
theorem buildS_ok (ks : List BK) (os : List LO) (rs : List RT) : BOK (buildS ks os rs) :=
  foldB_ok rs _ ⟨List.nodup_nil, fun i hi => by simp at hi, fun e he => by cases he⟩
theorem numD_mem {gs : List (Int × List PV)} {g x : Int × List PV} (h : x ∈ (numD gs g).1) : x ∈ gs ∨ x = g := by
  unfold numD at h
  split at h
  · simpa using h
  · exact .inl h
theorem foldB_mem {ks : List BK} {os : List LO} : ∀ (rs : List RT) (q : List (Int × List PV) × List Ent) (x : Int × List PV), x ∈ (rs.foldl (stepB ks os) q).1 → x ∈ q.1 ∨ ∃ r ∈ rs, x = grpD ks os r
  | [], q, x, h => .inl h
  | r :: t, q, x, h => by
    rcases foldB_mem t _ x h with h | ⟨r2, h2, h3⟩
    · rcases numD_mem h with h | h
      · exact .inl h
      · exact .inr ⟨r, List.mem_cons_self, h⟩
    · exact .inr ⟨r2, List.mem_cons_of_mem _ h2, h3⟩
theorem buildS_mem {ks : List BK} {os : List LO} {rs : List RT} {x : Int × List PV} (h : x ∈ (buildS ks os rs).1) : ∃ r ∈ rs, x = grpD ks os r := by
  rcases foldB_mem rs _ x h with h | h
  · cases h
  · exact h
theorem built_short {rs : List RT} {ks : List BK} {os : List LO} (hw : WIn rs ks os) (hn : ∀ r ∈ rs, r.hs.length ≤ 1000000) {gs : List GE} (hg : gs.map GE.dat = (buildS ks os rs).1) : ∀ g ∈ gs, ∀ p ∈ g.ps, p.ls.length ≤ 1 := by
  intro g hgm p hp
  have h1 : g.dat ∈ (buildS ks os rs).1 := by rw [← hg]; exact List.mem_map_of_mem hgm
  obtain ⟨r, hr, he⟩ := buildS_mem h1
  have h2 : p.dat ∈ groupR ks os r.hs := by
    have h3 : g.ps.map PV.dat = groupR ks os r.hs := congrArg Prod.snd he
    rw [← h3]
    exact List.mem_map_of_mem hp
  exact (groupR_wide hw hr (hn r hr) p.dat h2).2
end Go.Proofs.YtplppbgkkfjknaaGreatDoor
namespace Go.Proofs.YtplppbgkkfjknaaGreatDoor
open Go.RowKit

set_option linter.unusedVariables false
set_option linter.unusedSimpArgs false
/-- whether a prefix contains an address -/
def inP (pa : Nat) (l : Int) (a : Nat) : Bool := validP pa l && decide (keepN a l.toNat = pa)
def preAt (ps : List (Nat × Int)) (i : Nat) : Nat × Int := (ps[i]?).getD (0, 0)
/-- the index of the longest prefix that contains an address, among the first k, or -1 -/
def bestTo (ps : List (Nat × Int)) (a : Nat) : Nat → Int
  | 0 => -1
  | k + 1 => if inP (preAt ps k).1 (preAt ps k).2 a = true ∧ (bestTo ps a k < 0 ∨ (preAt ps (bestTo ps a k).toNat).2 < (preAt ps k).2) then (k : Int) else bestTo ps a k
theorem bestTo_spec (ps : List (Nat × Int)) (a : Nat) : ∀ k, (bestTo ps a k = -1 ∧ ∀ j, j < k → inP (preAt ps j).1 (preAt ps j).2 a = false) ∨ ∃ i, i < k ∧ bestTo ps a k = (i : Nat) ∧ inP (preAt ps i).1 (preAt ps i).2 a = true ∧ ∀ j, j < k → inP (preAt ps j).1 (preAt ps j).2 a = true → (preAt ps j).2 ≤ (preAt ps i).2
  | 0 => .inl ⟨rfl, fun j h => absurd h (by omega)⟩
  | k + 1 => by
    rw [bestTo]
    rcases bestTo_spec ps a k with ⟨h1, h2⟩ | ⟨i, h1, h2, h3, h4⟩
    · by_cases hc : inP (preAt ps k).1 (preAt ps k).2 a = true
      · rw [if_pos ⟨hc, .inl (by omega)⟩]
        refine .inr ⟨k, by omega, rfl, hc, fun j hj hj2 => ?_⟩
        rcases Nat.lt_or_ge j k with h | h
        · rw [h2 j h] at hj2
          cases hj2
        · obtain rfl : j = k := by omega
          omega
      · rw [if_neg (fun h => hc h.1)]
        refine .inl ⟨h1, fun j hj => ?_⟩
        rcases Nat.lt_or_ge j k with h | h
        · exact h2 j h
        · obtain rfl : j = k := by omega
          simpa using hc
    · rw [h2]
      by_cases hc : inP (preAt ps k).1 (preAt ps k).2 a = true ∧ ((i : Int) < 0 ∨ (preAt ps (i : Int).toNat).2 < (preAt ps k).2)
      · rw [if_pos hc]
        rw [Int.toNat_natCast] at hc
        have h5 : (preAt ps i).2 < (preAt ps k).2 := by
          rcases hc.2 with h | h
          · omega
          · exact h
        refine .inr ⟨k, by omega, rfl, hc.1, fun j hj hj2 => ?_⟩
        rcases Nat.lt_or_ge j k with h | h
        · have := h4 j h hj2
          omega
        · obtain rfl : j = k := by omega
          omega
      · rw [if_neg hc]
        rw [Int.toNat_natCast] at hc
        refine .inr ⟨i, by omega, rfl, h3, fun j hj hj2 => ?_⟩
        rcases Nat.lt_or_ge j k with h | h
        · exact h4 j h hj2
        · obtain rfl : j = k := by omega
          rcases Int.lt_or_le (preAt ps i).2 (preAt ps j).2 with h6 | h6
          · exact absurd ⟨hj2, .inr h6⟩ hc
          · exact h6
theorem up_last (E : List Bool → Option Int) (a : Nat) : ∀ K, ((entUp E a K).getLast? = none ∧ ∀ k, k < K → E (bitL a k) = none) ∨ ∃ k v, k < K ∧ (entUp E a K).getLast? = some ⟨keepN a k, k, v⟩ ∧ E (bitL a k) = some v ∧ ∀ j, k < j → j < K → E (bitL a j) = none
  | 0 => .inl ⟨rfl, fun k h => absurd h (by omega)⟩
  | K + 1 => by
    rw [entUp]
    cases hE : E (bitL a K) with
    | some v =>
      dsimp only
      exact .inr ⟨K, v, by omega, by simp, hE, fun j h1 h2 => absurd h1 (by omega)⟩
    | none =>
      dsimp only
      rw [List.append_nil]
      rcases up_last E a K with ⟨h1, h2⟩ | ⟨k, v, h1, h2, h3, h4⟩
      · refine .inl ⟨h1, fun k hk => ?_⟩
        rcases Nat.lt_or_ge k K with h | h
        · exact h2 k h
        · obtain rfl : k = K := by omega
          exact hE
      · refine .inr ⟨k, v, by omega, h2, h3, fun j h5 h6 => ?_⟩
        rcases Nat.lt_or_ge j K with h | h
        · exact h4 j h5 h
        · obtain rfl : j = K := by omega
          exact hE
theorem foldE_some : ∀ (es : List Ent) (E : List Bool → Option Int) (σ : List Bool) (v : Int), es.foldl putE E σ = some v → E σ = some v ∨ ∃ e ∈ es, σ = bitL e.a e.l.toNat ∧ v = e.v
  | [], E, σ, v, h => .inl h
  | e :: t, E, σ, v, h => by
    rcases foldE_some t _ σ v h with h | ⟨e2, h2, h3⟩
    · unfold putE at h
      split at h
      · rename_i hs
        exact .inr ⟨e, List.mem_cons_self, hs, (Option.some.inj h).symm⟩
      · exact .inl h
    · exact .inr ⟨e2, List.mem_cons_of_mem _ h2, h3⟩
theorem foldE_mem : ∀ (es : List Ent) (E : List Bool → Option Int) (σ : List Bool), ((∃ e ∈ es, σ = bitL e.a e.l.toNat) ∨ E σ ≠ none) → es.foldl putE E σ ≠ none
  | [], E, σ, h => by
    rcases h with ⟨e, he, _⟩ | h
    · cases he
    · exact h
  | e :: t, E, σ, h => by
    refine foldE_mem t _ σ ?_
    by_cases hs : σ = bitL e.a e.l.toNat
    · right
      unfold putE
      rw [if_pos hs]
      simp
    · rcases h with ⟨e2, he, h2⟩ | h
      · rcases List.mem_cons.1 he with rfl | he
        · exact absurd h2 hs
        · exact .inl ⟨e2, he, h2⟩
      · right
        unfold putE
        rw [if_neg hs]
        exact h
def pre (e : Ent) : Nat × Int := (e.a, e.l)
/-- valid prefixes, all different -/
structure Rows1 (es : List Ent) : Prop where
  valid : ∀ e ∈ es, validE e = true
  a : ∀ e ∈ es, e.a < 4294967296
  diff : ∀ (i j : Nat) (x y : Ent), es[i]? = some x → es[j]? = some y → pre x = pre y → i = j
theorem valid_parts {a : Nat} {l : Int} (h : validP a l = true) : 0 ≤ l ∧ l ≤ 32 ∧ keepN a l.toNat = a := by
  unfold validP at h
  simp only [Bool.and_eq_true, decide_eq_true_eq] at h
  exact h
theorem in_bits {e : Ent} {a : Nat} (hv : validE e = true) (he : e.a < 4294967296) (ha : a < 4294967296) : inP e.a e.l a = true ↔ bitL a e.l.toNat = bitL e.a e.l.toNat := by
  have h := valid_parts hv
  rw [bitL_keep ha he (by omega), h.2.2]
  unfold inP
  have hv2 : validP e.a e.l = true := hv
  rw [hv2, Bool.true_and, decide_eq_true_eq]
theorem pre_get {es : List Ent} {i : Nat} {x : Ent} (h : es[i]? = some x) : preAt (es.map pre) i = pre x := by
  unfold preAt
  rw [List.getElem?_map, h]
  rfl
/-- the trie's row is the document's -/
theorem rowFor_best {es : List Ent} {a : Nat} (h : Rows1 es) (ha : a < 4294967296) : rowFor es a = if bestTo (es.map pre) a es.length < 0 then none else es[(bestTo (es.map pre) a es.length).toNat]? := by
  have hall : es.all validE = true := List.all_eq_true.2 h.valid
  unfold rowFor
  rw [if_pos hall]
  unfold longest
  rcases up_last (ofE es) a 33 with ⟨h1, h2⟩ | ⟨k, v, h1, h2, h3, h4⟩
  · rw [h1]
    rcases bestTo_spec (es.map pre) a es.length with ⟨h5, _⟩ | ⟨i, h5, h6, h7, _⟩
    · rw [h5, if_pos (by omega)]
    · exfalso
      have hx : es[i]? = some es[i] := List.getElem?_eq_getElem h5
      rw [pre_get hx] at h7
      have hm := List.getElem_mem h5
      have hvp := valid_parts (h.valid _ hm)
      have hb := (in_bits (h.valid _ hm) (h.a _ hm) ha).1 h7
      have h8 := h2 es[i].l.toNat (by omega)
      exact foldE_mem es _ _ (.inl ⟨es[i], hm, hb⟩) h8
  · rw [h2]
    rcases foldE_some es _ _ _ h3 with h5 | ⟨e, he, hb, hv⟩
    · cases h5
    · have hvp := valid_parts (h.valid e he)
      have hkl : e.l.toNat = k := by
        have := congrArg List.length hb
        rw [bitL_len, bitL_len] at this
        omega
      have hin : inP e.a e.l a = true := (in_bits (h.valid e he) (h.a e he) ha).2 (by rw [hkl, hb, hkl])
      obtain ⟨i, hi, hei⟩ := List.getElem_of_mem he
      have hei2 : es[i]? = some e := by rw [List.getElem?_eq_getElem hi, hei]
      have hxe : (⟨keepN a k, k, v⟩ : Ent) = e := by
        have h6 : keepN a k = e.a := by
          have h7 := hin
          unfold inP at h7
          simp only [Bool.and_eq_true, decide_eq_true_eq] at h7
          rw [← hkl]
          exact h7.2
        obtain ⟨ea, el, ev⟩ := e
        dsimp only at h6 hkl hv hvp
        have h8 : (k : Int) = el := by omega
        rw [h6, h8, hv]
      rw [hxe]
      rcases bestTo_spec (es.map pre) a es.length with ⟨h5, h6⟩ | ⟨i2, h5, h6, h7, h8⟩
      · exfalso
        have := h6 i hi
        rw [pre_get hei2] at this
        rw [show inP (pre e).1 (pre e).2 a = inP e.a e.l a from rfl, hin] at this
        cases this
      · rw [h6, if_neg (by omega), Int.toNat_natCast]
        have hx2 : es[i2]? = some es[i2] := List.getElem?_eq_getElem h5
        have h9 := h8 i hi (by rw [pre_get hei2]; exact hin)
        rw [pre_get hei2, pre_get hx2] at h9
        rw [pre_get hx2] at h7
        have hm2 := List.getElem_mem h5
        have hvp2 := valid_parts (h.valid _ hm2)
        have hb2 := (in_bits (h.valid _ hm2) (h.a _ hm2) ha).1 h7
        have h9' : e.l ≤ es[i2].l := h9
        have hle : es[i2].l.toNat ≤ k := by
          rcases Nat.lt_or_ge k es[i2].l.toNat with h10 | h10
          · exact absurd (h4 _ h10 (by omega)) (foldE_mem es _ _ (.inl ⟨es[i2], hm2, hb2⟩))
          · exact h10
        have hl : es[i2].l = e.l := by omega
        have ha2 : es[i2].a = e.a := by
          have h11 := h7
          have h12 := hin
          unfold inP at h11 h12
          simp only [Bool.and_eq_true, decide_eq_true_eq] at h11 h12
          have h13 : keepN a es[i2].l.toNat = es[i2].a := h11.2
          rw [← h13, hl]
          exact h12.2
        have := h.diff i2 i _ _ hx2 hei2 (by unfold pre; rw [hl, ha2])
        subst this
        rw [hx2]
        exact congrArg some hei.symm
def ltE (x y : Ent) : Prop := x.a < y.a ∨ (x.a = y.a ∧ x.l < y.l)
theorem firstE_nil {f : Nat → Int} {n i : Nat} (h : firstE f n = 0) (hi : i < n) : f i = 0 := by
  have h1 : firstE f (i + 1) = 0 := by
    by_cases hz : firstE f (i + 1) = 0
    · exact hz
    · rw [firstE_keep hz (by omega : i + 1 ≤ n)] at h
      exact absurd h hz
  have h2 : firstE f i = 0 := by
    by_cases hz : firstE f i = 0
    · exact hz
    · rw [firstE_keep hz (Nat.le_succ i)] at h1
      exact absurd h1 hz
  rw [firstE, h2] at h1
  simpa using h1
theorem ent_ats {es : List Ent} {i : Nat} {x : Ent} (h : es[i]? = some x) : entAt es i = x := by
  unfold entAt
  rw [h]
  rfl
/-- rows without an error -/
theorem rows1_of {ng : Nat} {es : List Ent} (h : rowsErr ng es = 0) (ha : ∀ e ∈ es, e.a < 4294967296) : Rows1 es ∧ ∀ e ∈ es, 0 ≤ e.v ∧ e.v < ng := by
  have key : ∀ (i : Nat) (x : Ent), es[i]? = some x → validE x = true ∧ (0 ≤ x.v ∧ x.v < ng) ∧ ∀ y, 0 < i → es[i - 1]? = some y → ltE y x := by
    intro i x hx
    have hi : i < es.length := (List.getElem?_eq_some_iff.1 hx).1
    have h1 := firstE_nil h hi
    unfold rowErr at h1
    rw [ent_ats hx] at h1
    by_cases h2 : validE x = false
    · rw [if_pos h2] at h1
      omega
    rw [if_neg h2] at h1
    by_cases h3 : 0 < i ∧ 0 ≤ cmpE (entAt es (i - 1)) x
    · rw [if_pos h3] at h1
      omega
    rw [if_neg h3] at h1
    by_cases h4 : x.v < 0 ∨ (ng : Int) ≤ x.v
    · rw [if_pos h4] at h1
      omega
    refine ⟨by simpa using h2, by omega, fun y h0 hy => ?_⟩
    rw [ent_ats hy] at h3
    have h5 : ¬ 0 ≤ cmpE y x := fun h6 => h3 ⟨h0, h6⟩
    unfold cmpE cmpP at h5
    unfold ltE
    by_cases h6 : y.a < x.a ∨ (y.a = x.a ∧ y.l < x.l)
    · exact h6
    · rw [if_neg h6] at h5
      split at h5 <;> omega
  have asc : ∀ (j i : Nat) (x y : Ent), i < j → es[i]? = some x → es[j]? = some y → ltE x y := by
    intro j
    induction j with
    | zero => intro i x y hij; omega
    | succ j ih =>
      intro i x y hij hx hy
      have hj : j + 1 < es.length := (List.getElem?_eq_some_iff.1 hy).1
      have hz : es[j]? = some es[j] := List.getElem?_eq_getElem (by omega)
      have h1 := (key (j + 1) y hy).2.2 es[j] (by omega) hz
      rcases Nat.lt_or_ge i j with h2 | h2
      · have h3 := ih i x _ h2 hx hz
        unfold ltE at h1 h3 ⊢
        omega
      · obtain rfl : i = j := by omega
        rw [hx] at hz
        obtain rfl := Option.some.inj hz
        exact h1
  refine ⟨⟨fun e he => ?_, ha, fun i j x y hx hy hp => ?_⟩, fun e he => ?_⟩
  · obtain ⟨i, hi, hei⟩ := List.getElem_of_mem he
    exact (key i e (by rw [List.getElem?_eq_getElem hi, hei])).1
  · unfold pre at hp
    obtain ⟨h1, h2⟩ := Prod.mk.inj hp
    rcases Nat.lt_trichotomy i j with h3 | h3 | h3
    · have := asc j i x y h3 hx hy
      unfold ltE at this
      omega
    · exact h3
    · have := asc i j y x h3 hy hx
      unfold ltE at this
      omega
  · obtain ⟨i, hi, hei⟩ := List.getElem_of_mem he
    exact (key i e (by rw [List.getElem?_eq_getElem hi, hei])).2.1
end Go.Proofs.YtplppbgkkfjknaaGreatDoor
namespace Go.Proofs.YtplppbgkkfjknaaGreatDoor
open Go.RowKit

set_option linter.unusedVariables false
set_option linter.unusedSimpArgs false
set_option maxRecDepth 100000 in
set_option maxHeartbeats 4000000 in
theorem contains_any (pa : Nat) (l : Int) (a : Nat) (w : World) (hp : pa < 4294967296) (ha : a < 4294967296) :
    Calls Tryz.prog 36 #[.agg #[.int .u32 pa, .int .i64 l], .int .u32 a] w fun e w' => e = .returned (.bool (inP pa l a)) ∧ Below w.heap.size w w' := by
  obtain ⟨w1, hw1⟩ : ∃ w1, w.alloc (.cells #[.int .u32 pa, .int .i64 l] 65) = w1 := ⟨_, rfl⟩
  have hb1 : Below w.heap.size w w1 := by rw [← hw1]; exact belowA _ _
  have HF1 : Hid (Blk w1 w.heap.size 65 [.int .u32 pa, .int .i64 l]) := by show Blk _ _ _ _; rw [← hw1]; exact Blk.new w _ _
  obtain ⟨wD, hwD⟩ : ∃ wD, w1.drew = wD := ⟨_, rfl⟩
  have hbD : Below w1.heap.size w1 wD := by rw [← hwD]; exact (Below.refl _ _).drew
  have HFD := Lib.hid (HF1.out.keep hbD)
  have HBD := Lib.hid (below3 hb1 hbD)
  have HV := Lib.hid (refValid_any pa l wD hp)
  have hl1 := HFD.out.lt
  clear hb1 hbD
  by_cases hv : validP pa l = true
  case neg =>
    have hv2 : validP pa l = false := by simpa using hv
    rw [hv2] at HV
    have HF : Hid (inP pa l a = false) := by show _ = _; unfold inP; rw [hv2]; rfl
    clear hv hv2
    go_enter Tryz.func36, Tryz.ntmps36
    go_upto_region 1 with fail
    try rw [hw1]
    refine wp_region_noPanic ?_
    refine wp_region_held_drew (S := fun V => Blk V w.heap.size 65 [.int .u32 pa, .int .i64 l] ∧ V.cell? ⟨w.heap.size, 1, none⟩ = some (.int .i64 l)) (by kernel_rfl) (by rw [hwD]; exact ⟨HFD.out, HFD.out.cell 1⟩) (fun hHeld => ?_)
    rw [hwD] at hHeld ⊢
    clear hwD hw1
    refine take_in (i := 0) _ (some 5) (by kernel_rfl) (by kernel_rfl) (by kernel_rfl) (by kernel_rfl) (fun _ _ _ h => h) (by rfl) (fun o ho w hSw => by cases ho; exact run_load_blk _ _ rfl _ rfl (hSw.1) _ Tryz.underlying65 rfl (by kernel_rfl)) hHeld ?_
    try simp only [Act.put, List.setIfInBounds_toArray, List.set_cons_zero, List.set_cons_succ]
    refine wpAnyH_ready (rs := [1]) (by kernel_rfl) (by simp) ?_
    refine AllReadyH.cons (o := _) rfl (fun K hK => ?_) AllReadyH.nil
    go_simp
    go_at_call 28
    with_reducible refine HV.out.mono ?_
    rintro e w2 ⟨rfl, hb2⟩
    have HF2 := Lib.hid (HFD.out.keep hb2)
    have HB2 := Lib.hid (below3 HBD.out hb2)
    clear hb2
    refine hK.out _ _ ⟨HF2.out, HF2.out.cell 1⟩ (fun hHeld => ?_)
    clear hK K
    try simp only [Act.put, List.setIfInBounds_toArray, List.set_cons_zero, List.set_cons_succ]
    refine take_in (i := 2) _ (some 7) (by kernel_rfl) (by kernel_rfl) (by kernel_rfl) (by kernel_rfl) (fun _ _ _ h => h) (by rfl) (fun o ho w hSw => by cases ho; (try dsimp only at hSw); (try go_split_ands); go_simp; (try with_reducible rfl)) hHeld ?_
    try simp only [Act.put, List.setIfInBounds_toArray, List.set_cons_zero, List.set_cons_succ]
    refine take_un (i := 3) (some 8) (by kernel_rfl) (by kernel_rfl) (by kernel_rfl) (by kernel_rfl) (fun _ _ _ h => h) (by rfl) hHeld ?_
    try simp only [Act.put, List.setIfInBounds_toArray, List.set_cons_zero, List.set_cons_succ]
    refine take_un (i := 4) (some 9) (by kernel_rfl) (by kernel_rfl) (by kernel_rfl) (by kernel_rfl) (fun _ _ _ h => h) (by rfl) hHeld ?_
    try simp only [Act.put, List.setIfInBounds_toArray, List.set_cons_zero, List.set_cons_succ]
    refine take_un (i := 5) (some 10) (by kernel_rfl) (by kernel_rfl) (by kernel_rfl) (by kernel_rfl) (fun _ _ _ h => h) (by rfl) hHeld ?_
    try simp only [Act.put, List.setIfInBounds_toArray, List.set_cons_zero, List.set_cons_succ]
    refine take_un (i := 6) (some 11) (by kernel_rfl) (by kernel_rfl) (by kernel_rfl) (by kernel_rfl) (fun _ _ _ h => h) (by rfl) hHeld ?_
    try simp only [Act.put, List.setIfInBounds_toArray, List.set_cons_zero, List.set_cons_succ]
    refine take_un (i := 7) (some 12) (by kernel_rfl) (by kernel_rfl) (by kernel_rfl) (by kernel_rfl) (fun _ _ _ h => h) (by rfl) hHeld ?_
    try simp only [Act.put, List.setIfInBounds_toArray, List.set_cons_zero, List.set_cons_succ]
    refine take_un (i := 8) (some 13) (by kernel_rfl) (by kernel_rfl) (by kernel_rfl) (by kernel_rfl) (fun _ _ _ h => h) (by rfl) hHeld ?_
    try simp only [Act.put, List.setIfInBounds_toArray, List.set_cons_zero, List.set_cons_succ]
    refine take_in (i := 9) _ (some 14) (by kernel_rfl) (by kernel_rfl) (by kernel_rfl) (by kernel_rfl) (fun _ _ _ h => h) (by rfl) (fun o ho w hSw => by cases ho; (try dsimp only at hSw); (try go_split_ands); go_simp; (try with_reducible rfl)) hHeld ?_
    try simp only [Act.put, List.setIfInBounds_toArray, List.set_cons_zero, List.set_cons_succ]
    refine take_in (i := 10) _ (some 4) (by kernel_rfl) (by kernel_rfl) (by kernel_rfl) (by kernel_rfl) (fun _ _ _ h => h) (by rfl) (fun o ho w hSw => by cases ho; (try dsimp only at hSw); (try go_split_ands); go_simp; (try with_reducible rfl)) hHeld ?_
    try simp only [Act.put, List.setIfInBounds_toArray, List.set_cons_zero, List.set_cons_succ]
    refine wpAnyH_done (by kernel_rfl) ?_ _
    refine NoPanic.normal ?_
    go_wp2
    go_ret
    exact ⟨by rw [HF.out]; rfl, HB2.out⟩
  rw [hv] at HV
  obtain ⟨h0, h32, hk⟩ := valid_parts hv
  obtain ⟨k, rfl⟩ : ∃ k : Nat, l = k := ⟨l.toNat, by omega⟩
  have HM : Hid (∀ W, Calls Tryz.prog 70 #[.int .u32 a, .int .i64 k] W fun e w' => e = .returned (.agg #[.int .u32 (keepN a k), .int .i64 k]) ∧ Below W.heap.size W w') := fun W => refMake_any a k W ha (by omega)
  obtain ⟨m, hm⟩ : ∃ m, keepN a k = m := ⟨_, rfl⟩
  rw [hm] at HM
  obtain ⟨eb, heb⟩ : ∃ eb, ((m : Int) == (pa : Int)) = eb := ⟨_, rfl⟩
  have HF : Hid (inP pa k a = eb) := by
    show _ = _
    unfold inP
    rw [hv, Bool.true_and, Int.toNat_natCast, hm, ← heb]
    by_cases h : m = pa
    · rw [h]; simp
    · rw [decide_eq_false h]
      have : ¬ (m : Int) = (pa : Int) := by omega
      simp [this]
  clear hv hm hk
  cases eb
  all_goals
    go_enter Tryz.func36, Tryz.ntmps36
    go_upto_region 1 with fail
    try rw [hw1]
    refine wp_region_noPanic ?_
    refine wp_region_held_drew (S := fun V => Blk V w.heap.size 65 [.int .u32 pa, .int .i64 k] ∧ V.cell? ⟨w.heap.size, 1, none⟩ = some (.int .i64 k)) (by kernel_rfl) (by rw [hwD]; exact ⟨HFD.out, HFD.out.cell 1⟩) (fun hHeld => ?_)
    rw [hwD] at hHeld ⊢
    clear hwD hw1
    refine take_in (i := 0) _ (some 5) (by kernel_rfl) (by kernel_rfl) (by kernel_rfl) (by kernel_rfl) (fun _ _ _ h => h) (by rfl) (fun o ho w hSw => by cases ho; exact run_load_blk _ _ rfl _ rfl (hSw.1) _ Tryz.underlying65 rfl (by kernel_rfl)) hHeld ?_
    try simp only [Act.put, List.setIfInBounds_toArray, List.set_cons_zero, List.set_cons_succ]
    refine wpAnyH_ready (rs := [1]) (by kernel_rfl) (by simp) ?_
    refine AllReadyH.cons (o := _) rfl (fun K hK => ?_) AllReadyH.nil
    go_simp
    go_at_call 28
    with_reducible refine HV.out.mono ?_
    rintro e w2 ⟨rfl, hb2⟩
    have HF2 := Lib.hid (HFD.out.keep hb2)
    have HB2 := Lib.hid (below3 HBD.out hb2)
    have HM2 := Lib.hid (HM.out w2)
    clear hb2
    refine hK.out _ _ ⟨HF2.out, HF2.out.cell 1⟩ (fun hHeld => ?_)
    clear hK K
    try simp only [Act.put, List.setIfInBounds_toArray, List.set_cons_zero, List.set_cons_succ]
    refine take_in (i := 2) _ (some 7) (by kernel_rfl) (by kernel_rfl) (by kernel_rfl) (by kernel_rfl) (fun _ _ _ h => h) (by rfl) (fun o ho w hSw => by cases ho; (try dsimp only at hSw); (try go_split_ands); go_simp; (try with_reducible rfl)) hHeld ?_
    try simp only [Act.put, List.setIfInBounds_toArray, List.set_cons_zero, List.set_cons_succ]
    refine take_in (i := 3) _ (some 8) (by kernel_rfl) (by kernel_rfl) (by kernel_rfl) (by kernel_rfl) (fun _ _ _ h => h) (by rfl) (fun o ho w hSw => by cases ho; (try dsimp only at hSw); (try go_split_ands); go_simp; (try with_reducible rfl)) hHeld ?_
    try simp only [Act.put, List.setIfInBounds_toArray, List.set_cons_zero, List.set_cons_succ]
    refine take_in (i := 4) _ (some 9) (by kernel_rfl) (by kernel_rfl) (by kernel_rfl) (by kernel_rfl) (fun _ _ _ h => h) (by rfl) (fun o ho w hSw => by cases ho; (try dsimp only at hSw); (try go_split_ands); go_simp; (try with_reducible rfl)) hHeld ?_
    try simp only [Act.put, List.setIfInBounds_toArray, List.set_cons_zero, List.set_cons_succ]
    refine take_in (i := 5) _ (some 10) (by kernel_rfl) (by kernel_rfl) (by kernel_rfl) (by kernel_rfl) (fun _ _ _ h => h) (by rfl) (fun o ho w hSw => by cases ho; (try dsimp only at hSw); (try go_split_ands); go_simp; (try with_reducible rfl)) hHeld ?_
    try simp only [Act.put, List.setIfInBounds_toArray, List.set_cons_zero, List.set_cons_succ]
    refine take_in (i := 7) _ (some 12) (by kernel_rfl) (by kernel_rfl) (by kernel_rfl) (by kernel_rfl) (fun _ _ _ h => h) (by rfl) (fun o ho w hSw => by cases ho; exact run_load_blk _ _ rfl _ rfl (hSw.1) _ Tryz.underlying65 rfl (by kernel_rfl)) hHeld ?_
    try simp only [Act.put, List.setIfInBounds_toArray, List.set_cons_zero, List.set_cons_succ]
    refine wpAnyH_ready (rs := [6]) (by kernel_rfl) (by simp) ?_
    refine AllReadyH.cons (o := _) rfl (fun K hK => ?_) AllReadyH.nil
    go_simp
    go_at_call 70
    with_reducible refine HM2.out.mono ?_
    rintro e w3 ⟨rfl, hb3⟩
    have HF3 := Lib.hid (HF2.out.keep hb3)
    have HB3 := Lib.hid (below3 HB2.out hb3)
    clear hb3
    refine hK.out _ _ ⟨HF3.out, HF3.out.cell 1⟩ (fun hHeld => ?_)
    clear hK K
    try simp only [Act.put, List.setIfInBounds_toArray, List.set_cons_zero, List.set_cons_succ]
    refine take_in (i := 8) _ (some 13) (by kernel_rfl) (by kernel_rfl) (by kernel_rfl) (by kernel_rfl) (fun _ _ _ h => h) (by rfl) (fun o ho w hSw => by cases ho; (try dsimp only at hSw); (try go_split_ands); go_simp; (try with_reducible rfl)) hHeld ?_
    try simp only [Act.put, List.setIfInBounds_toArray, List.set_cons_zero, List.set_cons_succ]
    refine take_in (i := 9) _ (some 14) (by kernel_rfl) (by kernel_rfl) (by kernel_rfl) (by kernel_rfl) (fun _ _ _ h => h) (by rfl) (fun o ho w hSw => by cases ho; (try dsimp only at hSw); (try go_split_ands); go_simp; (try with_reducible rfl)) hHeld ?_
    try simp only [Act.put, List.setIfInBounds_toArray, List.set_cons_zero, List.set_cons_succ]
    refine take_in (i := 10) _ (some 4) (by kernel_rfl) (by kernel_rfl) (by kernel_rfl) (by kernel_rfl) (fun _ _ _ h => h) (by rfl) (fun o ho w hSw => by cases ho; (try dsimp only at hSw); (try go_split_ands); go_simp; (try with_reducible rfl)) hHeld ?_
    try simp only [Act.put, List.setIfInBounds_toArray, List.set_cons_zero, List.set_cons_succ]
    refine wpAnyH_done (by kernel_rfl) ?_ _
    refine NoPanic.normal ?_
    go_wp2
    go_ret
    exact ⟨by rw [HF.out]; rfl, HB3.out⟩
end Go.Proofs.YtplppbgkkfjknaaGreatDoor
namespace Go.Proofs.YtplppbgkkfjknaaGreatDoor
open Go.RowKit

set_option linter.unusedVariables false
set_option linter.unusedSimpArgs false
/-- each row is its route's, and its group has the text of its route's group -/
structure RowsOK (ks : List BK) (os : List LO) (rs : List RT) (q : List (Int × List PV) × List Ent) : Prop where
  len : q.2.length = rs.length
  row : ∀ (i : Nat) (r : RT), rs[i]? = some r → ∃ k : Nat, q.2[i]? = some ⟨r.a, r.l, (k : Int)⟩ ∧ q.1[k]?.map keyD = some (keyD (grpD ks os r))
theorem rows_ok (ks : List BK) (os : List LO) (rs : List RT) : ∀ k, k ≤ rs.length → RowsOK ks os (rs.take k) (buildS ks os (rs.take k))
  | 0, _ => ⟨rfl, fun i r h => by simp at h⟩
  | k + 1, hk => by
    have ih := rows_ok ks os rs k (by omega)
    have hr : rs[k]? = some rs[k] := List.getElem?_eq_getElem (by omega)
    obtain ⟨r, hre⟩ : ∃ r, rs[k] = r := ⟨_, rfl⟩
    rw [hre] at hr
    rw [buildS_take hr]
    have hok := buildS_ok ks os (rs.take k)
    obtain ⟨q, hq⟩ : ∃ q, buildS ks os (rs.take k) = q := ⟨_, rfl⟩
    rw [hq] at ih hok ⊢
    obtain ⟨h1, h2, h3, h4, h5, h6⟩ := numD_ok q.1 (grpD ks os r) hok.nodup
    have hlk : (rs.take k).length = k := by rw [List.length_take]; omega
    refine ⟨?_, fun i x hx => ?_⟩
    · show (q.2 ++ [_]).length = _
      rw [List.length_append, ih.len, List.length_take, List.length_take, List.length_singleton]
      omega
    · rcases Nat.lt_or_ge i k with hik | hik
      · have hx2 : (rs.take k)[i]? = some x := by
          rw [List.getElem?_take_of_lt hik]
          rw [List.getElem?_take_of_lt (by omega)] at hx
          exact hx
        obtain ⟨m, g1, g2⟩ := ih.row i x hx2
        refine ⟨m, ?_, ?_⟩
        · show (q.2 ++ [_])[i]? = _
          rw [List.getElem?_append_left (by rw [ih.len, hlk]; exact hik)]
          exact g1
        · have hm : m < q.1.length := by
            cases e : q.1[m]? with
            | none => rw [e] at g2; cases g2
            | some y => exact (List.getElem?_eq_some_iff.1 e).1
          show (numD q.1 (grpD ks os r)).1[m]?.map keyD = _
          rw [h6 m hm]
          exact g2
      · have hik2 : i = k := by
          have : i < (rs.take (k + 1)).length := (List.getElem?_eq_some_iff.1 hx).1
          rw [List.length_take] at this
          omega
        subst hik2
        rw [List.getElem?_take_of_lt (by omega), hr] at hx
        obtain rfl := Option.some.inj hx
        refine ⟨(numD q.1 (grpD ks os r)).2, ?_, h5⟩
        show (q.2 ++ [_])[i]? = _
        rw [List.getElem?_append_right (by rw [ih.len, hlk]; exact Nat.le_refl _), ih.len, hlk, Nat.sub_self]
        rfl
theorem rows_all (ks : List BK) (os : List LO) (rs : List RT) : RowsOK ks os rs (buildS ks os rs) := by
  have := rows_ok ks os rs rs.length (Nat.le_refl _)
  rw [List.take_length] at this
  exact this
def preR (r : RT) : Nat × Int := (r.a, r.l)
theorem pre_rows {ks : List BK} {os : List LO} {rs : List RT} {q : List (Int × List PV) × List Ent} (h : RowsOK ks os rs q) : q.2.map pre = rs.map preR := by
  refine List.ext_getElem? fun i => ?_
  rw [List.getElem?_map, List.getElem?_map]
  cases e : rs[i]? with
  | none =>
    have : rs.length ≤ i := List.getElem?_eq_none_iff.1 e
    rw [List.getElem?_eq_none_iff.2 (by rw [h.len]; exact this)]
    rfl
  | some r =>
    obtain ⟨k, h1, _⟩ := h.row i r e
    rw [h1]
    rfl
/-- the path of a hop -/
def HopP (h : XH) (p : PV) : Prop := p.iface = h.iface ∧ p.addr = h.addr ∧ p.router = h.router ∧ p.weight = h.weight
theorem grpTo_hop (ks : List BK) (os : List LO) (hs : List XH) : ∀ (k j : Nat) (h : XH), hs[j]? = some h → ∃ p, (grpTo ks os hs k)[j]? = some p ∧ HopP h p
  | 0, j, h, hj => ⟨pathOf os h, by rw [grpTo, List.getElem?_map, hj]; rfl, rfl, rfl, rfl, rfl⟩
  | k + 1, j, h, hj => by
    obtain ⟨p, h1, h2⟩ := grpTo_hop ks os hs k j h hj
    have hjl := (List.getElem?_eq_some_iff.1 h1).1
    rw [grpTo]
    unfold addBack
    split
    · split
      · exact ⟨p, h1, h2⟩
      · by_cases hjk : j = k
        · subst hjk
          refine ⟨_, by rw [List.getElem?_append_left (by rw [List.length_set]; exact hjl), List.getElem?_set_self hjl], ?_⟩
          rw [h1]
          exact h2
        · refine ⟨p, ?_, h2⟩
          rw [List.getElem?_append_left (by rw [List.length_set]; exact hjl), List.getElem?_set_ne (by omega)]
          exact h1
    · exact ⟨p, h1, h2⟩
/-- the group of a route, in a table -/
structure GrpOf (r : RT) (g : GE) : Prop where
  act : g.act = r.n
  len : r.hs.length ≤ g.ps.length
  hop : ∀ (j : Nat) (h : XH), r.hs[j]? = some h → ∃ p, g.ps[j]? = some p ∧ HopP h p
theorem grp_of {ks : List BK} {os : List LO} {r : RT} {g : GE} (h : keyD g.dat = keyD (grpD ks os r)) : GrpOf r g := by
  obtain ⟨h1, h2⟩ := text_inj h
  have h3 : g.ps.map PV.dat = (groupR ks os r.hs).map PV.dat := by
    refine List.ext_getElem? fun i => ?_
    have h4 : (g.dat.2.map keyP)[i]? = ((grpD ks os r).2.map keyP)[i]? := by rw [h2]
    have h5 : ((grpD ks os r).2.map keyP)[i]? = ((groupR ks os r.hs)[i]?).map keyP := List.getElem?_map ..
    have h6 : (g.dat.2.map keyP)[i]? = ((g.ps[i]?).map PV.dat).map keyP := by
      show ((g.ps.map PV.dat).map keyP)[i]? = _
      rw [List.getElem?_map, List.getElem?_map]
    rw [h5, h6] at h4
    rw [List.getElem?_map, List.getElem?_map]
    cases e1 : g.ps[i]? with
    | none =>
      rw [e1] at h4
      cases e2 : (groupR ks os r.hs)[i]? with
      | none => rfl
      | some y => rw [e2] at h4; cases h4
    | some x =>
      rw [e1] at h4
      cases e2 : (groupR ks os r.hs)[i]? with
      | none => rw [e2] at h4; cases h4
      | some y =>
        rw [e2] at h4
        have h7 := keyP_dat (Option.some.inj h4)
        rw [dat_dat] at h7
        exact congrArg some h7
  refine ⟨h1, ?_, fun j h hj => ?_⟩
  · have h4 := congrArg List.length h3
    rw [List.length_map, List.length_map] at h4
    have := (grpTo_len ks os r.hs r.hs.length).1
    rw [h4]
    exact this
  · obtain ⟨p, h4, h5⟩ := grpTo_hop ks os r.hs r.hs.length j h hj
    have h6 : (g.ps.map PV.dat)[j]? = some p.dat := by
      rw [h3, List.getElem?_map]
      show ((grpTo ks os r.hs r.hs.length)[j]?).map PV.dat = _
      rw [h4]
      rfl
    rw [List.getElem?_map] at h6
    cases e : g.ps[j]? with
    | none => rw [e] at h6; cases h6
    | some q =>
      rw [e] at h6
      have h7 : q.dat = p.dat := Option.some.inj h6
      have a1 : q.iface = p.iface := by have h8 : q.dat.iface = p.dat.iface := congrArg PV.iface h7; exact h8
      have a2 : q.addr = p.addr := by have h8 : q.dat.addr = p.dat.addr := congrArg PV.addr h7; exact h8
      have a3 : q.router = p.router := by have h8 : q.dat.router = p.dat.router := congrArg PV.router h7; exact h8
      have a4 : q.weight = p.weight := by have h8 : q.dat.weight = p.dat.weight := congrArg PV.weight h7; exact h8
      exact ⟨q, rfl, a1.trans h5.1, a2.trans h5.2.1, a3.trans h5.2.2.1, a4.trans h5.2.2.2⟩
/-- a built table's answer is the route with the longest prefix -/
theorem tab_law {ks : List BK} {os : List LO} {rs : List RT} {gs : List GE} {ls : List Int} {bs : List EV} {ns : List NH} {a : Nat} (hg : gs.map GE.dat = (buildS ks os rs).1) (hz : fibErr (buildS ks os rs).2 gs ls bs ns = 0) (hr : ∀ r ∈ rs, r.a < 4294967296) (ha : a < 4294967296) :
    (buildS ks os rs).2.length = rs.length ∧ ((bestTo (rs.map preR) a rs.length = -1 ∧ lookG (buildS ks os rs).2 gs a = none) ∨ ∃ (i : Nat) (r : RT) (g : GE), bestTo (rs.map preR) a rs.length = i ∧ i < rs.length ∧ rs[i]? = some r ∧ lookG (buildS ks os rs).2 gs a = some g ∧ g ∈ gs ∧ GrpOf r g) := by
  have hok := rows_all ks os rs
  obtain ⟨Q, hQ⟩ : ∃ Q, buildS ks os rs = Q := ⟨_, rfl⟩
  rw [hQ] at hok hg hz ⊢
  have hp := pre_rows hok
  have hz2 : rowsErr gs.length Q.2 = 0 := by
    unfold fibErr orE at hz
    by_cases h : rowsErr gs.length Q.2 = 0
    · exact h
    · simp [h] at hz
  have hea : ∀ e ∈ Q.2, e.a < 4294967296 := by
    intro e he
    have h1 : pre e ∈ Q.2.map pre := List.mem_map_of_mem he
    rw [hp] at h1
    obtain ⟨r, h2, h3⟩ := List.mem_map.1 h1
    have h4 : r.a = e.a := congrArg Prod.fst h3
    rw [← h4]
    exact hr r h2
  obtain ⟨h1, h2⟩ := rows1_of hz2 hea
  have h3 := rowFor_best h1 ha
  rw [hp, hok.len] at h3
  refine ⟨hok.len, ?_⟩
  rcases bestTo_spec (rs.map preR) a rs.length with ⟨h4, _⟩ | ⟨i, h4, h5, _, _⟩
  · refine .inl ⟨h4, ?_⟩
    rw [h4, if_pos (by omega)] at h3
    unfold lookG
    rw [h3]
    rfl
  · right
    have hri : rs[i]? = some rs[i] := List.getElem?_eq_getElem h4
    obtain ⟨k, g1, g2⟩ := hok.row i rs[i] hri
    rw [h5, if_neg (by omega), Int.toNat_natCast, g1] at h3
    rw [← hg, List.getElem?_map, Option.map_map] at g2
    cases e : gs[k]? with
    | none => rw [e] at g2; cases g2
    | some g =>
      rw [e] at g2
      refine ⟨i, rs[i], g, h5, h4, hri, ?_, List.mem_of_getElem? e, grp_of (Option.some.inj g2)⟩
      unfold lookG
      rw [h3]
      show (if (k : Int) < 0 then none else gs[(k : Int).toNat]?) = _
      rw [if_neg (by omega), Int.toNat_natCast, e]
theorem hopP_of {r : RT} {g : GE} {qs : List PV} (hgo : GrpOf r g) (hq : qs.map PV.dat = g.ps.map PV.dat) {j : Nat} {h : XH} (hj : r.hs[j]? = some h) {q : PV} (hqj : qs[j]? = some q) : HopP h q := by
  obtain ⟨p, h1, h2⟩ := hgo.hop j h hj
  have h3 : (qs.map PV.dat)[j]? = (g.ps.map PV.dat)[j]? := by rw [hq]
  rw [List.getElem?_map, List.getElem?_map, hqj, h1] at h3
  have h7 : q.dat = p.dat := Option.some.inj h3
  have a1 : q.iface = p.iface := by have h8 : q.dat.iface = p.dat.iface := congrArg PV.iface h7; exact h8
  have a2 : q.addr = p.addr := by have h8 : q.dat.addr = p.dat.addr := congrArg PV.addr h7; exact h8
  have a3 : q.router = p.router := by have h8 : q.dat.router = p.dat.router := congrArg PV.router h7; exact h8
  have a4 : q.weight = p.weight := by have h8 : q.dat.weight = p.dat.weight := congrArg PV.weight h7; exact h8
  exact ⟨a1.trans h2.1, a2.trans h2.2.1, a3.trans h2.2.2.1, a4.trans h2.2.2.2⟩
end Go.Proofs.YtplppbgkkfjknaaGreatDoor
