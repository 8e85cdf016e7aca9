/- insert: a number into an ascending list. -/
import Derived.Test.YteohdanlcaoaiaaDoorParse
import Derived.ArgAppend
namespace Go.Proofs.YteohdanlcaoaiaaDoor
open Go.RowKit

def insR : List Int → Int → List Int
  | [], x => [x]
  | y :: r, x => if y < x then y :: insR r x else if y = x then y :: r else x :: y :: r
theorem insR_hit : ∀ {l : List Int} {k : Nat} {x : Int}, (∀ j, j < k → l.getD j 0 < x) → l[k]? = some x → insR l x = l
  | [], k, x, _, h => by simp at h
  | y :: r, 0, x, _, h => by
    simp only [List.getElem?_cons_zero, Option.some.injEq] at h
    subst h
    rw [insR, if_neg (by omega), if_pos rfl]
  | y :: r, k + 1, x, ha, h => by
    have h0 := ha 0 (by omega)
    simp only [List.getElem?_cons_succ] at h
    rw [insR, if_pos (by simpa using h0), insR_hit (fun j hj => by have := ha (j + 1) (by omega); simpa using this) h]
theorem insR_put : ∀ {l : List Int} {k : Nat} {x : Int}, (∀ j, j < k → l.getD j 0 < x) → k ≤ l.length → (∀ y, l[k]? = some y → x < y) → insR l x = l.take k ++ x :: l.drop k
  | [], k, x, _, hk, _ => by
    obtain rfl : k = 0 := by simpa using hk
    rfl
  | y :: r, 0, x, _, _, h => by
    have := h y rfl
    rw [insR, if_neg (by omega), if_neg (by omega)]
    rfl
  | y :: r, k + 1, x, ha, hk, h => by
    have h0 := ha 0 (by omega)
    rw [insR, if_pos (by simpa using h0), insR_put (l := r) (k := k) (fun j hj => by have := ha (j + 1) (by omega); simpa using this) (by simpa using hk) (fun y hy => h y (by simpa using hy))]
    rfl
theorem insR_len : ∀ (l : List Int) (x : Int), (insR l x).length ≤ l.length + 1
  | [], x => by simp [insR]
  | y :: r, x => by
    have := insR_len r x
    rw [insR]
    split
    · simp only [List.length_cons]; omega
    · split <;> simp only [List.length_cons] <;> omega
theorem insR_mem : ∀ (l : List Int) (x z : Int), z ∈ insR l x ↔ z = x ∨ z ∈ l
  | [], x, z => by simp [insR]
  | y :: r, x, z => by
    have := insR_mem r x z
    rw [insR]
    split
    · rw [List.mem_cons, this, List.mem_cons]
      constructor
      · rintro (h | h | h)
        · exact .inr (.inl h)
        · exact .inl h
        · exact .inr (.inr h)
      · rintro (h | h | h)
        · exact .inr (.inl h)
        · exact .inl h
        · exact .inr (.inr h)
    · split
      · rename_i h1 h2
        subst h2
        simp
      · simp
def Asc (l : List Int) : Prop := l.Pairwise (· < ·)
theorem insR_asc : ∀ (l : List Int) (x : Int), Asc l → Asc (insR l x)
  | [], x, _ => by simp [insR, Asc]
  | y :: r, x, h => by
    have h' : (∀ z ∈ r, y < z) ∧ Asc r := List.pairwise_cons.1 h
    rw [insR]
    split
    · refine List.pairwise_cons.2 ⟨fun z hz => ?_, insR_asc r x h'.2⟩
      rcases (insR_mem r x z).1 hz with rfl | hz
      · assumption
      · exact h'.1 z hz
    · split
      · exact h
      · refine List.pairwise_cons.2 ⟨fun z hz => ?_, h⟩
        rcases List.mem_cons.1 hz with rfl | hz
        · omega
        · have := h'.1 z hz
          omega
/-- append onto a slice without room -/
theorem append_full {w : World} {B B' n m c : Nat} {A A2 : Option Addr} {xs ys : List Int} (h : Ints w B .i64 A n n xs) (h2 : Ints w B' .i64 A2 m c ys) (hm : 0 < m) (hl : n + m ≤ 1000000000) :
    ∃ A' c' w', (Builtin.append_ #[30, 30] 30 #[.slice A n n, .slice A2 m c]).run Tryd.prog w = .ok (.slice A' (n + m) c') w' ∧ Own w' w.heap.size 3 .i64 (.slice A' (n + m) c') (n + m) (xs ++ ys) ∧ Below w.heap.size w w' := by
  cases A with
  | none =>
    have h0 : n = 0 := by
      rcases Nat.eq_zero_or_pos n with h0 | h0
      · exact h0
      · obtain ⟨_, _, e, _⟩ := h.2.2.2 h0
        cases e
    subst h0
    have hx : xs = [] := List.eq_nil_of_length_eq_zero h.len
    subst hx
    obtain ⟨v', w', k1, k2, k3, _⟩ := Ints.append (P := Tryd.prog) (t := 30) (ty := 30) (e := 3) Tryd.underlying30 int_info rfl (Own.nil w w.heap.size 3 .i64) h2 (by simp only [maxLen]; omega) (by omega) (Nat.le_refl _)
    obtain ⟨A', c', rfl⟩ := own_form k2
    exact ⟨A', c', w', k1, k2, (Below.refl _ w).grown k3 (Nat.le_refl _) (fun k hk => by cases hk)⟩
  | some b =>
    obtain ⟨b2, o2, rfl, hb2, hc2⟩ := h2.2.2.2 hm
    obtain ⟨i, hi, hz, hs1, hs2⟩ := info_parts int_info
    obtain ⟨v', w', k1, k2, k3⟩ := run_append_arg_grows (P := Tryd.prog) w 30 30 3 i (.int .i64 0) 1 8 Tryd.underlying30 hi hz hs1 hs2 rfl (by omega) b n n (xs.map (Value.int .i64)) h.2.2.1 (by
      intro j u hu
      have hj : j < n := by
        have := (List.getElem?_eq_some_iff.1 hu).1
        rw [List.length_map, h.len] at this
        exact this
      obtain ⟨b1, o1, e, hb1, hc1⟩ := h.2.2.2 (by omega)
      obtain rfl := Option.some.inj e
      rw [← hu, ← hc1 j (by omega)]
      by_cases h0 : j = 0 <;> simp [Addr.add, h0]) ⟨b2, o2, none⟩ m c (ys.map (Value.int .i64)) h2.2.2.1 (by
      intro j u hu
      have hj : j < m := by
        have := (List.getElem?_eq_some_iff.1 hu).1
        rw [List.length_map, h2.len] at this
        exact this
      rw [← hu, ← hc2 j (by omega)]
      by_cases h0 : j = 0 <;> simp [Addr.add, h0]) (by omega) (by simp only [maxLen]; omega) (by omega)
    obtain ⟨A', c', rfl⟩ := own_form k2
    refine ⟨A', c', w', k1, ?_, (Below.refl _ w).grown k3 (Nat.le_refl _) (fun k hk => by cases hk)⟩
    unfold Own
    rw [List.map_append]
    exact k2
def GivesOwn (base : Nat) (l : List Int) (w : World) (e : Ending) (w' : World) : Prop := ∃ A n c, e = .returned (.slice A n c) ∧ Own w' base 3 .i64 (.slice A n c) n l ∧ Below w.heap.size w w'
set_option linter.unusedSimpArgs false in
set_option maxHeartbeats 4000000 in
theorem insert_any (A : Option Addr) (n c base : Nat) (l : List Int) (x : Int) (w : World) (ho : Own w base 3 .i64 (.slice A n c) n l) (hb : base ≤ w.heap.size) (hn : n ≤ 10000000) :
    Calls Tryd.prog 40 #[.slice A n c, .int .i64 x] w (GivesOwn base (insR l x) w) := by
  have HO := Lib.hid ho
  have HX := Lib.hid ho.ints
  have HL := Lib.hid ho.len
  clear ho
  go_enter Tryd.func40, Tryd.ntmps40
  go_wp2
  go_loop [5] (fun i => ∃ k : Nat, k ≤ n ∧ i = .int .i64 k ∧ Hid (∀ j, j < k → l.getD j 0 < x)) (fun i => n - (intOf i).toNat)
  case atStart => exact ⟨0, Nat.zero_le _, rfl, fun j hj => absurd hj (by omega)⟩
  case round =>
    obtain ⟨k, hk, rfl, hall⟩ := hrel
    by_cases hgo : k < n ∧ l.getD k 0 < x
    case pos =>
      obtain ⟨hlt, hy⟩ := hgo
      obtain ⟨b, o, y, rfl, hbB, g0, hyy⟩ := HX.out.cell hlt
      rw [hyy.out] at hy
      have d1 : decide (y < x) = true := by simp [hy]
      have HN : Hid (∀ j, j < k + 1 → l.getD j 0 < x) := by
        intro j hj
        rcases Nat.lt_or_ge j k with h | h
        · exact hall.out j h
        · obtain rfl : j = k := by omega
          rw [hyy.out]
          exact hy
      clear hy hyy
      go_wp2
      go_round
      case rel => exact ⟨k + 1, by omega, by go_num, HN⟩
      case measure => simp [intOf]; omega
    obtain ⟨A1, hsl, hi1⟩ := HX.out.slice3 (P := Tryd.prog) (T := 30) (E := 3) Tryd.underlying30 (by kernel_rfl) (hi := k) hk
    obtain ⟨A2, c2, hsf, hi2⟩ := HX.out.sliceFrom (P := Tryd.prog) (T := 30) (E := 3) Tryd.underlying30 (by kernel_rfl) (lo := k) hk
    have HI1 := Lib.hid hi1
    have HI2 := Lib.hid hi2
    clear hi1 hi2
    have hkI : (k : Int) ≤ (n : Int) := by omega
    by_cases hlt : k < n
    case' pos =>
      obtain ⟨b, o, y, rfl, hbB, g0, hyy⟩ := HX.out.cell hlt
      have hget : l[k]? = some y := by
        have h1 := hyy.out
        have h2 : k < l.length := by rw [HL.out]; exact hlt
        rw [List.getD_eq_getElem?_getD, List.getElem?_eq_getElem h2] at h1
        rw [List.getElem?_eq_getElem h2]
        exact congrArg some h1
      have hyx : ¬ y < x := fun h => hgo ⟨hlt, by rw [hyy.out]; exact h⟩
      have d1 : decide (y < x) = false := by simp; omega
      by_cases hye : y = x
      case pos =>
        subst hye
        have HF : Hid (insR l y = l) := insR_hit hall.out hget
        have d2 : (y == y) = true := by simp
        clear hyy hget hyx hgo
        go_wp2
        go_ret
        rw [HF.out]
        exact ⟨_, n, c, rfl, HO.out, Below.refl _ _⟩
      have d2 : (y == x) = false := by simp [hye]
      have HF : Hid (insR l x = l.take k ++ x :: l.drop k) := insR_put hall.out (by rw [HL.out]; exact hk) (fun z hz => by
        rw [hget] at hz
        obtain rfl := Option.some.inj hz
        omega)
      clear hyy hget hyx hgo hye
    case' neg =>
      have hnl : ¬ (k : Int) < (n : Int) := by omega
      have HF : Hid (insR l x = l.take k ++ x :: l.drop k) := insR_put hall.out (by rw [HL.out]; exact hk) (fun z hz => by
        have := (List.getElem?_eq_some_iff.1 hz).1
        have := HL.out
        omega)
      clear hgo
    all_goals
      have hdW : Below w.heap.size w w.drew := (Below.refl _ _).drew
      have hb1 : Below w.heap.size w (w.drew.alloc (.cells #[.int .i64 x] 3)) := hdW.alloc (Nat.le_refl _) _
      obtain ⟨W1, hW1⟩ : ∃ W, w.drew.alloc (.cells #[.int .i64 x] 3) = W := ⟨_, rfl⟩
      have hown : Own W1 w.heap.size 3 .i64 (.slice (some ⟨w.heap.size, 0, none⟩) 1 1) 1 [x] := by
        rw [← hW1]
        exact World.ownsRow_lit (base := w.heap.size) (size := 1) w.drew #[.int .i64 x] 1 (Nat.le_refl _) (by simp [maxLen]) rfl
      rw [hW1] at hb1
      obtain ⟨A3, c3, w3, hr3, ho3, hb3⟩ := push_ints hown (HI2.out.below hb1) hb1.size (by omega)
      have hb13 : Below w.heap.size w w3 := hb1.trans hb3
      obtain ⟨A4, c4, w4, hr4, ho4, hb4⟩ := append_full (HI1.out.below hb13) ho3.ints (by omega) (by omega)
      have HF4 : Hid (Own w4 base 3 .i64 (.slice A4 (k + (1 + (n - k))) c4) (k + (1 + (n - k))) (insR l x)) := by show Own _ _ _ _ _ _ _; rw [HF.out]; exact own_mono ho4 (Nat.le_trans hb hb13.size)
      have HB4 := Lib.hid (below3 hb13 hb4)
      rw [← hW1] at hr3
      have HR3 := Lib.hid hr3
      have HR4 := Lib.hid hr4
      have HW1 := Lib.hid hW1
      clear hdW hb1 hown hr3 ho3 hb3 hb13 hr4 ho4 hb4
      clear hW1
      go_wp2_with fail
      refine wp_region_noPanic ?_
      refine wp_region_held_drew (S := fun _ => True) (by kernel_rfl) trivial (fun hHeld => ?_)
      refine take_in (i := 0) _ (some 33) (by kernel_rfl) (by kernel_rfl) (by kernel_rfl) (by kernel_rfl) (fun _ _ _ h => h) (by rfl) (fun o ho w hSw => by cases ho; go_simp; (try with_reducible rfl)) trivial ?_
      try simp only [Act.put, List.setIfInBounds_toArray, List.set_cons_zero, List.set_cons_succ]
      refine take_in (i := 1) _ (some 34) (by kernel_rfl) (by kernel_rfl) (by kernel_rfl) (by kernel_rfl) (fun _ _ _ h => h) (by rfl) (fun o ho w hSw => by cases ho; go_simp; (try with_reducible rfl)) trivial ?_
      try simp only [Act.put, List.setIfInBounds_toArray, List.set_cons_zero, List.set_cons_succ]
      refine take_in (i := 2) _ (some 35) (by kernel_rfl) (by kernel_rfl) (by kernel_rfl) (by kernel_rfl) (fun _ _ _ h => h) (by rfl) (fun o ho w hSw => by cases ho; go_simp; (try with_reducible rfl)) trivial ?_
      try simp only [Act.put, List.setIfInBounds_toArray, List.set_cons_zero, List.set_cons_succ]
      refine take_in (i := 3) _ (some 36) (by kernel_rfl) (by kernel_rfl) (by kernel_rfl) (by kernel_rfl) (fun _ _ _ h => h) (by rfl) (fun o ho w hSw => by cases ho; go_simp; (try with_reducible rfl)) trivial ?_
      try simp only [Act.put, List.setIfInBounds_toArray, List.set_cons_zero, List.set_cons_succ]
      refine take_in (i := 4) _ (some 37) (by kernel_rfl) (by kernel_rfl) (by kernel_rfl) (by kernel_rfl) (fun _ _ _ h => h) (by rfl) (fun o ho w hSw => by cases ho; go_simp; (try with_reducible rfl)) trivial ?_
      try simp only [Act.put, List.setIfInBounds_toArray, List.set_cons_zero, List.set_cons_succ]
      refine take_in (i := 6) _ (some 39) (by kernel_rfl) (by kernel_rfl) (by kernel_rfl) (by kernel_rfl) (fun _ _ _ h => h) (by rfl) (fun o ho w hSw => by cases ho; go_simp; (try with_reducible rfl)) trivial ?_
      try simp only [Act.put, List.setIfInBounds_toArray, List.set_cons_zero, List.set_cons_succ]
      refine take_in (i := 7) _ (some 40) (by kernel_rfl) (by kernel_rfl) (by kernel_rfl) (by kernel_rfl) (fun _ _ _ h => h) (by rfl) (fun o ho w hSw => by cases ho; go_simp; (try with_reducible rfl)) trivial ?_
      try simp only [Act.put, List.setIfInBounds_toArray, List.set_cons_zero, List.set_cons_succ]
      refine take_in (i := 8) _ (some 41) (by kernel_rfl) (by kernel_rfl) (by kernel_rfl) (by kernel_rfl) (fun _ _ _ h => h) (by rfl) (fun o ho w hSw => by cases ho; go_simp; (try with_reducible rfl)) trivial ?_
      try simp only [Act.put, List.setIfInBounds_toArray, List.set_cons_zero, List.set_cons_succ]
      refine wpAnyH_ready (rs := [5]) (by kernel_rfl) (by simp) ?_
      refine AllReadyH.cons (o := _) rfl (fun K hK => ?_) AllReadyH.nil
      go_simp
      refine hK.out _ _ trivial (fun _ => ?_)
      clear hK K
      try simp only [Act.put, List.setIfInBounds_toArray, List.set_cons_zero, List.set_cons_succ]
      refine wpAnyH_ready (rs := [9]) (by kernel_rfl) (by simp) ?_
      refine AllReadyH.cons (o := _) rfl (fun K hK => ?_) AllReadyH.nil
      refine step_append_at (some 42) (by rfl) (by rfl) _ _ _ (by rfl) (by rfl) (by rfl) HR3.out ?_
      refine hK.out _ _ trivial (fun _ => ?_)
      clear hK K
      try simp only [Act.put, List.setIfInBounds_toArray, List.set_cons_zero, List.set_cons_succ]
      refine wpAnyH_ready (rs := [10]) (by kernel_rfl) (by simp) ?_
      refine AllReadyH.cons (o := _) rfl (fun K hK => ?_) AllReadyH.nil
      refine step_append_at (some 43) (by rfl) (by rfl) _ _ _ (by rfl) (by rfl) (by rfl) HR4.out ?_
      refine hK.out _ _ trivial (fun _ => ?_)
      clear hK K
      try simp only [Act.put, List.setIfInBounds_toArray, List.set_cons_zero, List.set_cons_succ]
      refine take_in (i := 11) _ (some 4) (by kernel_rfl) (by kernel_rfl) (by kernel_rfl) (by kernel_rfl) (fun _ _ _ h => h) (by rfl) (fun o ho w hSw => by cases ho; go_simp; (try with_reducible rfl)) trivial ?_
      try simp only [Act.put, List.setIfInBounds_toArray, List.set_cons_zero, List.set_cons_succ]
      refine wpAnyH_done (by kernel_rfl) ?_ _
      refine NoPanic.normal ?_
      go_wp2_with fail
      go_ret
      exact ⟨A4, _, c4, rfl, HF4.out, HB4.out⟩
end Go.Proofs.YteohdanlcaoaiaaDoor
