/- slices.Grow of nil and slices.Concat, for lists of numbers. -/
import Derived.Test.YtkgfcekcjehkdaaLists
namespace Go.Proofs.Ytkgfcekcjehkdaa
open Go.RowKit

/-- append(nil, make([]T, n)...) as the translation has it: n zeros -/
theorem run_append_zeros {P : Program} (w : World) (t u ty e : TypeId) (i : TypeInfo) (z : Value) (k : IntKind) (ht : P.underlying t = some (.slice e)) (hu : P.underlying u = some (.int k)) (hi : P.info? e = some i) (hz : i.zero = some z) (hsz : 0 < i.size)
    (n : Nat) (h0 : 0 < n) (h63 : (n : Int) ≤ 9223372036854775807) (h48 : n * i.bytes ≤ 281474976710656) :
    (Builtin.append_ #[t, u] ty #[.slice none 0 0, .int .i64 (n : Int)]).run P w =
      .ok (.slice (some ⟨w.heap.size, 0, none⟩) n (grownCap w n 0 e)) (w.drew.alloc (.cells (Builtin.zeroCells z.cells n ++ Builtin.zeroCells z.cells (grownCap w n 0 e - n)) e)) := by
  have hn : n ≠ 0 := by omega
  have h63' : ¬ (9223372036854775807 < (n : Int)) := by omega
  have h48' : ¬ (281474976710656 < Builtin.nextslicecap n 0 * i.bytes) := by rw [nextslicecap_zero h0]; omega
  have hw : IntKind.i64.wrap (n : Int) = n := IntWalk.i64_in _ (by omega)
  have hneg : ¬ ((n : Int) < 0) := by omega
  have hb : ¬ (281474976710656 < (n : Int) * (i.bytes : Int)) := by
    have : ((n * i.bytes : Nat) : Int) ≤ 281474976710656 := by omega
    rw [Int.natCast_mul] at this
    omega
  have hne : ¬ (n * i.size = 0) := by
    intro h
    rcases Nat.mul_eq_zero.1 h with h | h <;> omega
  simp [Builtin.append_, run_underlying ht, run_underlying hu, sizeOf, typeInfo, zeroValue, hi, hz, asInt, asIntOf, hw, hneg, hb, hn, h63', h48', hne, Question.forced, run_firstCells_none, newRow, grownCap]

/-- at an append whose run is known, of a source of another type -/
theorem wpList_append_run2 {P : Program} {w : World} {ops : Array Oper} {rest : List Oper} {o : Oper} {a : Act} {Q : Exit → Act → World → Prop} (hgd : o.guard = none) (s x : Operand) (t u : TypeId)
    (ho : o.op = .call { callee := .builtin .append, args := #[s, x], argTypes := #[t, u] }) {v xv v' : Value} {w' : World} (hs : a.eval s = v) (hx : a.eval x = xv)
    (hr : (Builtin.append_ #[t, u] o.type #[v, xv]).run P w = .ok v' w') (h : wpList P ops Q rest (a.put o.dst v') w') : wpList P ops Q (o :: rest) a w := by
  refine wpList_plain hgd fun K hK => ?_
  unfold Oper.wp execOp
  simp only [ho, resolve, invoke, builtin, Sem.run_bind, Sem.run_pure, Result.andThen_ok, List.map_toArray, List.map_cons, List.map_nil, hs, hx, hr]
  exact hK _ _ h
set_option maxHeartbeats 400000 in
theorem growI_any (n : Nat) (w : World) (hn : n ≤ 17592186044416) :
    Calls Try.prog 32 #[.slice none 0 0, .int .i64 n] w fun e w' => ∃ A c, e = .returned (.slice A 0 c) ∧ Own w' w.heap.size 3 .i64 (.slice A 0 c) 0 [] ∧ Below w.heap.size w w' := by
  obtain ⟨i0, hi0, hz0, hs0, hb0⟩ := info_parts ints_info
  rcases Nat.eq_zero_or_pos n with rfl | h0
  · go_enter Try.func32, Try.ntmps32
    go_wp2
    go_ret
    exact ⟨none, 0, rfl, Own.nil _ _ _ _, Below.refl _ _⟩
  · have hr := run_append_zeros (P := Try.prog) w 25 3 25 3 i0 (.int .i64 0) .i64 Try.underlying25 Try.underlying3 hi0 hz0 (by omega) n h0 (by omega) (by rw [hb0]; omega)
    have hge := grownCap_ge w n 0 3
    have hle := grownCap_le_maxLen w n 0 3 (by simp only [maxLen]; omega)
    obtain ⟨c, hc⟩ : ∃ c, grownCap w n 0 3 = c := ⟨_, rfl⟩
    rw [hc] at hr hge hle
    have hb : Below w.heap.size w (w.drew.alloc (.cells (Builtin.zeroCells (Value.int .i64 0).cells n ++ Builtin.zeroCells (Value.int .i64 0).cells (c - n)) 3)) := (Below.refl _ _).drew.alloc (by simp) _
    have ho : Own (w.drew.alloc (.cells (Builtin.zeroCells (Value.int .i64 0).cells n ++ Builtin.zeroCells (Value.int .i64 0).cells (c - n)) 3)) w.heap.size 3 .i64 (.slice (some ⟨w.heap.size, 0, none⟩) 0 c) 0 [] := by
      refine ⟨rfl, .inr ⟨w.heap.size, c, _, rfl, Nat.le_refl _, heap_alloc_new w.drew _, Nat.zero_le _, hle, ?_, by simp⟩⟩
      simp only [Array.size_append, size_zeroCells, Value.cells]
      simp
      omega
    obtain ⟨W, hW⟩ : ∃ W, w.drew.alloc (.cells (Builtin.zeroCells (Value.int .i64 0).cells n ++ Builtin.zeroCells (Value.int .i64 0).cells (c - n)) 3) = W := ⟨_, rfl⟩
    rw [hW] at hr hb ho
    have HR := Lib.hid hr
    have HB := Lib.hid hb
    have HO := Lib.hid ho
    have hcc : (0 : Int) ≤ (c : Int) := by omega
    clear hr hb ho hW hc
    go_enter Try.func32, Try.ntmps32
    go_wp2_with (at_builtin; refine wpList_append_run2 rfl _ _ _ _ rfl rfl rfl HR.out ?_)
    go_ret
    exact ⟨_, c, rfl, HO.out, HB.out⟩

/-- a list of slices of numbers -/
def PartsI (w : World) (B : Nat) (A : Option Addr) (k kc : Nat) (ps : List Sl) : Prop := Cells w B 1 A k kc (ps.map Sl.val) ∧ ∀ p ∈ ps, Ints w B .i64 p.A p.n p.c p.xs
theorem PartsI.below {w w' : World} {B : Nat} {A : Option Addr} {k kc : Nat} {ps : List Sl} (h : PartsI w B A k kc ps) (hb : Below B w w') : PartsI w' B A k kc ps := ⟨h.1.below hb, fun p hp => (h.2 p hp).below hb⟩
theorem PartsI.get {w : World} {B : Nat} {A : Option Addr} {k kc : Nat} {ps : List Sl} (h : PartsI w B A k kc ps) {j : Nat} (hj : j < k) :
    ∃ b o p, A = some ⟨b, o, none⟩ ∧ b < B ∧ w.cell? ⟨b, o + j, none⟩ = some (.slice p.A p.n p.c) ∧ ps[j]? = some p ∧ Ints w B .i64 p.A p.n p.c p.xs := by
  obtain ⟨⟨_, _, hl, hd⟩, hi⟩ := h
  obtain ⟨b, o, e, hb, hc⟩ := hd (by omega)
  have hj' : j < ps.length := by simp at hl; omega
  refine ⟨b, o, ps[j], e, hb, ?_, List.getElem?_eq_getElem hj', hi _ (List.getElem_mem hj')⟩
  rw [hc j (by omega), List.getElem?_map, List.getElem?_eq_getElem hj']
  rfl
set_option maxHeartbeats 1000000 in
theorem concatI_any (A : Option Addr) (k kc B : Nat) (ps : List Sl) (w : World) (hp : PartsI w B A k kc ps) (hB : B ≤ w.heap.size) (ht : tot ps k ≤ 17592186044416) (hk : k ≤ 1000) :
    Calls Try.prog 22 #[.slice A k kc] w (GivesInts 3 .i64 (tot ps k) (cat ps k) w) := by
  obtain ⟨T, hT⟩ : ∃ T, tot ps k = T := ⟨_, rfl⟩
  rw [hT] at ht
  rw [hT]
  have HT := Lib.hid hT
  clear hT
  go_enter Try.func22, Try.ntmps22
  go_wp2
  go_loop [3, 11] (fun s i => ∃ j : Nat, j ≤ k ∧ i = .int .i64 j ∧ s = .int .i64 (tot ps j)) (fun _ i => k - (intOf i).toNat)
  case atStart => exact ⟨0, Nat.zero_le _, rfl, rfl⟩
  case round =>
    obtain ⟨j, hj, rfl, rfl⟩ := hrel
    have hjt : tot ps j ≤ T := by rw [← HT.out]; exact tot_le hj
    by_cases hlt : j < k
    · obtain ⟨b, o, p, rfl, hbB, hc, hpj, hpi⟩ := hp.get hlt
      have HS : Hid (tot ps (j + 1) = tot ps j + p.n) := tot_succ hpj
      have hj1 : tot ps (j + 1) ≤ T := by rw [← HT.out]; exact tot_le hlt
      rw [HS.out] at hj1
      have hneg : decide (((tot ps j : Int) + (p.n : Int)) < 0) = false := by simp; omega
      clear hp hpj hpi
      go_wp2
      go_round
      case rel => exact ⟨j + 1, by omega, by go_num, int_eq (by rw [HS.out]; omega)⟩
      case measure => simp [intOf]; omega
    · obtain rfl : j = k := by omega
      rw [HT.out]
      have HP := Lib.hid hp
      clear hlt hj hjt hp
      go_wp2_with fail
      refine (growI_any T w ht).mono ?_
      rintro e w1 ⟨A1, c1, rfl, ho1, hb1⟩
      have HB := Lib.hid hb1
      have HO := Lib.hid ho1
      clear ho1 hb1
      go_wp2
      go_loopw [6, 27] (fun v i wr => ∃ q : Nat, q ≤ j ∧ i = .int .i64 q ∧ Hid (Own wr w.heap.size 3 .i64 v (tot ps q) (cat ps q)) ∧ Hid (Below w.heap.size w wr)) (fun _ i _ => j - (intOf i).toNat)
      case atStart => exact ⟨0, Nat.zero_le _, rfl, HO, HB⟩
      case round =>
        obtain ⟨q, hq, rfl, ho, hb⟩ := hrel
        by_cases hlt : q < j
        · obtain ⟨b, o, p, rfl, hbB, hc, hpj, hpi⟩ := (HP.out.below (hb.out.mono hB)).get hlt
          have HS : Hid (tot ps (q + 1) = tot ps q + p.n) := tot_succ hpj
          have HC : Hid (cat ps (q + 1) = cat ps q ++ p.xs) := cat_succ hpj
          have hj1 : tot ps (q + 1) ≤ T := by rw [← HT.out]; exact tot_le hlt
          rw [HS.out] at hj1
          obtain ⟨v2, w2, hrun, ho2, hg2, hor⟩ := Ints.append (P := Try.prog) (t := 25) (ty := 25) Try.underlying25 ints_info rfl ho.out hpi (by simp only [maxLen]; omega) (by omega) hb.out.size
          have HR := Lib.hid hrun
          have HB2 : Hid (Below w.heap.size w w2) := hb.out.grown hg2 hb.out.size (fun k hk => (World.ownsRow.lt ho.out k hk).1)
          have HO2 := Lib.hid ho2
          clear hpj hpi hrun ho2 hg2 HB HO hor
          go_wp2_with (at_builtin; refine wpList_append_run rfl _ _ _ rfl rfl rfl HR.out ?_)
          go_roundw
          case rel => exact ⟨q + 1, by omega, by go_num, by rw [HS.out, HC.out]; exact HO2, HB2⟩
          case measure => simp [intOf]; omega
        · obtain rfl : q = j := by omega
          rw [HT.out] at ho
          obtain ⟨A2, c2, rfl⟩ := own_form ho.out
          clear HB HO
          go_wp2
          go_ret
          exact ⟨_, _, rfl, ho.out, hb.out⟩
/-- two parts -/
theorem concat2 {w : World} {A0 A1 : Option Addr} {n0 c0 n1 c1 B : Nat} {xs ys : List Int} (h0 : Ints w B .i64 A0 n0 c0 xs) (h1 : Ints w B .i64 A1 n1 c1 ys) (hB : B ≤ w.heap.size) (ht : n0 + n1 ≤ 17592186044416) :
    Calls Try.prog 22 #[.slice (some ⟨w.heap.size, 0, none⟩) 2 2] (w.alloc (.cells #[.slice A0 n0 c0, .slice A1 n1 c1] 25)) fun e w' => ∃ A c, e = .returned (.slice A (n0 + n1) c) ∧ Own w' w.heap.size 3 .i64 (.slice A (n0 + n1) c) (n0 + n1) (xs ++ ys) ∧ Below w.heap.size w w' := by
  have hp : PartsI (w.alloc (.cells #[.slice A0 n0 c0, .slice A1 n1 c1] 25)) (w.alloc (.cells #[.slice A0 n0 c0, .slice A1 n1 c1] 25)).heap.size (some ⟨w.heap.size, 0, none⟩) 2 2 [⟨A0, n0, c0, xs⟩, ⟨A1, n1, c1, ys⟩] := by
    refine ⟨Cells.of_own (World.ownsRow_lit (base := w.heap.size) w #[.slice A0 n0 c0, .slice A1 n1 c1] 2 (Nat.le_refl _) (by simp [maxLen]) rfl), fun p hp => ?_⟩
    have hk : ∀ p : Addr, p.block < B → (w.alloc (.cells #[.slice A0 n0 c0, .slice A1 n1 c1] 25)).cell? p = w.cell? p := fun p hp => World.cell?_alloc_lt w _ p (by omega)
    simp only [List.mem_cons, List.not_mem_nil, or_false] at hp
    rcases hp with rfl | rfl
    · exact (h0.keep hk).more (by simp; omega)
    · exact (h1.keep hk).more (by simp; omega)
  have e1 : tot [⟨A0, n0, c0, xs⟩, ⟨A1, n1, c1, ys⟩] 2 = n0 + n1 := by simp [tot]
  have e2 : cat [⟨A0, n0, c0, xs⟩, ⟨A1, n1, c1, ys⟩] 2 = xs ++ ys := by simp [cat]
  have h := concatI_any _ 2 2 _ _ _ hp (Nat.le_refl _) (by rw [e1]; exact ht) (by omega)
  rw [e1, e2] at h
  refine h.mono ?_
  rintro e w' ⟨A, c, he, ho, hb⟩
  exact ⟨A, c, he, own_mono ho (by simp), ((Below.refl w.heap.size w).alloc (Nat.le_refl _) _).trans (hb.mono (by simp))⟩
theorem concat2N {w : World} {A0 A1 : Option Addr} {n0 c0 n1 c1 B N : Nat} {xs ys : List Int} (hN : N = w.heap.size) (h0 : Ints w B .i64 A0 n0 c0 xs) (h1 : Ints w B .i64 A1 n1 c1 ys) (hB : B ≤ w.heap.size) (ht : n0 + n1 ≤ 17592186044416) :
    Calls Try.prog 22 #[.slice (some ⟨N, 0, none⟩) 2 2] (w.alloc (.cells #[.slice A0 n0 c0, .slice A1 n1 c1] 25)) fun e w' => ∃ A c, e = .returned (.slice A (n0 + n1) c) ∧ Own w' w.heap.size 3 .i64 (.slice A (n0 + n1) c) (n0 + n1) (xs ++ ys) ∧ Below w.heap.size w w' := by
  subst hN
  exact concat2 h0 h1 hB ht
end Go.Proofs.Ytkgfcekcjehkdaa
