/- slices.Grow and slices.Concat of paths. -/
import Derived.Test.YtojgohgeagbkbaaSq41
import Derived.Test.YtojgohgeagbkbaaSegCut
namespace Go.Proofs.Ytojgohgeagbkbaa
open Go.RowKit

set_option linter.unusedVariables false
set_option linter.unusedSimpArgs false
/-- append(nil, make([]T, n)...) as the translation has it: n zeros -/
theorem run_append_zeros {P : Program} (w : World) (t u ty e : TypeId) (i : TypeInfo) (z : Value) (k : IntKind) (ht : P.underlying t = some (.slice e)) (hu : P.underlying u = some (.int k)) (hi : P.info? e = some i) (hz : i.zero = some z) (hsz : 0 < i.size)
    (n : Nat) (h0 : 0 < n) (h63 : (n : Int) ≤ 9223372036854775807) (h48 : n * i.bytes ≤ 281474976710656) :
    (Builtin.append_ #[t, u] ty #[.slice none 0 0, .int .i64 (n : Int)]).run P w =
      .ok (.slice (some ⟨w.heap.size, 0, none⟩) n (grownCap w n 0 e)) (w.drew.alloc (.cells (Builtin.zeroCells z.cells n ++ Builtin.zeroCells z.cells (grownCap w n 0 e - n)) e)) := by
  have hn : n ≠ 0 := by omega
  have h63' : ¬ (9223372036854775807 < (n : Int)) := by omega
  have h48' : ¬ (281474976710656 < Builtin.nextslicecap n 0 * i.bytes) := by rw [nextslicecap_zero h0]; omega
  have hw : IntKind.i64.wrap (n : Int) = n := IntWalk.i64_in _ (by omega)
  have hneg : ¬ ((n : Int) < 0) := by omega
  have hb : ¬ (281474976710656 < (n : Int) * (i.bytes : Int)) := by
    have : ((n * i.bytes : Nat) : Int) ≤ 281474976710656 := by omega
    rw [Int.natCast_mul] at this
    omega
  have hne : ¬ (n * i.size = 0) := by
    intro h
    rcases Nat.mul_eq_zero.1 h with h | h <;> omega
  simp [Builtin.append_, run_underlying ht, run_underlying hu, sizeOf, typeInfo, zeroValue, hi, hz, asInt, asIntOf, hw, hneg, hb, hn, h63', h48', hne, Question.forced, run_firstCells_none, newRow, grownCap]
/-- at an append whose run is known, of a source of another type -/
theorem wpList_append_run2 {P : Program} {w : World} {ops : Array Oper} {rest : List Oper} {o : Oper} {a : Act} {Q : Exit → Act → World → Prop} (hgd : o.guard = none) (s x : Operand) (t u : TypeId)
    (ho : o.op = .call { callee := .builtin .append, args := #[s, x], argTypes := #[t, u] }) {v xv v' : Value} {w' : World} (hs : a.eval s = v) (hx : a.eval x = xv)
    (hr : (Builtin.append_ #[t, u] o.type #[v, xv]).run P w = .ok v' w') (h : wpList P ops Q rest (a.put o.dst v') w') : wpList P ops Q (o :: rest) a w := by
  refine wpList_plain hgd fun K hK => ?_
  unfold Oper.wp execOp
  simp only [ho, resolve, invoke, builtin, Sem.run_bind, Sem.run_pure, Result.andThen_ok, List.map_toArray, List.map_cons, List.map_nil, hs, hx, hr]
  exact hK _ _ h
set_option maxRecDepth 100000 in
set_option maxHeartbeats 400000 in
theorem growS_any (n : Nat) (w : World) (hn : n ≤ 1000000000) :
    Calls Try.prog 93 #[.slice none 0 0, .int .i64 n] w fun e w' => ∃ A c, e = .returned (.slice A 0 c) ∧ w'.ownsRow w.heap.size 75 2 (.slice A 0 c) 0 [] ∧ Below w.heap.size w w' := by
  obtain ⟨i0, hi0, hz0, hs0, hb0⟩ := info_parts seg_info
  rcases Nat.eq_zero_or_pos n with rfl | h0
  · go_enter Try.func93, Try.ntmps93
    go_wp2
    go_ret
    exact ⟨none, 0, rfl, World.ownsRow_nil _ _ _ _, Below.refl _ _⟩
  · have hr := run_append_zeros (P := Try.prog) w 35 3 35 75 i0 (.agg #[.int .i64 0, .slice none 0 0]) .i64 Try.underlying35 Try.underlying3 hi0 hz0 (by omega) n h0 (by omega) (by rw [hb0]; omega)
    have hge := grownCap_ge w n 0 75
    have hle := grownCap_le_maxLen w n 0 75 (by simp only [maxLen]; omega)
    obtain ⟨c, hc⟩ : ∃ c, grownCap w n 0 75 = c := ⟨_, rfl⟩
    rw [hc] at hr hge hle
    obtain ⟨zs, hzs⟩ : ∃ zs, Builtin.zeroCells (Value.agg #[.int .i64 0, .slice none 0 0]).cells n ++ Builtin.zeroCells (Value.agg #[.int .i64 0, .slice none 0 0]).cells (c - n) = zs := ⟨_, rfl⟩
    have hzl : zs.size = c * 2 := by
      rw [← hzs]
      simp only [Array.size_append, size_zeroCells, Value.cells]
      simp
      omega
    rw [hzs] at hr
    have hb : Below w.heap.size w (w.drew.alloc (.cells zs 75)) := (Below.refl _ _).drew.alloc (by simp) _
    have ho : (w.drew.alloc (.cells zs 75)).ownsRow w.heap.size 75 2 (.slice (some ⟨w.heap.size, 0, none⟩) 0 c) 0 [] := by
      refine ⟨rfl, .inr ⟨w.heap.size, c, _, rfl, Nat.le_refl _, heap_alloc_new w.drew _, Nat.zero_le _, hle, hzl, by simp⟩⟩
    obtain ⟨W, hW⟩ : ∃ W, w.drew.alloc (.cells zs 75) = W := ⟨_, rfl⟩
    rw [hW] at hr hb ho
    have HR := Lib.hid hr
    have HB := Lib.hid hb
    have HO := Lib.hid ho
    have hcc : (0 : Int) ≤ (c : Int) := by omega
    clear hr hb ho hW hc hzs hzl
    go_enter Try.func93, Try.ntmps93
    go_wp2_with (at_builtin; refine wpList_append_run2 rfl _ _ _ _ rfl rfl rfl HR.out ?_)
    go_ret
    exact ⟨_, c, rfl, HO.out, HB.out⟩
/-- a slice of records as a value -/
structure SlR where
  A : Option Addr
  n : Nat
  c : Nat
  fs : List SV
def SlR.val (s : SlR) : Value := .slice s.A s.n s.c
def PartsR (w : World) (B : Nat) (A : Option Addr) (k kc : Nat) (ps : List SlR) : Prop := Cells w B 1 A k kc (ps.map SlR.val) ∧ ∀ p ∈ ps, Recs w B 2 p.A p.n p.c SV.vals p.fs
theorem PartsR.below {w w' : World} {B : Nat} {A : Option Addr} {k kc : Nat} {ps : List SlR} (h : PartsR w B A k kc ps) (hb : Below B w w') : PartsR w' B A k kc ps := ⟨h.1.below hb, fun p hp => (h.2 p hp).below hb⟩
theorem PartsR.get {w : World} {B : Nat} {A : Option Addr} {k kc : Nat} {ps : List SlR} (h : PartsR w B A k kc ps) {j : Nat} (hj : j < k) :
    ∃ b o p, A = some ⟨b, o, none⟩ ∧ b < B ∧ w.cell? ⟨b, o + j, none⟩ = some (.slice p.A p.n p.c) ∧ ps[j]? = some p ∧ Recs w B 2 p.A p.n p.c SV.vals p.fs := by
  obtain ⟨⟨_, _, hl, hd⟩, hi⟩ := h
  obtain ⟨b, o, e, hb, hc⟩ := hd (by omega)
  have hj' : j < ps.length := by simp at hl; omega
  refine ⟨b, o, ps[j], e, hb, ?_, List.getElem?_eq_getElem hj', hi _ (List.getElem_mem hj')⟩
  rw [hc j (by omega), List.getElem?_map, List.getElem?_eq_getElem hj']
  rfl
def totR (ps : List SlR) (j : Nat) : Nat := ((ps.take j).map (·.n)).sum
def catR (ps : List SlR) (j : Nat) : List SV := (ps.take j).flatMap (·.fs)
theorem totR_succ {ps : List SlR} {j : Nat} {p : SlR} (h : ps[j]? = some p) : totR ps (j + 1) = totR ps j + p.n := by
  unfold totR
  rw [List.take_add_one, h]
  simp
theorem catR_succ {ps : List SlR} {j : Nat} {p : SlR} (h : ps[j]? = some p) : catR ps (j + 1) = catR ps j ++ p.fs := by
  unfold catR
  rw [List.take_add_one, h]
  simp
theorem totR_le {ps : List SlR} {j k : Nat} (h : j ≤ k) : totR ps j ≤ totR ps k := by
  unfold totR
  obtain ⟨d, rfl⟩ : ∃ d, k = j + d := ⟨k - j, by omega⟩
  rw [List.take_add, List.map_append, List.sum_append]
  omega
set_option maxHeartbeats 1000000 in
theorem concatS_any (A : Option Addr) (k kc B : Nat) (ps : List SlR) (w : World) (hp : PartsR w B A k kc ps) (hB : B ≤ w.heap.size) (ht : totR ps k ≤ 1000000000) (hk : k ≤ 1000) :
    Calls Try.prog 85 #[.slice A k kc] w fun e w' => ∃ A' c', e = .returned (.slice A' (totR ps k) c') ∧ w'.ownsRow w.heap.size 75 2 (.slice A' (totR ps k) c') (totR ps k) ((catR ps k).flatMap SV.vals) ∧ Below w.heap.size w w' := by
  obtain ⟨T, hT⟩ : ∃ T, totR ps k = T := ⟨_, rfl⟩
  rw [hT] at ht
  rw [hT]
  have HT := Lib.hid hT
  clear hT
  go_enter Try.func85, Try.ntmps85
  go_wp2
  go_loop [3, 11] (fun s i => ∃ j : Nat, j ≤ k ∧ i = .int .i64 j ∧ s = .int .i64 (totR ps j)) (fun _ i => k - (intOf i).toNat)
  case atStart => exact ⟨0, Nat.zero_le _, rfl, rfl⟩
  case round =>
    obtain ⟨j, hj, rfl, rfl⟩ := hrel
    have hjt : totR ps j ≤ T := by rw [← HT.out]; exact totR_le hj
    by_cases hlt : j < k
    · obtain ⟨b, o, p, rfl, hbB, hc, hpj, hpi⟩ := hp.get hlt
      have HS : Hid (totR ps (j + 1) = totR ps j + p.n) := totR_succ hpj
      have hj1 : totR ps (j + 1) ≤ T := by rw [← HT.out]; exact totR_le hlt
      rw [HS.out] at hj1
      have hneg : decide (((totR ps j : Int) + (p.n : Int)) < 0) = false := by simp; omega
      clear hp hpj hpi
      go_wp2
      go_round
      case rel => exact ⟨j + 1, by omega, by go_num, int_eq (by rw [HS.out]; omega)⟩
      case measure => simp [intOf]; omega
    · obtain rfl : j = k := by omega
      rw [HT.out]
      have HP := Lib.hid hp
      clear hlt hj hjt hp
      go_wp2_with fail
      refine (growS_any T w ht).mono ?_
      rintro e w1 ⟨A1, c1, rfl, ho1, hb1⟩
      have HB := Lib.hid hb1
      have HO : Hid (∃ A c, Value.slice A1 0 c1 = .slice A (totR ps 0) c ∧ w1.ownsRow w.heap.size 75 2 (.slice A1 0 c1) (totR ps 0) ((catR ps 0).flatMap SV.vals)) := ⟨A1, c1, rfl, ho1⟩
      clear ho1 hb1
      go_wp2
      go_loopw [6, 27] (fun v i wr => ∃ q : Nat, q ≤ j ∧ i = .int .i64 q ∧ Hid (∃ A c, v = .slice A (totR ps q) c ∧ wr.ownsRow w.heap.size 75 2 v (totR ps q) ((catR ps q).flatMap SV.vals)) ∧ Hid (Below w.heap.size w wr)) (fun _ i _ => j - (intOf i).toNat)
      case atStart => exact ⟨0, Nat.zero_le _, rfl, HO, HB⟩
      case round =>
        obtain ⟨q, hq, rfl, ho, hb⟩ := hrel
        obtain ⟨A3, c3, rfl, ho3⟩ := ho.out
        clear ho
        by_cases hlt : q < j
        · obtain ⟨b, o, p, rfl, hbB, hc, hpj, hpi⟩ := (HP.out.below (hb.out.mono hB)).get hlt
          have HS : Hid (totR ps (q + 1) = totR ps q + p.n) := totR_succ hpj
          have HC : Hid (catR ps (q + 1) = catR ps q ++ p.fs) := catR_succ hpj
          have hj1 : totR ps (q + 1) ≤ T := by rw [← HT.out]; exact totR_le hlt
          rw [HS.out] at hj1
          obtain ⟨v2, w2, hrun, ho2, hg2, hor⟩ := Cells.append (P := Try.prog) (t := 35) (ty := 35) Try.underlying35 seg_info rfl (by omega) ho3 hpi.1 (vals_one p.fs) (by simp only [maxLen]; omega) (by omega) hb.out.size
          have HR := Lib.hid hrun
          have HB2 : Hid (Below w.heap.size w w2) := hb.out.grown hg2 hb.out.size (fun k hk => (World.ownsRow.lt ho3 k hk).1)
          obtain ⟨A4, c4, rfl⟩ := own_form ho2
          have HO2 : Hid (w2.ownsRow w.heap.size 75 2 (.slice A4 (totR ps q + p.n) c4) (totR ps q + p.n) ((catR ps (q + 1)).flatMap SV.vals)) := by
            show w2.ownsRow _ _ _ _ _ _
            rw [HC.out, List.flatMap_append]
            exact ho2
          clear hpj hpi hrun ho2 hg2 HB HO hor ho3
          go_wp2_with (at_builtin; refine wpList_append_run rfl _ _ _ rfl rfl rfl HR.out ?_)
          go_roundw
          case rel => exact ⟨q + 1, by omega, by go_num, ⟨A4, c4, by rw [HS.out], by rw [HS.out]; exact HO2.out⟩, HB2⟩
          case measure => simp [intOf]; omega
        · obtain rfl : q = j := by omega
          rw [HT.out] at ho3 ⊢
          have HO3 := Lib.hid ho3
          clear HB HO ho3
          go_wp2
          go_ret
          exact ⟨_, _, rfl, HO3.out, hb.out⟩
end Go.Proofs.Ytojgohgeagbkbaa
