/- slices.Grow of nil and slices.Concat, for lists of numbers. A label forwarding table in memory, and its error: the program's and the reference's texts return the same. checkHops. lfib.Check. The reference's Check. -/
import Derived.Test.YtplppbgkkfjknaaGreatDoorG6
import Derived.Test.YtplppbgkkfjknaaGreatDoorG8
import Derived.Deep.DeepCutAuto
namespace Go.Proofs.YtplppbgkkfjknaaGreatDoor
open Go.RowKit
set_option maxRecDepth 100000

/-- append(nil, make([]T, n)...) as the translation has it: n zeros -/
theorem run_append_zeros {P : Program} (w : World) (t u ty e : TypeId) (i : TypeInfo) (z : Value) (k : IntKind) (ht : P.underlying t = some (.slice e)) (hu : P.underlying u = some (.int k)) (hi : P.info? e = some i) (hz : i.zero = some z) (hsz : 0 < i.size)
    (n : Nat) (h0 : 0 < n) (h63 : (n : Int) ≤ 9223372036854775807) (h48 : n * i.bytes ≤ 281474976710656) :
    (Builtin.append_ #[t, u] ty #[.slice none 0 0, .int .i64 (n : Int)]).run P w =
      .ok (.slice (some ⟨w.heap.size, 0, none⟩) n (grownCap w n 0 e)) (w.drew.alloc (.cells (Builtin.zeroCells z.cells n ++ Builtin.zeroCells z.cells (grownCap w n 0 e - n)) e)) := by
  have hn : n ≠ 0 := by omega
  have h63' : ¬ (9223372036854775807 < (n : Int)) := by omega
  have h48' : ¬ (281474976710656 < Builtin.nextslicecap n 0 * i.bytes) := by rw [nextslicecap_zero h0]; omega
  have hw : IntKind.i64.wrap (n : Int) = n := IntWalk.i64_in _ (by omega)
  have hneg : ¬ ((n : Int) < 0) := by omega
  have hb : ¬ (281474976710656 < (n : Int) * (i.bytes : Int)) := by
    have : ((n * i.bytes : Nat) : Int) ≤ 281474976710656 := by omega
    rw [Int.natCast_mul] at this
    omega
  have hne : ¬ (n * i.size = 0) := by
    intro h
    rcases Nat.mul_eq_zero.1 h with h | h <;> omega
  simp [Builtin.append_, run_underlying ht, run_underlying hu, sizeOf, typeInfo, zeroValue, hi, hz, asInt, asIntOf, hw, hneg, hb, hn, h63', h48', hne, Question.forced, run_firstCells_none, newRow, grownCap]

/-- at an append whose run is known, of a source of another type -/
theorem wpList_append_run2 {P : Program} {w : World} {ops : Array Oper} {rest : List Oper} {o : Oper} {a : Act} {Q : Exit → Act → World → Prop} (hgd : o.guard = none) (s x : Operand) (t u : TypeId)
    (ho : o.op = .call { callee := .builtin .append, args := #[s, x], argTypes := #[t, u] }) {v xv v' : Value} {w' : World} (hs : a.eval s = v) (hx : a.eval x = xv)
    (hr : (Builtin.append_ #[t, u] o.type #[v, xv]).run P w = .ok v' w') (h : wpList P ops Q rest (a.put o.dst v') w') : wpList P ops Q (o :: rest) a w := by
  refine wpList_plain hgd fun K hK => ?_
  unfold Oper.wp execOp
  simp only [ho, resolve, invoke, builtin, Sem.run_bind, Sem.run_pure, Result.andThen_ok, List.map_toArray, List.map_cons, List.map_nil, hs, hx, hr]
  exact hK _ _ h
/-- a list of slices of numbers -/
def PartsI (w : World) (B : Nat) (A : Option Addr) (k kc : Nat) (ps : List Sl) : Prop := Cells w B 1 A k kc (ps.map Sl.val) ∧ ∀ p ∈ ps, Ints w B .i64 p.A p.n p.c p.xs
theorem PartsI.below {w w' : World} {B : Nat} {A : Option Addr} {k kc : Nat} {ps : List Sl} (h : PartsI w B A k kc ps) (hb : Below B w w') : PartsI w' B A k kc ps := ⟨h.1.below hb, fun p hp => (h.2 p hp).below hb⟩
theorem PartsI.get {w : World} {B : Nat} {A : Option Addr} {k kc : Nat} {ps : List Sl} (h : PartsI w B A k kc ps) {j : Nat} (hj : j < k) :
    ∃ b o p, A = some ⟨b, o, none⟩ ∧ b < B ∧ w.cell? ⟨b, o + j, none⟩ = some (.slice p.A p.n p.c) ∧ ps[j]? = some p ∧ Ints w B .i64 p.A p.n p.c p.xs := by
  obtain ⟨⟨_, _, hl, hd⟩, hi⟩ := h
  obtain ⟨b, o, e, hb, hc⟩ := hd (by omega)
  have hj' : j < ps.length := by simp at hl; omega
  refine ⟨b, o, ps[j], e, hb, ?_, List.getElem?_eq_getElem hj', hi _ (List.getElem_mem hj')⟩
  rw [hc j (by omega), List.getElem?_map, List.getElem?_eq_getElem hj']
  rfl
end Go.Proofs.YtplppbgkkfjknaaGreatDoor
namespace Go.Proofs.YtplppbgkkfjknaaGreatDoor
open Go.RowKit
set_option maxRecDepth 100000

/-- the first error among the first k -/
def firstE (f : Nat → Int) : Nat → Int
  | 0 => 0
  | k + 1 => if firstE f k ≠ 0 then firstE f k else f k
section
variable {f : Nat → Int}
theorem firstE_keep {j : Nat} (h : firstE f j ≠ 0) : ∀ {k : Nat}, j ≤ k → firstE f k = firstE f j := by
  intro k hk
  obtain ⟨d, rfl⟩ : ∃ d, k = j + d := ⟨k - j, by omega⟩
  clear hk
  induction d with
  | zero => rfl
  | succ d ih =>
    show (if firstE f (j + d) ≠ 0 then firstE f (j + d) else f (j + d)) = _
    rw [ih, if_pos h]
theorem firstE_at {k n : Nat} (h0 : firstE f k = 0) (h : f k ≠ 0) (hk : k < n) : firstE f n = f k := by
  have e : firstE f (k + 1) = f k := by rw [firstE, if_neg (by simp [h0])]
  rw [firstE_keep (by rw [e]; exact h) (j := k + 1) (by omega), e]
theorem firstE_step {k : Nat} (h0 : firstE f k = 0) (h : f k = 0) : firstE f (k + 1) = 0 := by rw [firstE, if_neg (by simp [h0]), h]
theorem firstE_zero : ∀ {n : Nat}, firstE f n = 0 → ∀ j, j < n → f j = 0
  | 0, _, j, hj => absurd hj (by omega)
  | n + 1, h, j, hj => by
    by_cases h0 : firstE f n = 0
    · rw [firstE, if_neg (by simp [h0])] at h
      rcases Nat.lt_or_ge j n with hl | hl
      · exact firstE_zero h0 j hl
      · obtain rfl : j = n := by omega
        exact h
    · rw [firstE, if_pos h0] at h
      exact absurd h h0
end

/-- a hop, and an entry with its hops as a slice -/
structure HV where
  router : Int
  label : Int
def HV.vals (h : HV) : List Value := [.int .u32 h.router, .int .i64 h.label]
theorem HV.vals_len (h : HV) : h.vals.length = 2 := rfl
structure EV where
  inn : Int
  A : Option Addr
  n : Nat
  c : Nat
  hs : List HV
def EV.vals (e : EV) : List Value := [.int .i64 e.inn, .slice e.A e.n e.c]
theorem EV.vals_len (e : EV) : e.vals.length = 2 := rfl
def Hops (w : World) (B : Nat) (A : Option Addr) (n c : Nat) (hs : List HV) : Prop := Recs w B 2 A n c HV.vals hs
def Tab (w : World) (B : Nat) (A : Option Addr) (n c : Nat) (es : List EV) : Prop := Recs w B 2 A n c EV.vals es ∧ ∀ e ∈ es, Hops w B e.A e.n e.c e.hs
section
variable {w w' : World} {B B' n c : Nat} {A : Option Addr} {es : List EV} {hs : List HV}
theorem Hops.below (h : Hops w B A n c hs) (hb : Below B w w') : Hops w' B A n c hs := Recs.below h hb
theorem Hops.more (h : Hops w B A n c hs) (hB : B ≤ B') : Hops w B' A n c hs := Recs.more h hB
theorem Hops.len (h : Hops w B A n c hs) : hs.length = n := h.2
theorem Hops.get (h : Hops w B A n c hs) {j : Nat} (hj : j < n) : ∃ b o x, A = some ⟨b, o, none⟩ ∧ b < B ∧ hs[j]? = some x ∧ w.cell? ⟨b, o + j * 2, none⟩ = some (.int .u32 x.router) ∧ w.cell? ⟨b, o + j * 2 + 1, none⟩ = some (.int .i64 x.label) := by
  obtain ⟨b, o, x, e, hb, hx, hc⟩ := Recs.get HV.vals_len h hj
  exact ⟨b, o, x, e, hb, hx, hc 0 (by omega), hc 1 (by omega)⟩
theorem Tab.below (h : Tab w B A n c es) (hb : Below B w w') : Tab w' B A n c es := ⟨h.1.below hb, fun e he => (h.2 e he).below hb⟩
theorem Tab.more (h : Tab w B A n c es) (hB : B ≤ B') : Tab w B' A n c es := ⟨h.1.more hB, fun e he => (h.2 e he).more hB⟩
theorem Tab.len (h : Tab w B A n c es) : es.length = n := h.1.2
theorem Tab.get (h : Tab w B A n c es) {j : Nat} (hj : j < n) : ∃ b o x, A = some ⟨b, o, none⟩ ∧ b < B ∧ es[j]? = some x ∧ Hops w B x.A x.n x.c x.hs ∧ w.cell? ⟨b, o + j * 2, none⟩ = some (.int .i64 x.inn) ∧ w.cell? ⟨b, o + j * 2 + 1, none⟩ = some (.slice x.A x.n x.c) := by
  obtain ⟨b, o, x, e, hb, hx, hc⟩ := Recs.get EV.vals_len h.1 hj
  exact ⟨b, o, x, e, hb, hx, h.2 x (List.mem_of_getElem? hx), hc 0 (by omega), hc 1 (by omega)⟩
end
def rtAt (hs : List HV) (i : Nat) : Int := ((hs[i]?).getD ⟨0, 0⟩).router
def lbAt (hs : List HV) (i : Nat) : Int := ((hs[i]?).getD ⟨0, 0⟩).label
def innAt (es : List EV) (i : Nat) : Int := ((es[i]?).getD ⟨0, none, 0, 0, []⟩).inn
def hsAt (es : List EV) (i : Nat) : List HV := ((es[i]?).getD ⟨0, none, 0, 0, []⟩).hs
def hopErr (hs : List HV) (i : Nat) : Int := if rtAt hs i = 0 ∨ (lbAt hs i ≠ -1 ∧ labOK (lbAt hs i) = false) then 5 else if 0 < i ∧ rtAt hs i ≤ rtAt hs (i - 1) then 16 else 0
/-- the error of the hops of an entry -/
def hopsErr (hs : List HV) : Int := if 64 < hs.length then 4 else firstE (hopErr hs) hs.length
def entErr (es : List EV) (i : Nat) : Int := if labOK (innAt es i) = false then 5 else if 0 < i ∧ innAt es i ≤ innAt es (i - 1) then 16 else hopsErr (hsAt es i)
/-- the error of a table -/
def tabErr (es : List EV) : Int := if 2000 < es.length then 4 else firstE (entErr es) es.length

theorem lab_split (n : Int) : (n < 16 ∧ labOK n = false) ∨ (16 ≤ n ∧ 1048575 < n ∧ labOK n = false) ∨ (16 ≤ n ∧ n ≤ 1048575 ∧ labOK n = true) := by
  unfold labOK
  by_cases h1 : 16 ≤ n <;> by_cases h2 : n ≤ 1048575 <;> simp [h1, h2] <;> omega
theorem label_any (n : Int) (w : World) : Calls Tryz.prog 101 #[.int .i64 n] w fun e w' => e = .returned (.bool (labOK n)) ∧ w = w' := by
  rcases lab_split n with ⟨h1, h2⟩ | ⟨h0, h1, h2⟩ | ⟨h0, h1, h2⟩
  all_goals
    have H := Lib.hid h2
    clear h2
    go_enter Tryz.func101, Tryz.ntmps101
    go_wp2
    go_ret
    first | exact ⟨ret_bool H.out.symm, rfl⟩ | exact ⟨ret_bool (by rw [H.out]; simp; omega), rfl⟩
theorem refLabel_any (n : Int) (w : World) : Calls Tryz.prog 64 #[.int .i64 n] w fun e w' => e = .returned (.bool (labOK n)) ∧ w = w' := by
  rcases lab_split n with ⟨h1, h2⟩ | ⟨h0, h1, h2⟩ | ⟨h0, h1, h2⟩
  all_goals
    have H := Lib.hid h2
    clear h2
    go_enter Tryz.func64, Tryz.ntmps64
    go_wp2
    go_ret
    first | exact ⟨ret_bool H.out.symm, rfl⟩ | exact ⟨ret_bool (by rw [H.out]; simp; omega), rfl⟩
end Go.Proofs.YtplppbgkkfjknaaGreatDoor
namespace Go.Proofs.YtplppbgkkfjknaaGreatDoor
open Go.RowKit
set_option maxRecDepth 100000

theorem hopErr_of {hs : List HV} {k : Nat} {x : HV} (hx : hs[k]? = some x) : hopErr hs k = if x.router = 0 ∨ (x.label ≠ -1 ∧ labOK x.label = false) then 5 else if 0 < k ∧ x.router ≤ rtAt hs (k - 1) then 16 else 0 := by
  unfold hopErr rtAt lbAt
  rw [hx]
  rfl
theorem rt_of {hs : List HV} {k : Nat} {x : HV} (hx : hs[k]? = some x) : rtAt hs k = x.router := by unfold rtAt; rw [hx]; rfl

set_option maxHeartbeats 2000000 in
theorem checkHops_any (A : Option Addr) (n c B : Nat) (hs : List HV) (w : World) (hx : Hops w B A n c hs) (hB : B ≤ w.heap.size) (hn : n ≤ 140737488355328) :
    Calls Tryz.prog 102 #[.slice A n c] w fun e w' => e = .returned (.int .i64 (hopsErr hs)) ∧ Below w.heap.size w w' := by
  have hl := hx.len
  by_cases h64 : 64 < n
  · have HE : Hid (hopsErr hs = 4) := by show _ = _; rw [hopsErr, if_pos (by omega)]
    clear hx hl
    go_enter Tryz.func102, Tryz.ntmps102
    go_wp2
    go_ret
    exact ⟨ret_int HE.out.symm, Below.refl _ _⟩
  have HE : Hid (hopsErr hs = firstE (hopErr hs) n) := by show _ = _; rw [hopsErr, if_neg (by omega), hl]
  have HX := Lib.hid hx
  clear hx hl
  go_enter Tryz.func102, Tryz.ntmps102
  go_wp2
  go_loopw [10] (fun i wr => ∃ k : Nat, k ≤ n ∧ i = .int .i64 k ∧ Hid (firstE (hopErr hs) k = 0) ∧ Hid (Below w.heap.size w wr)) (fun i _ => n - (intOf i).toNat)
  case atStart => exact ⟨0, Nat.zero_le _, rfl, rfl, Below.refl _ _⟩
  case round =>
    obtain ⟨k, hk, rfl, h0, hb⟩ := hrel
    by_cases hlt : k < n
    · have HX2 : Hid (Hops wr B A n c hs) := HX.out.below (hb.out.mono hB)
      obtain ⟨b, o, x, rfl, hbB, hxk, c0, c1⟩ := HX2.out.get hlt
      have HO := Lib.hid (hopErr_of hxk)
      have HAT : Hid (∀ v : Int, hopErr hs k = v → v ≠ 0 → hopsErr hs = v) := fun v hv hne => by rw [HE.out, firstE_at h0.out (by rw [hv]; exact hne) hlt, hv]
      have HST : Hid (hopErr hs k = 0 → firstE (hopErr hs) (k + 1) = 0) := fun hv => firstE_step h0.out hv
      have hbw : b < wr.heap.size := by have := hb.out.size; omega
      have HB2 : Hid (Below w.heap.size w (wr.alloc (.cells #[.int .u32 x.router, .int .i64 x.label] 105))) := hb.out.alloc hb.out.size _
      by_cases hr : x.router = 0
      · have HF : Hid (hopsErr hs = 5) := HAT.out 5 (by rw [HO.out, if_pos (.inl hr)]) (by omega)
        have dr : (x.router == 0) = true := by simp [hr]
        clear hr hxk
        go_wp2_with fail
        go_ret
        exact ⟨ret_int HF.out.symm, HB2.out⟩
      have dr : (x.router == 0) = false := by simp [hr]
      have hlab : (x.label = -1) ∨ (x.label ≠ -1 ∧ labOK x.label = false) ∨ (x.label ≠ -1 ∧ labOK x.label = true) := by
        by_cases h1 : x.label = -1
        · exact .inl h1
        · cases h2 : labOK x.label
          · exact .inr (.inl ⟨h1, rfl⟩)
          · exact .inr (.inr ⟨h1, rfl⟩)
      rcases hlab with h1 | ⟨h1, h2⟩ | ⟨h1, h2⟩
      case' inl =>
        have dl : (x.label != -1) = false := by simp [h1]
        have HO' : Hid (hopErr hs k = if 0 < k ∧ x.router ≤ rtAt hs (k - 1) then 16 else 0) := by show _ = _; rw [HO.out, if_neg (by simp [hr, h1])]
        clear hr h1 HO
        go_upto_region 8 with fail
      case' inr.inl =>
        have HF : Hid (hopsErr hs = 5) := HAT.out 5 (by rw [HO.out, if_pos (.inr ⟨h1, h2⟩)]) (by omega)
        have dl : (x.label != -1) = true := by simp [h1]
        have H2 := Lib.hid h2
        clear hr hxk h1 h2
        go_wp2_with fail
        refine (label_any x.label _).mono ?_
        rintro e w2 ⟨rfl, rfl⟩
        rw [H2.out]
        go_wp2_with fail
        go_ret
        exact ⟨ret_int HF.out.symm, HB2.out⟩
      case' inr.inr =>
        have dl : (x.label != -1) = true := by simp [h1]
        have HO' : Hid (hopErr hs k = if 0 < k ∧ x.router ≤ rtAt hs (k - 1) then 16 else 0) := by show _ = _; rw [HO.out, if_neg (by simp [hr, h2])]
        have H2 := Lib.hid h2
        clear hr h1 HO h2
        go_wp2_with fail
        refine (label_any x.label _).mono ?_
        rintro e w2 ⟨rfl, rfl⟩
        rw [H2.out]
        go_upto_region 8 with fail
      all_goals
        rcases Nat.eq_zero_or_pos k with hk0 | hk0
        · subst hk0
          have HZ : Hid (firstE (hopErr hs) (0 + 1) = 0) := HST.out (by rw [HO'.out, if_neg (by omega)])
          clear hxk
          go_quiet (fail)
          go_wp2
          go_roundw
          case rel => exact ⟨0 + 1, by omega, by go_num, HZ, below_drewN HB2.out _⟩
          case measure => simp [intOf]; omega
        · obtain ⟨b2, o2, y, hA2, _, hyk, e0, _⟩ := HX2.out.get (j := k - 1) (by omega)
          simp only [Option.some.injEq, Addr.mk.injEq] at hA2
          obtain ⟨rfl, rfl, _⟩ := hA2
          have hry := rt_of hyk
          have hws : IntKind.i64.wrap ((k : Int) - 1) = ((k - 1 : Nat) : Int) := by rw [IntWalk.i64_in _ (by omega)]; omega
          have hdk : decide (0 < k) = true := by simp; omega
          have hdk' : decide ((0 : Int) < (k : Int)) = true := by simp; omega
          rw [hry] at HO'
          by_cases hle : x.router ≤ y.router
          · have HF : Hid (hopsErr hs = 16) := HAT.out 16 (by rw [HO'.out, if_pos ⟨hk0, hle⟩]) (by omega)
            have dle : decide (x.router ≤ y.router) = true := by simp [hle]
            clear hxk hyk hry hle
            go_quiet (fail)
            go_wp2
            go_ret
            exact ⟨ret_int HF.out.symm, below_drewN HB2.out _⟩
          · have HZ : Hid (firstE (hopErr hs) (k + 1) = 0) := HST.out (by rw [HO'.out, if_neg (by omega)])
            have dle : decide (x.router ≤ y.router) = false := by simp; omega
            clear hxk hyk hry hle
            go_quiet (fail)
            go_wp2
            go_roundw
            case rel => exact ⟨k + 1, by omega, by go_num, HZ, below_drewN HB2.out _⟩
            case measure => simp [intOf]; omega
    · obtain rfl : k = n := by omega
      have HF : Hid (hopsErr hs = 0) := by show _ = _; rw [HE.out, h0.out]
      go_wp2
      go_ret
      exact ⟨ret_int HF.out.symm, hb.out⟩
end Go.Proofs.YtplppbgkkfjknaaGreatDoor
namespace Go.Proofs.YtplppbgkkfjknaaGreatDoor
open Go.RowKit
set_option maxRecDepth 100000

theorem entErr_of {es : List EV} {k : Nat} {x : EV} (hx : es[k]? = some x) : entErr es k = if labOK x.inn = false then 5 else if 0 < k ∧ x.inn ≤ innAt es (k - 1) then 16 else hopsErr x.hs := by
  unfold entErr innAt hsAt
  rw [hx]
  rfl
theorem inn_of {es : List EV} {k : Nat} {x : EV} (hx : es[k]? = some x) : innAt es k = x.inn := by unfold innAt; rw [hx]; rfl

set_option maxHeartbeats 2000000 in
theorem check_anyL (A : Option Addr) (n c B : Nat) (es : List EV) (w : World) (hx : Tab w B A n c es) (hB : B ≤ w.heap.size) (hn : n ≤ 140737488355328) (hlen : ∀ e ∈ es, e.n ≤ 140737488355328) :
    Calls Tryz.prog 71 #[.slice A n c] w fun e w' => e = .returned (.int .i64 (tabErr es)) ∧ Below w.heap.size w w' := by
  have hl := hx.len
  by_cases h64 : 2000 < n
  · have HE : Hid (tabErr es = 4) := by show _ = _; rw [tabErr, if_pos (by omega)]
    clear hx hl hlen
    go_enter Tryz.func71, Tryz.ntmps71
    go_wp2
    go_ret
    exact ⟨ret_int HE.out.symm, Below.refl _ _⟩
  have HE : Hid (tabErr es = firstE (entErr es) n) := by show _ = _; rw [tabErr, if_neg (by omega), hl]
  have HX := Lib.hid hx
  have HLen := Lib.hid hlen
  clear hx hl hlen
  go_enter Tryz.func71, Tryz.ntmps71
  go_wp2
  go_loopw [11] (fun i wr => ∃ k : Nat, k ≤ n ∧ i = .int .i64 k ∧ Hid (firstE (entErr es) k = 0) ∧ Hid (Below w.heap.size w wr)) (fun i _ => n - (intOf i).toNat)
  case atStart => exact ⟨0, Nat.zero_le _, rfl, rfl, Below.refl _ _⟩
  case round =>
    obtain ⟨k, hk, rfl, h0, hb⟩ := hrel
    by_cases hlt : k < n
    · have HX2 : Hid (Tab wr B A n c es) := HX.out.below (hb.out.mono hB)
      obtain ⟨b, o, x, rfl, hbB, hxk, hxh, c0, c1⟩ := HX2.out.get hlt
      have hxn := HLen.out x (List.mem_of_getElem? hxk)
      have HO := Lib.hid (entErr_of hxk)
      have HAT : Hid (∀ v : Int, entErr es k = v → v ≠ 0 → tabErr es = v) := fun v hv hne => by rw [HE.out, firstE_at h0.out (by rw [hv]; exact hne) hlt, hv]
      have HST : Hid (entErr es k = 0 → firstE (entErr es) (k + 1) = 0) := fun hv => firstE_step h0.out hv
      have hbw : b < wr.heap.size := by have := hb.out.size; omega
      have HB2 : Hid (Below w.heap.size w (wr.alloc (.cells #[.int .i64 x.inn, .slice x.A x.n x.c] 84))) := hb.out.alloc hb.out.size _
      have HXH : Hid (∀ W, Below wr.heap.size wr W → Hops W B x.A x.n x.c x.hs) := fun W h => hxh.below (h.mono (by have := hb.out.size; omega))
      clear hxh
      go_wp2_with fail
      refine (label_any x.inn _).mono ?_
      rintro e w2 ⟨rfl, rfl⟩
      by_cases h2 : labOK x.inn = false
      · have HF : Hid (tabErr es = 5) := HAT.out 5 (by rw [HO.out, if_pos h2]) (by omega)
        rw [h2]
        clear hxk h2
        go_wp2_with fail
        go_ret
        exact ⟨ret_int HF.out.symm, HB2.out⟩
      have h2' : labOK x.inn = true := by simpa using h2
      have HO' : Hid (entErr es k = if 0 < k ∧ x.inn ≤ innAt es (k - 1) then 16 else hopsErr x.hs) := by show _ = _; rw [HO.out, if_neg h2]
      rw [h2']
      clear h2 h2' HO
      go_upto_region 8 with fail
      rcases Nat.eq_zero_or_pos k with hk0 | hk0
      case' inl =>
        subst hk0
        have HZ : Hid (entErr es 0 = hopsErr x.hs) := by show _ = _; rw [HO'.out, if_neg (by omega)]
        clear hxk
        go_quiet (fail)
        go_wp2_with fail
      case' inr =>
        obtain ⟨b2, o2, y, hA2, _, hyk, _, e0, _⟩ := HX2.out.get (j := k - 1) (by omega)
        simp only [Option.some.injEq, Addr.mk.injEq] at hA2
        obtain ⟨rfl, rfl, _⟩ := hA2
        have hry := inn_of hyk
        have hws : IntKind.i64.wrap ((k : Int) - 1) = ((k - 1 : Nat) : Int) := by rw [IntWalk.i64_in _ (by omega)]; omega
        have hdk : decide (0 < k) = true := by simp; omega
        have hdk' : decide ((0 : Int) < (k : Int)) = true := by simp; omega
        rw [hry] at HO'
        by_cases hle : x.inn ≤ y.inn
        case pos =>
          have HF : Hid (tabErr es = 16) := HAT.out 16 (by rw [HO'.out, if_pos ⟨hk0, hle⟩]) (by omega)
          have dle : decide (x.inn ≤ y.inn) = true := by simp [hle]
          clear hxk hyk hry hle
          go_quiet (fail)
          go_wp2
          go_ret
          exact ⟨ret_int HF.out.symm, below_drewN HB2.out _⟩
        case' neg =>
          have HZ : Hid (entErr es k = hopsErr x.hs) := by show _ = _; rw [HO'.out, if_neg (by omega)]
          have dle : decide (x.inn ≤ y.inn) = false := by simp; omega
          clear hxk hyk hry hle hws hdk hdk'
          go_quiet (fail)
          go_wp2_with fail
      all_goals
        refine (checkHops_any x.A x.n x.c B x.hs _ (HXH.out _ (below_drewN ((Below.refl _ _).alloc (Nat.le_refl _) _) _)) (by have := hb.out.size; simp; omega) hxn).mono ?_
        rintro e w3 ⟨rfl, hb3⟩
        have HB3 : Hid (Below w.heap.size w w3) := (below_drewN HB2.out _).trans (hb3.mono (below_drewN HB2.out _).size)
        obtain ⟨he, hhe⟩ : ∃ e, hopsErr x.hs = e := ⟨_, rfl⟩
        rw [hhe] at HZ ⊢
        clear hb3 hhe c0 c1
        by_cases hz : he = 0
        · subst hz
          have HN := Lib.hid (HST.out HZ.out)
          go_wp2
          go_roundw
          case rel => exact ⟨_, by omega, by go_num, HN, HB3⟩
          case measure => simp [intOf]; omega
        · have HF := Lib.hid (HAT.out he HZ.out hz)
          have dz : (he != 0) = true := by simp [hz]
          clear hz
          go_wp2
          go_ret
          exact ⟨ret_int HF.out.symm, HB3.out⟩
    · obtain rfl : k = n := by omega
      have HF : Hid (tabErr es = 0) := by show _ = _; rw [HE.out, h0.out]
      go_wp2
      go_ret
      exact ⟨ret_int HF.out.symm, hb.out⟩
end Go.Proofs.YtplppbgkkfjknaaGreatDoor
namespace Go.Proofs.YtplppbgkkfjknaaGreatDoor
open Go.RowKit
set_option maxRecDepth 100000

set_option maxRecDepth 100000 in
set_option maxHeartbeats 4000000 in
theorem refCheck_anyL (A : Option Addr) (n c B : Nat) (es : List EV) (w : World) (hx : Tab w B A n c es) (hB : B ≤ w.heap.size) (hn : n ≤ 140737488355328) (hlen : ∀ e ∈ es, e.n ≤ 140737488355328) :
    Calls Tryz.prog 31 #[.slice A n c] w fun e w' => e = .returned (.int .i64 (tabErr es)) ∧ Below w.heap.size w w' := by
  have hl := hx.len
  by_cases h64 : 2000 < n
  · have HE : Hid (tabErr es = 4) := by show _ = _; rw [tabErr, if_pos (by omega)]
    clear hx hl hlen
    go_enter Tryz.func31, Tryz.ntmps31
    go_wp2
    go_ret
    exact ⟨ret_int HE.out.symm, Below.refl _ _⟩
  have HE : Hid (tabErr es = firstE (entErr es) n) := by show _ = _; rw [tabErr, if_neg (by omega), hl]
  have HX := Lib.hid hx
  have HLen := Lib.hid hlen
  clear hx hl hlen
  go_enter Tryz.func31, Tryz.ntmps31
  go_wp2
  go_loopw [12] (fun i wr => ∃ k : Nat, k ≤ n ∧ i = .int .i64 k ∧ Hid (firstE (entErr es) k = 0) ∧ Hid (Below w.heap.size w wr)) (fun i _ => n - (intOf i).toNat)
  case atStart => exact ⟨0, Nat.zero_le _, rfl, rfl, Below.refl _ _⟩
  case round =>
    obtain ⟨k, hk, rfl, h0, hb⟩ := hrel
    by_cases hlt : k < n
    · have HX2 : Hid (Tab wr B A n c es) := HX.out.below (hb.out.mono hB)
      obtain ⟨b, o, x, rfl, hbB, hxk, hxh, c0, c1⟩ := HX2.out.get hlt
      have hxn := HLen.out x (List.mem_of_getElem? hxk)
      have HO := Lib.hid (entErr_of hxk)
      have HAT : Hid (∀ v : Int, entErr es k = v → v ≠ 0 → tabErr es = v) := fun v hv hne => by rw [HE.out, firstE_at h0.out (by rw [hv]; exact hne) hlt, hv]
      have HST : Hid (entErr es k = 0 → firstE (entErr es) (k + 1) = 0) := fun hv => firstE_step h0.out hv
      have hbw : b < wr.heap.size := by have := hb.out.size; omega
      have HB2 : Hid (Below w.heap.size w (wr.alloc (.cells #[.int .i64 x.inn, .slice x.A x.n x.c] 84))) := hb.out.alloc hb.out.size _
      have HXH : Hid (∀ W, Below wr.heap.size wr W → Hops W B x.A x.n x.c x.hs) := fun W h => hxh.below (h.mono (by have := hb.out.size; omega))
      clear hxh
      go_wp2_with fail
      refine (refLabel_any x.inn _).mono ?_
      rintro e w2 ⟨rfl, rfl⟩
      by_cases h2 : labOK x.inn = false
      · have HF : Hid (tabErr es = 5) := HAT.out 5 (by rw [HO.out, if_pos h2]) (by omega)
        rw [h2]
        clear hxk h2
        go_wp2_with fail
        go_ret
        exact ⟨ret_int HF.out.symm, HB2.out⟩
      have h2' : labOK x.inn = true := by simpa using h2
      have HO' : Hid (entErr es k = if 0 < k ∧ x.inn ≤ innAt es (k - 1) then 16 else hopsErr x.hs) := by show _ = _; rw [HO.out, if_neg h2]
      rw [h2']
      clear h2 h2' HO
      go_upto_region 8 with fail
      rcases Nat.eq_zero_or_pos k with hk0 | hk0
      case' inl =>
        subst hk0
        have HZ : Hid (entErr es 0 = hopsErr x.hs) := by show _ = _; rw [HO'.out, if_neg (by omega)]
        clear hxk
        go_quiet (fail)
      case' inr =>
        obtain ⟨b2, o2, y, hA2, _, hyk, _, e0, _⟩ := HX2.out.get (j := k - 1) (by omega)
        simp only [Option.some.injEq, Addr.mk.injEq] at hA2
        obtain ⟨rfl, rfl, _⟩ := hA2
        have hry := inn_of hyk
        have hws : IntKind.i64.wrap ((k : Int) - 1) = ((k - 1 : Nat) : Int) := by rw [IntWalk.i64_in _ (by omega)]; omega
        have hdk : decide (0 < k) = true := by simp; omega
        have hdk' : decide ((0 : Int) < (k : Int)) = true := by simp; omega
        rw [hry] at HO'
        by_cases hle : x.inn ≤ y.inn
        case pos =>
          have HF : Hid (tabErr es = 16) := HAT.out 16 (by rw [HO'.out, if_pos ⟨hk0, hle⟩]) (by omega)
          have dle : decide (x.inn ≤ y.inn) = true := by simp [hle]
          clear hxk hyk hry hle
          go_quiet (fail)
          go_wp2
          go_ret
          exact ⟨ret_int HF.out.symm, below_drewN HB2.out _⟩
        case' neg =>
          have HZ : Hid (entErr es k = hopsErr x.hs) := by show _ = _; rw [HO'.out, if_neg (by omega)]
          have dle : decide (x.inn ≤ y.inn) = false := by simp; omega
          clear hxk hyk hry hle hws hdk hdk'
          go_quiet (fail)
      all_goals
        obtain ⟨W1, hW1⟩ : ∃ W1, ((wr.alloc (.cells #[.int .i64 x.inn, .slice x.A x.n x.c] 84)).drewN nq) = W1 := ⟨_, rfl⟩
        have hd1 : W1.cell? ⟨wr.heap.size, 0, none⟩ = some (.int .i64 x.inn) := by subst hW1; go_simp
        have hd2 : W1.cell? ⟨wr.heap.size, 1, none⟩ = some (.slice x.A x.n x.c) := by subst hW1; go_simp
        have hds : wr.heap.size < W1.heap.size := by subst hW1; simp
        have HBW1 : Hid (Below w.heap.size w W1) := by subst hW1; exact below_drewN HB2.out _
        have HXH1 : Hid (Hops W1 B x.A x.n x.c x.hs) := by subst hW1; exact HXH.out _ (below_drewN ((Below.refl _ _).alloc (Nat.le_refl _) _) _)
        rw [hW1]
        have hbW : B ≤ W1.heap.size := Nat.le_trans hB HBW1.out.size
        have hhl := HXH1.out.len
        clear hW1 HB2 HXH c0 c1
        by_cases h65 : 64 < x.n
        · have HF : Hid (tabErr es = 4) := HAT.out 4 (by rw [HZ.out, hopsErr, if_pos (by omega)]) (by omega)
          clear hhl
          go_wp2
          go_ret
          exact ⟨ret_int HF.out.symm, HBW1.out⟩
        have HHE : Hid (hopsErr x.hs = firstE (hopErr x.hs) x.n) := by show _ = _; rw [hopsErr, if_neg (by omega), hhl]
        clear hhl
        obtain ⟨xi, xA, xn, xc, xhs⟩ := x
        dsimp only at *
        go_wp2
        obtain ⟨wo, rfl⟩ : ∃ wo : World, wo = wr := ⟨_, rfl⟩
        go_loopw [44] (fun i wr => ∃ q : Nat, q ≤ xn ∧ i = .int .i64 q ∧ Hid (firstE (hopErr xhs) q = 0) ∧ Hid (Below W1.heap.size W1 wr)) (fun i _ => xn - (intOf i).toNat)
        case atStart => exact ⟨0, Nat.zero_le _, rfl, rfl, Below.refl _ _⟩
        case round =>
          obtain ⟨q, hq, rfl, g0, gb⟩ := hrel
          have f1 : wr.cell? ⟨wo.heap.size, 1, none⟩ = some (.slice xA xn xc) := (gb.out.cell (p := ⟨wo.heap.size, 1, none⟩) hds).trans hd2
          have hos : wo.heap.size < wr.heap.size := Nat.lt_of_lt_of_le hds gb.out.size
          have HBR : Hid (Below w.heap.size w wr) := HBW1.out.trans (gb.out.mono HBW1.out.size)
          by_cases hlq : q < xn
          · have HXQ : Hid (Hops wr B xA xn xc xhs) := HXH1.out.below (gb.out.mono hbW)
            obtain ⟨b3, o3, y, rfl, hb3, hyk, f2, f3⟩ := HXQ.out.get hlq
            have KO := Lib.hid (hopErr_of hyk)
            have KAT : Hid (∀ v : Int, hopErr xhs q = v → v ≠ 0 → tabErr es = v) := fun v hv hne => HAT.out v (by rw [HZ.out, HHE.out, firstE_at g0.out (by rw [hv]; exact hne) hlq, hv]) hne
            have KST : Hid (hopErr xhs q = 0 → firstE (hopErr xhs) (q + 1) = 0) := fun hv => firstE_step g0.out hv
            have hbr : b3 < wr.heap.size := by have := gb.out.size; omega
            have HB3 : Hid (Below w.heap.size w (wr.alloc (.cells #[.int .u32 y.router, .int .i64 y.label] 105))) := HBR.out.alloc HBR.out.size _
            have GB3 : Hid (Below W1.heap.size W1 (wr.alloc (.cells #[.int .u32 y.router, .int .i64 y.label] 105))) := gb.out.alloc gb.out.size _
            clear hd1 hd2 HXH1 HX2 HX HE HAT HST HZ HHE
            by_cases hr : y.router = 0
            · have HF : Hid (tabErr es = 5) := KAT.out 5 (by rw [KO.out, if_pos (.inl hr)]) (by omega)
              have dr : (y.router == 0) = true := by simp [hr]
              clear hr hyk
              go_wp2_with fail
              go_ret
              exact ⟨ret_int HF.out.symm, HB3.out⟩
            have dr : (y.router == 0) = false := by simp [hr]
            have hlab : (y.label = -1) ∨ (y.label ≠ -1 ∧ labOK y.label = false) ∨ (y.label ≠ -1 ∧ labOK y.label = true) := by
              by_cases h1 : y.label = -1
              · exact .inl h1
              · cases h2 : labOK y.label
                · exact .inr (.inl ⟨h1, rfl⟩)
                · exact .inr (.inr ⟨h1, rfl⟩)
            rcases hlab with h1 | ⟨h1, h2⟩ | ⟨h1, h2⟩
            case' inl =>
              have dl : (y.label != -1) = false := by simp [h1]
              have KO' : Hid (hopErr xhs q = if 0 < q ∧ y.router ≤ rtAt xhs (q - 1) then 16 else 0) := by show _ = _; rw [KO.out, if_neg (by simp [hr, h1])]
              clear hr h1 KO
              go_upto_region 17 with fail
            case' inr.inl =>
              have HF : Hid (tabErr es = 5) := KAT.out 5 (by rw [KO.out, if_pos (.inr ⟨h1, h2⟩)]) (by omega)
              have dl : (y.label != -1) = true := by simp [h1]
              have H2 := Lib.hid h2
              clear hr hyk h1 h2
              go_wp2_with fail
              refine (refLabel_any y.label _).mono ?_
              rintro e w2 ⟨rfl, rfl⟩
              rw [H2.out]
              go_wp2_with fail
              go_ret
              exact ⟨ret_int HF.out.symm, HB3.out⟩
            case' inr.inr =>
              have dl : (y.label != -1) = true := by simp [h1]
              have KO' : Hid (hopErr xhs q = if 0 < q ∧ y.router ≤ rtAt xhs (q - 1) then 16 else 0) := by show _ = _; rw [KO.out, if_neg (by simp [hr, h2])]
              have H2 := Lib.hid h2
              clear hr h1 KO h2
              go_wp2_with fail
              refine (refLabel_any y.label _).mono ?_
              rintro e w2 ⟨rfl, rfl⟩
              rw [H2.out]
              go_upto_region 17 with fail
            all_goals
              rcases Nat.eq_zero_or_pos q with hk0 | hk0
              · subst hk0
                have HZ : Hid (firstE (hopErr xhs) (0 + 1) = 0) := KST.out (by rw [KO'.out, if_neg (by omega)])
                clear hyk
                go_quiet (fail)
                go_wp2
                go_roundw
                case rel => first | exact ⟨0 + 1, by omega, by go_num, HZ, below_drewN GB3.out _⟩ | ((repeat apply Exists.intro); exact ⟨⟨0 + 1, by omega, by go_num, HZ, below_drewN GB3.out _⟩, rfl⟩)
                case measure => simp [intOf]; omega
              · obtain ⟨b2, o2, z, hA2, _, hzk, e0, _⟩ := HXQ.out.get (j := q - 1) (by omega)
                simp only [Option.some.injEq, Addr.mk.injEq] at hA2
                obtain ⟨rfl, rfl, _⟩ := hA2
                have hrz := rt_of hzk
                have hws : IntKind.i64.wrap ((q : Int) - 1) = ((q - 1 : Nat) : Int) := by rw [IntWalk.i64_in _ (by omega)]; omega
                have hdk : decide (0 < q) = true := by simp; omega
                have hdk' : decide ((0 : Int) < (q : Int)) = true := by simp; omega
                rw [hrz] at KO'
                by_cases hle : y.router ≤ z.router
                · have HF : Hid (tabErr es = 16) := KAT.out 16 (by rw [KO'.out, if_pos ⟨hk0, hle⟩]) (by omega)
                  have dle : decide (y.router ≤ z.router) = true := by simp [hle]
                  clear hyk hzk hrz hle
                  go_quiet (fail)
                  go_wp2
                  go_ret
                  exact ⟨ret_int HF.out.symm, below_drewN HB3.out _⟩
                · have HZ : Hid (firstE (hopErr xhs) (q + 1) = 0) := KST.out (by rw [KO'.out, if_neg (by omega)])
                  have dle : decide (y.router ≤ z.router) = false := by simp; omega
                  clear hyk hzk hrz hle
                  go_quiet (fail)
                  go_wp2
                  go_roundw
                  case rel => first | exact ⟨q + 1, by omega, by go_num, HZ, below_drewN GB3.out _⟩ | ((repeat apply Exists.intro); exact ⟨⟨q + 1, by omega, by go_num, HZ, below_drewN GB3.out _⟩, rfl⟩)
                  case measure => simp [intOf]; omega
          · obtain rfl : q = xn := by omega
            have HN := Lib.hid (HST.out (by rw [HZ.out, HHE.out, g0.out]))
            clear hd1 hd2
            go_wp2
            go_roundw
            case rel => exact ⟨_, by omega, by go_num, HN, HBR⟩
            case measure => simp [intOf]; omega
    · obtain rfl : k = n := by omega
      have HF : Hid (tabErr es = 0) := by show _ = _; rw [HE.out, h0.out]
      go_wp2
      go_ret
      exact ⟨ret_int HF.out.symm, hb.out⟩
end Go.Proofs.YtplppbgkkfjknaaGreatDoor
