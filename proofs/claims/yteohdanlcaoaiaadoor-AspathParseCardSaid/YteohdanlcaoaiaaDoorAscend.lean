/- Ascending: the distinct numbers of a list, ascending (the reference's). -/
import Derived.Test.YteohdanlcaoaiaaDoorMerge
namespace Go.Proofs.YteohdanlcaoaiaaDoor
open Go.RowKit

def sliceLen : Value → Nat
  | .slice _ n _ => n
  | _ => 0
def remL (os l : List Int) : List Int := l.filter fun z => os.all fun y => decide (y < z)
def Best (b : Int) (r : List Int) : Prop := (b = -1 ∧ r = []) ∨ (0 ≤ b ∧ b ∈ r ∧ ∀ z ∈ r, b ≤ z)
theorem best_new {b y : Int} {r : List Int} (h : Best b r) (hy : 0 ≤ y) (hb : b < 0 ∨ y < b) : Best y (r ++ [y]) := by
  refine .inr ⟨hy, by simp, fun z hz => ?_⟩
  rcases List.mem_append.1 hz with hz | hz
  · rcases h with ⟨_, rfl⟩ | ⟨h1, _, h3⟩
    · cases hz
    · have := h3 z hz
      omega
  · have := List.mem_singleton.1 hz
    omega
theorem best_old {b y : Int} {r : List Int} (h : Best b r) (h0 : ¬ b < 0) (h1 : ¬ y < b) : Best b (r ++ [y]) := by
  rcases h with ⟨h2, _⟩ | ⟨h2, h3, h4⟩
  · omega
  · refine .inr ⟨h2, List.mem_append_left _ h3, fun z hz => ?_⟩
    rcases List.mem_append.1 hz with hz | hz
    · exact h4 z hz
    · have := List.mem_singleton.1 hz
      omega
theorem rem_in {os l : List Int} {j : Nat} {y : Int} (hj : j < l.length) (hy : l.getD j 0 = y) (h : ∀ z ∈ os, z < y) : remL os (l.take (j + 1)) = remL os (l.take j) ++ [y] := by
  rw [List.getD_eq_getElem?_getD, List.getElem?_eq_getElem hj] at hy
  simp only [Option.getD_some] at hy
  unfold remL
  rw [List.take_add_one, List.getElem?_eq_getElem hj, hy, List.filter_append]
  congr 1
  simp only [Option.toList_some]
  rw [List.filter_cons_of_pos (by simpa using h)]
  rfl
theorem rem_out {os l : List Int} {j : Nat} {y : Int} (hj : j < l.length) (hy : l.getD j 0 = y) {z : Int} (hz : z ∈ os) (h : ¬ z < y) : remL os (l.take (j + 1)) = remL os (l.take j) := by
  rw [List.getD_eq_getElem?_getD, List.getElem?_eq_getElem hj] at hy
  simp only [Option.getD_some] at hy
  unfold remL
  rw [List.take_add_one, List.getElem?_eq_getElem hj, hy, List.filter_append]
  simp only [Option.toList_some]
  rw [List.filter_cons_of_neg, List.filter_nil, List.append_nil]
  intro hall
  have := (List.all_eq_true.1 hall) z hz
  exact h (by simpa using this)
theorem asc_last {os : List Int} {k : Nat} {o : Int} (h : Asc os) (hk : os.length = k + 1) (ho : os.getD k 0 = o) : o ∈ os ∧ ∀ z ∈ os, z ≤ o := by
  have hlt : k < os.length := by omega
  rw [List.getD_eq_getElem?_getD, List.getElem?_eq_getElem hlt] at ho
  simp only [Option.getD_some] at ho
  refine ⟨by rw [← ho]; exact List.getElem_mem hlt, fun z hz => ?_⟩
  obtain ⟨i, hi, rfl⟩ := List.getElem_of_mem hz
  rcases Nat.lt_or_ge i k with h1 | h1
  · have := (List.pairwise_iff_getElem.1 h) i k hi hlt h1
    omega
  · obtain rfl : i = k := by omega
    omega
def AscInv (l os : List Int) : Prop := Asc os ∧ (∀ z ∈ os, z ∈ l) ∧ (∀ z ∈ l, z ∈ os ∨ z ∈ remL os l) ∧ os.length + (remL os l).length ≤ l.length
theorem ascInv_nil (l : List Int) : AscInv l [] := by
  have e : remL [] l = l := by unfold remL; simp
  unfold AscInv
  refine ⟨by simp [Asc], fun z hz => (by cases hz), fun z hz => .inr (by rw [e]; exact hz), by rw [e]; simp⟩
theorem ascInv_step {l os : List Int} {b : Int} (h : AscInv l os) (hb : Best b (remL os l)) (h0 : ¬ b < 0) : AscInv l (os ++ [b]) ∧ os.length < l.length := by
  obtain ⟨h1, h2, h3, h4⟩ := h
  rcases hb with ⟨h5, _⟩ | ⟨_, h5, h6⟩
  · omega
  have hr : remL (os ++ [b]) l = (remL os l).filter (fun z => decide (b < z)) := by
    unfold remL
    rw [List.filter_filter]
    congr 1
    funext z
    rw [List.all_append, Bool.and_comm]
    simp
  have hbl : b ∈ l ∧ ∀ z ∈ os, z < b := by
    have := List.mem_filter.1 h5
    refine ⟨this.1, fun z hz => ?_⟩
    have := List.all_eq_true.1 this.2 z hz
    simpa using this
  have hlt : ((remL os l).filter (fun z => decide (b < z))).length < (remL os l).length := by
    rcases Nat.lt_or_ge ((remL os l).filter (fun z => decide (b < z))).length (remL os l).length with h7 | h7
    · exact h7
    · have h8 := List.length_filter_le (fun z => decide (b < z)) (remL os l)
      have h9 := List.length_filter_eq_length_iff.1 (Nat.le_antisymm h8 h7) b h5
      simp at h9
  refine ⟨⟨?_, ?_, ?_, ?_⟩, by omega⟩
  · unfold Asc
    rw [List.pairwise_append]
    exact ⟨h1, by simp, fun x hx y hy => by have := hbl.2 x hx; have := List.mem_singleton.1 hy; omega⟩
  · intro z hz
    rcases List.mem_append.1 hz with hz | hz
    · exact h2 z hz
    · rw [List.mem_singleton.1 hz]
      exact hbl.1
  · intro z hz
    rcases h3 z hz with h7 | h7
    · exact .inl (List.mem_append_left _ h7)
    · by_cases hzb : z = b
      · exact .inl (by rw [hzb]; simp)
      · refine .inr ?_
        rw [hr]
        refine List.mem_filter.2 ⟨h7, ?_⟩
        have := h6 z h7
        simp
        omega
  · rw [hr, List.length_append]
    simp only [List.length_cons, List.length_nil]
    omega
theorem push_num {w : World} {base l N : Nat} {ev : Value} {xs : List Int} (he : Own w base 3 .i64 ev l xs) (y : Int) (hN : N = w.heap.size) (hbase : base ≤ w.heap.size) (hl : l ≤ 2000000000000) :
    ∃ A' c' w', (Builtin.append_ #[30, 30] 30 #[ev, .slice (some ⟨N, 0, none⟩) 1 1]).run Tryd.prog (w.alloc (.cells #[.int .i64 y] 3)) = .ok (.slice A' (l + 1) c') w' ∧ Own w' base 3 .i64 (.slice A' (l + 1) c') (l + 1) (xs ++ [y]) ∧ Below base w w' := by
  subst hN
  obtain ⟨W, hW⟩ : ∃ W, w.alloc (.cells #[.int .i64 y] 3) = W := ⟨_, rfl⟩
  have hbel : Below w.heap.size w W := by rw [← hW]; exact belowA _ _
  have hlit : Ints W W.heap.size .i64 (some ⟨w.heap.size, 0, none⟩) 1 1 [y] := by
    rw [← hW]
    exact ints_lit w 3 .i64 1 [y] rfl (by simp [maxLen]) _ (by simp)
  obtain ⟨A', c', w', k1, k2, k3⟩ := push_ints (row_below he hbel) hlit (Nat.le_trans hbase hbel.size) (by omega)
  rw [hW]
  exact ⟨A', c', w', k1, k2, (hbel.mono hbase).trans k3⟩
set_option maxRecDepth 100000 in
set_option maxHeartbeats 4000000 in
theorem ascending_any (A : Option Addr) (n c B : Nat) (l : List Int) (w : World) (hx : Ints w B .i64 A n c l) (hB : B ≤ w.heap.size) (hn : n ≤ 1000000000) (hl : ∀ z ∈ l, 1 ≤ z) :
    Calls Tryd.prog 59 #[.slice A n c] w fun e w' => ∃ A' k c' os, e = .returned (.slice A' k c') ∧ Own w' w.heap.size 3 .i64 (.slice A' k c') k os ∧ (Asc os ∧ ∀ z, z ∈ os ↔ z ∈ l) ∧ Below w.heap.size w w' := by
  have HX := Lib.hid hx
  have HL := Lib.hid hx.len
  have HP := Lib.hid hl
  clear hx hl
  go_enter Tryd.func59, Tryd.ntmps59
  go_wp2
  go_loopw [3] (fun ov wr => ∃ (k : Nat) (Ao : Option Addr) (co : Nat) (os : List Int), k ≤ n ∧ ov = .slice Ao k co ∧ Hid (Own wr w.heap.size 3 .i64 (.slice Ao k co) k os) ∧ Hid (AscInv l os) ∧ Hid (Below w.heap.size w wr)) (fun ov _ => n - sliceLen ov)
  case atStart => exact ⟨0, none, 0, [], Nat.zero_le _, rfl, Own.nil _ _ _ _, ascInv_nil l, Below.refl _ _⟩
  case round =>
    obtain ⟨k, Ao, co, os, hk, rfl, hoo, hai, hbw⟩ := hrel
    have HW := hbw
    have HXW : Hid (Ints wr B .i64 A n c l) := HX.out.below (hbw.out.mono hB)
    have HOL := Lib.hid hoo.out.len
    go_wp2
    go_loop [4, 9] (fun bv i => ∃ (j : Nat) (b : Int), j ≤ n ∧ i = .int .i64 j ∧ bv = .int .i64 b ∧ Hid (Best b (remL os (l.take j)))) (fun _ i => n - (intOf i).toNat)
    case atStart => exact ⟨0, -1, Nat.zero_le _, rfl, rfl, .inl ⟨rfl, by simp [remL]⟩⟩
    case round =>
      obtain ⟨j, b, hj, rfl, rfl, hbs⟩ := hrel
      by_cases hjn : j < n
      case neg =>
        obtain rfl : j = n := by omega
        have HBS : Hid (Best b (remL os l)) := by
          have := hbs.out
          rw [List.take_of_length_le (Nat.le_of_eq HL.out)] at this
          exact this
        clear hbs
        by_cases hb0 : b < 0
        case pos =>
          have HR : Hid (Asc os ∧ ∀ z, z ∈ os ↔ z ∈ l) := by
            obtain ⟨g1, g2, g3, _⟩ := hai.out
            refine ⟨g1, fun z => ⟨g2 z, fun hz => ?_⟩⟩
            rcases g3 z hz with h | h
            · exact h
            · rcases HBS.out with ⟨_, e⟩ | ⟨e, _⟩
              · rw [e] at h
                cases h
              · omega
          go_wp2_with fail
          go_ret
          exact ⟨Ao, k, co, rfl, os, hoo.out, HR.out, HW.out⟩
        obtain ⟨hs1, hs2⟩ := ascInv_step hai.out HBS.out hb0
        rw [HOL.out, HL.out] at hs2
        obtain ⟨A2, c2, w2, hr2, ho2, hb2⟩ := push_num hoo.out b rfl HW.out.size (by omega)
        have HR2 := Lib.hid hr2
        have HO2 := Lib.hid ho2
        have HA2 := Lib.hid hs1
        have HB2 := Lib.hid (HW.out.trans hb2)
        clear hr2 ho2 hb2 hs1 HBS
        go_wp2_with (at_builtin; refine wpList_append_run rfl _ _ _ rfl rfl rfl HR2.out ?_)
        go_roundw
        case rel => exact ⟨k + 1, A2, c2, os ++ [b], by omega, rfl, HO2, HA2, HB2⟩
        case measure => simp [sliceLen]; omega
      obtain ⟨b1, o1, y, rfl, hbb, gy, hy⟩ := HXW.out.cell hjn
      have hy1 : 1 ≤ y := by
        rw [← hy.out, List.getD_eq_getElem?_getD, List.getElem?_eq_getElem (by rw [HL.out]; exact hjn)]
        exact HP.out _ (List.getElem_mem _)
      have hjl : j < l.length := by rw [HL.out]; exact hjn
      cases k with
      | zero =>
        have hos : os = [] := List.eq_nil_of_length_eq_zero HOL.out
        have HIN : Hid (remL os (l.take (j + 1)) = remL os (l.take j) ++ [y]) := rem_in hjl hy.out (by rw [hos]; intro z hz; cases hz)
        have dz : (((0 : Nat) : Int) == 0) = true := rfl
        clear hos hy hjl
        by_cases hb0 : b < 0
        · have HN : Hid (Best y (remL os (l.take (j + 1)))) := by show Best _ _; rw [HIN.out]; exact best_new hbs.out (by omega) (.inl hb0)
          clear hbs HIN
          go_wp2_with fail
          go_round
          case rel => exact ⟨j + 1, y, by omega, by go_num, rfl, HN⟩
          case measure => simp [intOf]; omega
        by_cases hyb : y < b
        · have HN : Hid (Best y (remL os (l.take (j + 1)))) := by show Best _ _; rw [HIN.out]; exact best_new hbs.out (by omega) (.inr hyb)
          clear hbs HIN
          go_wp2_with fail
          go_round
          case rel => exact ⟨j + 1, y, by omega, by go_num, rfl, HN⟩
          case measure => simp [intOf]; omega
        · have HN : Hid (Best b (remL os (l.take (j + 1)))) := by show Best _ _; rw [HIN.out]; exact best_old hbs.out hb0 hyb
          clear hbs HIN
          go_wp2_with fail
          go_round
          case rel => exact ⟨j + 1, b, by omega, by go_num, rfl, HN⟩
          case measure => simp [intOf]; omega
      | succ k =>
        obtain ⟨b2, o2, o, hA2, hbb2, go, ho⟩ := hoo.out.ints.cell (j := k) (by omega)
        obtain ⟨hl1, hl2⟩ := asc_last hai.out.1 HOL.out ho.out
        have HL1 := Lib.hid hl1
        have HL2 := Lib.hid hl2
        have dz : (((k + 1 : Nat) : Int) == 0) = false := by simp; omega
        have dz' : ((k : Int) + 1 == 0) = false := by simp; omega
        have hwm : IntKind.i64.wrap (((k + 1 : Nat) : Int) - 1) = (k : Int) := by rw [show ((k + 1 : Nat) : Int) - 1 = (k : Int) by omega]; exact IntWalk.i64_in _ (by omega)
        subst hA2
        clear ho hl1 hl2
        by_cases hoy : o < y
        case neg =>
          have HIN : Hid (remL os (l.take (j + 1)) = remL os (l.take j)) := rem_out hjl hy.out HL1.out hoy
          have HN : Hid (Best b (remL os (l.take (j + 1)))) := by show Best _ _; rw [HIN.out]; exact hbs.out
          have dg : decide (y > o) = false := by simp; omega
          clear hy hjl HIN hbs HL1 HL2
          go_wp2_with fail
          go_round
          case rel => exact ⟨j + 1, b, by omega, by go_num, rfl, HN⟩
          case measure => simp [intOf]; omega
        have HIN : Hid (remL os (l.take (j + 1)) = remL os (l.take j) ++ [y]) := rem_in hjl hy.out (fun z hz => by have := HL2.out z hz; omega)
        have dg : decide (y > o) = true := by simp; omega
        clear hy hjl HL1 HL2
        by_cases hb0 : b < 0
        · have HN : Hid (Best y (remL os (l.take (j + 1)))) := by show Best _ _; rw [HIN.out]; exact best_new hbs.out (by omega) (.inl hb0)
          clear hbs HIN
          go_wp2_with fail
          go_round
          case rel => exact ⟨j + 1, y, by omega, by go_num, rfl, HN⟩
          case measure => simp [intOf]; omega
        by_cases hyb : y < b
        · have HN : Hid (Best y (remL os (l.take (j + 1)))) := by show Best _ _; rw [HIN.out]; exact best_new hbs.out (by omega) (.inr hyb)
          clear hbs HIN
          go_wp2_with fail
          go_round
          case rel => exact ⟨j + 1, y, by omega, by go_num, rfl, HN⟩
          case measure => simp [intOf]; omega
        · have HN : Hid (Best b (remL os (l.take (j + 1)))) := by show Best _ _; rw [HIN.out]; exact best_old hbs.out hb0 hyb
          clear hbs HIN
          go_wp2_with fail
          go_round
          case rel => exact ⟨j + 1, b, by omega, by go_num, rfl, HN⟩
          case measure => simp [intOf]; omega
end Go.Proofs.YteohdanlcaoaiaaDoor
