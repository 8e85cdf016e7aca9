/- slices.Chunk: the iterator's contract. -/
import Derived.Test.YtojgohgeagbkbaaFnc
import Derived.Test.YtojgohgeagbkbaaSeqs
namespace Go.Proofs.Ytojgohgeagbkbaa
open Go.RowKit Go.Shelf

set_option linter.unusedSimpArgs false
set_option linter.unusedVariables false
attribute [local go_sem] Oper.semAt_some
/-- where a cut of a slice begins -/
def cutA (A : Option Addr) (lo m : Nat) : Option Addr := if m = 0 then A else A.map (·.add lo)
theorem run_cut3 {P : Program} {T E : TypeId} (hT : P.underlying T = some (.slice E)) (hE : (P.info? E).map (fun i => i.size) = some 1) (A : Option Addr) (n c lo m : Nat) (h2 : lo + m ≤ c) :
    ∀ w : World, (Instr.slice T (.slice A n c) (some (.int .i64 lo)) (some (.int .i64 ((lo : Int) + (m : Int)))) (some (.int .i64 ((lo : Int) + (m : Int))))).run P w = .ok (.slice (cutA A lo m) m m) w := by
  intro w
  obtain ⟨i, hi', hs⟩ : ∃ i, P.info? E = some i ∧ i.size = 1 := by
    cases h : P.info? E with
    | none => rw [h] at hE; cases hE
    | some i => rw [h] at hE; exact ⟨i, rfl, by simpa using hE⟩
  obtain ⟨hi, hhi⟩ : ∃ hi, lo + m = hi := ⟨_, rfl⟩
  have ec : (lo : Int) + (m : Int) = (hi : Int) := by omega
  have e1 : (0 : Int) ≤ (lo : Int) := by omega
  have e2 : (lo : Int) ≤ (hi : Int) := by omega
  have e3 : (hi : Int) ≤ (c : Int) := by omega
  have e5 : hi - lo = m := by omega
  have e6 : (hi = lo) = (m = 0) := by apply propext; omega
  rw [ec]
  simp [Instr.slice, run_underlying hT, Instr.sliceBounds, run_sliceBound, e1, e2, e3, e5, e6, sizeOf, typeInfo, hi', hs, cutA]
theorem ints_cut {w : World} {B n c lo m : Nat} {A : Option Addr} {xs : List Int} (h : Ints w B .i64 A n c xs) (hm : m = 0 ∨ lo + m ≤ n) : Ints w B .i64 (cutA A lo m) m m ((xs.drop lo).take m) := by
  rcases Nat.eq_zero_or_pos m with h0 | h0
  · subst h0
    refine ⟨Nat.le_refl _, by simp [maxLen], by simp, fun hh => absurd hh (by omega)⟩
  have hm' : lo + m ≤ n := by omega
  have hl := h.len
  obtain ⟨b, o, rfl, hb, hc⟩ := h.2.2.2 (by omega)
  have hcm := h.2.1
  have hnc := h.1
  refine ⟨Nat.le_refl _, by omega, by simp; omega, fun hh => ⟨b, o + lo, ?_, hb, fun j hj => ?_⟩⟩
  · unfold cutA
    rw [if_neg (by omega)]
    by_cases h1 : lo = 0 <;> simp [Addr.add, h1]
  · rw [Nat.add_assoc, hc (lo + j) (by omega)]
    simp only [List.map_take, List.map_drop]
    rw [List.getElem?_take, if_pos (by omega), List.getElem?_drop]
/-- a chunk: where it begins and how long it is -/
abbrev Chk (n : Nat) := { x : Nat × Nat // x.2 = 0 ∨ x.1 + x.2 ≤ n }
def chkP (l : List Int) {n : Nat} (x : Chk n) : Int × List Int := (2, (l.drop x.1.1).take x.1.2)
/-- what a round keeps: the boxes of the iterator -/
def KpC (N1 B3 : Nat) (W W' : World) : Prop := ∀ k, k < N1 → k ≠ B3 → W'.heap[k]? = W.heap[k]?
theorem kpC_t {N1 B3 : Nat} {A B C : World} (h : KpC N1 B3 A B) (k : KpC N1 B3 B C) : KpC N1 B3 A C := fun i hi hn => (k i hi hn).trans (h i hi hn)
theorem chunk_any (A : Option Addr) (n c : Nat) (w : World) :
    Calls Try.prog 94 #[.slice A n c, .int .i64 255] w fun e w' => e = .returned (.func (.func 96) #[] #[.pointer (some ⟨w.heap.size, 0, none⟩), .pointer (some ⟨w.heap.size + 1, 0, none⟩)]) ∧
      w' = (w.alloc (.cells #[.slice A n c] 52)).alloc (.cells #[.int .i64 255] 3) := by
  go_enter Try.func94, Try.ntmps94
  go_wp2
  go_ret
  exact ⟨rfl, rfl⟩
set_option maxRecDepth 100000 in
set_option maxHeartbeats 8000000 in
theorem chunk1_in (n2 : Nat) (hn2 : 1 ≤ n2) (l b1 b2 B3 N1 : Nat) (A : Option Addr) (n c : Nat) (xs : List Int) (hnc : n ≤ c) (hl : xs.length = n) (hn : n ≤ 1000000000) (h1 : b1 < N1 ∧ b1 ≠ B3) (h2 : b2 < N1 ∧ b2 ≠ B3) (J Jx : List (Chk n) → World → Prop)
    (hY : ∀ pre x W, J pre W → pre.length < n → YieldAt Fence.wide (n2 - 1) Try.prog l #[.slice (cutA A x.1.1 x.1.2) x.1.2 x.1.2] W fun e W' =>
      (e = .returned (.bool true) ∧ J (pre ++ [x]) W' ∧ KpC N1 B3 W W') ∨ (e = .returned (.bool false) ∧ Jx (pre ++ [x]) W'))
    (Nx : Nat) (hAb : AbidesFrom Nx J) (W : World) (hB1 : W.cell? ⟨b1, 0, none⟩ = some (.slice A n c)) (hB2 : W.cell? ⟨b2, 0, none⟩ = some (.int .i64 255)) (h0 : J [] W) :
    CallsIn Fence.wide n2 Try.prog 96 #[.func (.yield l) #[] #[], .pointer (some ⟨b1, 0, none⟩), .pointer (some ⟨b2, 0, none⟩)] W fun e W' => (∃ v, e = .returned v) ∧
      ((∃ ys, ys.map (chkP xs) = seqs 2 xs ∧ J ys W') ∨ (∃ pre, True ∧ Jx pre W')) := by
  have HB1 := Lib.hid hB1
  have HB2 := Lib.hid hB2
  refine callsIn_of_wp Try.func96 rfl trivial ?_ rfl
  simp only [Try.ntmps96, List.size_toArray, List.length_cons, List.length_nil, Nat.reduceAdd, Nat.reduceSub, Array.replicate_succ, Array.replicate_zero, List.push_toArray, List.append_toArray, List.nil_append, List.cons_append]
  gi_wp2
  gi_loopw [4] (fun i wr => ∃ (k : Nat) (pre : List (Chk n)), 255 * k < n + 255 ∧ i = .int .i64 ((255 * k : Nat) : Int) ∧ Hid (pre.length = k ∧ pre.map (chkP xs) ++ seqs 2 (xs.drop (255 * k)) = seqs 2 xs) ∧ Hid (J pre wr) ∧ Hid (KpC N1 B3 W wr))
    (fun i _ => n + 255 - (intOf i).toNat)
  case atStart => exact ⟨0, [], by omega, rfl, ⟨rfl, rfl⟩, h0, fun _ _ _ => rfl⟩
  case round =>
    obtain ⟨k, pre, hk, rfl, hpre, hJ, hkp⟩ := hrel
    have c1 : wr.cell? ⟨b1, 0, none⟩ = some (.slice A n c) := by
      have := HB1.out
      unfold World.cell? at this ⊢
      rw [hkp.out b1 h1.1 h1.2]
      exact this
    have c2 : wr.cell? ⟨b2, 0, none⟩ = some (.int .i64 255) := by
      have := HB2.out
      unfold World.cell? at this ⊢
      rw [hkp.out b2 h2.1 h2.2]
      exact this
    clear hB1 hB2
    obtain ⟨i0, hi0⟩ : ∃ i0, 255 * k = i0 := ⟨_, rfl⟩
    rw [hi0] at hk hpre ⊢
    by_cases hlt : i0 < n
    case neg =>
      have hnil : xs.drop i0 = [] := List.drop_eq_nil_of_le (by omega)
      have HE : Hid (pre.map (chkP xs) = seqs 2 xs) := by
        have := hpre.out.2
        rw [hnil, seqs_nil 2 rfl, List.append_nil] at this
        exact this
      clear hpre hnil hi0 hY
      gi_wp2
      go_end0
      exact ⟨⟨_, rfl⟩, .inl ⟨pre, HE.out, hJ.out⟩⟩
    obtain ⟨m, hm1, hm2, hm3, hm4⟩ : ∃ m : Nat, (m : Int) = min 255 ((n - i0 : Nat) : Int) ∧ m ≤ n - i0 ∧ 0 < m ∧ (xs.drop i0).take 255 = (xs.drop i0).take m := by
      by_cases h : n - i0 ≤ 255
      · exact ⟨n - i0, by omega, Nat.le_refl _, by omega, by rw [List.take_of_length_le (by rw [List.length_drop]; omega), List.take_of_length_le (by rw [List.length_drop]; omega)]⟩
      · exact ⟨255, by omega, by omega, by omega, rfl⟩
    have hst := seqs_step (k := 2) (l := xs.drop i0) (by rw [List.length_drop]; omega)
    rw [List.drop_drop, hm4] at hst
    obtain ⟨x, hx1, hx2⟩ : ∃ x : Chk n, x.1.1 = i0 ∧ x.1.2 = m := ⟨⟨(i0, m), .inr (by dsimp only; omega)⟩, rfl, rfl⟩
    have HN : Hid ((pre ++ [x]).length = k + 1 ∧ (pre ++ [x]).map (chkP xs) ++ seqs 2 (xs.drop (255 * (k + 1))) = seqs 2 xs) := by
      refine ⟨by rw [List.length_append, hpre.out.1]; rfl, ?_⟩
      have ex : chkP xs x = (2, (xs.drop i0).take m) := by unfold chkP; rw [hx1, hx2]
      rw [List.map_append, ← hpre.out.2, hst, Nat.mul_add, hi0, List.append_assoc, List.map_cons, List.map_nil, ex]
      rfl
    obtain ⟨A', c', hs1⟩ : ∃ A' c', ∀ w : World, (Instr.slice 52 (.slice A n c) (some (.int .i64 (i0 : Int))) none none).run Try.prog w = .ok (.slice A' (n - i0) c') w := by
      have e1 : (0 : Int) ≤ (i0 : Int) := by omega
      have e2 : (i0 : Int) ≤ (n : Int) := by omega
      have hT := Try.underlying52
      refine ⟨if c = i0 then A else A.map (·.add (i0 * 1)), c - i0, fun w => ?_⟩
      obtain ⟨i, hi', hs⟩ : ∃ i, Try.prog.info? 3 = some i ∧ i.size = 1 := by
        obtain ⟨i0', q1, q2, q3, q4⟩ := info_parts int_info
        exact ⟨i0', q1, q3⟩
      simp [Instr.slice, run_underlying hT, Instr.sliceBounds, run_sliceBound, e1, e2, sizeOf, typeInfo, hi', hs]
    have hs2 := run_cut3 (P := Try.prog) (T := 52) (E := 3) Try.underlying52 (by kernel_rfl) A n c i0 m (by omega)
    have hlti : (i0 : Int) < (n : Int) := by omega
    have HY := Lib.hid fun (q : Nat) => hY pre x (wr.drewN q) (hAb _ _ _ none hJ.out ⟨rfl, rfl, rfl, Nat.le_refl _, fun _ _ _ => rfl⟩ (fun r h => by cases h)) (by have := hpre.out.1; omega)
    have hmif : (if ((n - i0 : Nat) : Int) < 255 then ((n - i0 : Nat) : Int) else 255) = (m : Int) := by rw [hm1]; split <;> omega
    have HK1 : Hid (255 * (k + 1) < n + 255) := by show _ < _; omega
    clear hst hm4 hY hpre hm1
    gi_wp2
    refine wpIn_wide.2 ?_
    go_quiet (fail)
    obtain ⟨fn, tmps, assign, body, hy, hR⟩ := HY.out nq
    rw [hx1, hx2] at hy
    clear hx1 hx2 HY
    clear hmif
    gi_wp2
    refine hR.mono ?_
    rintro e W3 (⟨rfl, hJ3, hk3⟩ | ⟨rfl, hJx3⟩)
    · have HJ3 := Lib.hid hJ3
      have HK3 : Hid (KpC N1 B3 W W3) := kpC_t hkp.out hk3
      have c2 : W3.cell? ⟨b2, 0, none⟩ = some (.int .i64 255) := by
        have := HB2.out
        unfold World.cell? at this ⊢
        rw [HK3.out b2 h2.1 h2.2]
        exact this
      clear hJ3 hk3 hJ hkp hy hR
      gi_wp2
      go_roundw
      case rel => exact ⟨k + 1, pre ++ [x], HK1.out, by rw [Nat.mul_add, hi0]; rfl, HN, HJ3, HK3⟩
      case measure => simp [intOf]; omega
    · gi_wp2
      refine bodyPost_ret (results_none rfl _ _ _) rfl ?_
      exact ⟨⟨_, rfl⟩, .inr ⟨_, trivial, hJx3⟩⟩
end Go.Proofs.Ytojgohgeagbkbaa
