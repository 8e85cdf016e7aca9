/- sequences, Sequences: numbers as segments of a kind. -/
import Derived.Test.YtojgohgeagbkbaaCuts
namespace Go.Proofs.Ytojgohgeagbkbaa
open Go.RowKit

def seqsF : Nat → Int → List Int → Path
  | 0, _, _ => []
  | f + 1, k, l => if l.length = 0 then [] else (k, l.take 255) :: seqsF f k (l.drop 255)
/-- numbers as segments of a kind -/
def seqs (k : Int) (l : List Int) : Path := seqsF l.length k l
theorem seqsF_nil (f : Nat) (k : Int) {l : List Int} (h : l.length = 0) : seqsF f k l = [] := by
  cases f with
  | zero => rfl
  | succ f => rw [seqsF, if_pos h]
theorem seqsF_step {f : Nat} {k : Int} {l : List Int} (h : ¬ l.length = 0) : seqsF (f + 1) k l = (k, l.take 255) :: seqsF f k (l.drop 255) := by rw [seqsF, if_neg h]
theorem seqsF_more : ∀ (f g : Nat) (k : Int) (l : List Int), l.length ≤ f → l.length ≤ g → seqsF f k l = seqsF g k l
  | 0, g, k, l, h, _ => by rw [seqsF_nil 0 k (by omega), seqsF_nil g k (by omega)]
  | f + 1, 0, k, l, _, h => by rw [seqsF_nil (f + 1) k (by omega), seqsF_nil 0 k (by omega)]
  | f + 1, g + 1, k, l, h1, h2 => by
    by_cases h : l.length = 0
    · rw [seqsF_nil _ k h, seqsF_nil _ k h]
    · rw [seqsF_step h, seqsF_step h, seqsF_more f g k (l.drop 255) (by rw [List.length_drop]; omega) (by rw [List.length_drop]; omega)]
theorem seqs_step {k : Int} {l : List Int} (h : ¬ l.length = 0) : seqs k l = (k, l.take 255) :: seqs k (l.drop 255) := by
  unfold seqs
  obtain ⟨f, hf⟩ : ∃ f, l.length = f + 1 := ⟨l.length - 1, by omega⟩
  rw [hf, seqsF_step h, seqsF_more f _ k (l.drop 255) (by rw [List.length_drop]; omega) (Nat.le_refl _)]
theorem seqs_nil (k : Int) {l : List Int} (h : l.length = 0) : seqs k l = [] := seqsF_nil _ k h
theorem seqs_flat (k : Int) : ∀ (n : Nat) (l : List Int), l.length ≤ n → flat (seqs k l) = l
  | 0, l, h => by
    rw [seqs_nil k (by omega), List.eq_nil_of_length_eq_zero (by omega : l.length = 0)]
    rfl
  | n + 1, l, h => by
    by_cases h0 : l.length = 0
    · rw [seqs_nil k h0, List.eq_nil_of_length_eq_zero h0]
      rfl
    · rw [seqs_step h0]
      have := seqs_flat k n (l.drop 255) (by rw [List.length_drop]; omega)
      unfold flat at this ⊢
      rw [List.flatMap_cons, this, List.take_append_drop]
theorem seqs_len (k : Int) : ∀ (n : Nat) (l : List Int), l.length ≤ n → (seqs k l).length ≤ l.length
  | 0, l, h => by rw [seqs_nil k (by omega)]; simp
  | n + 1, l, h => by
    by_cases h0 : l.length = 0
    · rw [seqs_nil k h0]; simp
    · rw [seqs_step h0, List.length_cons]
      have := seqs_len k n (l.drop 255) (by rw [List.length_drop]; omega)
      rw [List.length_drop] at this
      omega
/-- the loop -/
def QInv (w : World) (B : Nat) (kind : Int) (l : List Int) (n : Nat) (lv ov : Value) (W : World) : Prop :=
  ∃ (A : Option Addr) (c j m : Nat) (ts : Path), lv = .slice A (n - j) c ∧ j ≤ n ∧ m ≤ j ∧ Hid (Ints w B .i64 A (n - j) c (l.drop j)) ∧ Hid (seqs kind l = ts ++ seqs kind (l.drop j)) ∧ Hid (SOut W w.heap.size w.heap.size ov m ts) ∧ Hid (Below w.heap.size w W)
def lenV (v : Value) : Nat := match v with | .slice _ n _ => n | _ => 0
set_option maxRecDepth 100000 in
set_option maxHeartbeats 4000000 in
theorem sequences_any (kind : Int) (A : Option Addr) (n c B : Nat) (l : List Int) (w : World) (hx : Ints w B .i64 A n c l) (hB : B ≤ w.heap.size) (hn : n ≤ 1000000000000) :
    Calls Try.prog 90 #[.int .i64 kind, .slice A n c] w (GivesSegs (seqs kind l) w) := by
  have HX := Lib.hid hx
  have HL := Lib.hid hx.len
  clear hx
  go_enter Try.func90, Try.ntmps90
  go_wp2
  go_loopw [1, 5] (fun lv ov wr => QInv w B kind l n lv ov wr) (fun lv _ _ => lenV lv)
  case atStart => exact ⟨A, c, 0, 0, [], rfl, Nat.zero_le _, Nat.le_refl _, HX, rfl, SOut.nil _ _ _, Below.refl _ _⟩
  case round =>
    obtain ⟨A1, c1, j, m, ts, rfl, hj, hmj, hi, heq, ho, hbw⟩ := hrel
    have hdl : (l.drop j).length = n - j := by rw [List.length_drop, HL.out]
    obtain ⟨Ao, co, rfl⟩ := ho.out.form
    by_cases h0 : n - j = 0
    · have HF : Hid (seqs kind l = ts) := by show _ = _; rw [heq.out, seqs_nil kind (by omega), List.append_nil]
      have hz : ¬ 0 < n - j := by omega
      have dz : decide (((n - j : Nat) : Int) > 0) = false := by simp; omega
      clear h0
      go_wp2
      go_ret
      exact ⟨Ao, m, co, rfl, by rw [HF.out]; exact ho.out, hbw.out⟩
    have hz : 0 < n - j := by omega
    have dz : decide (((n - j : Nat) : Int) > 0) = true := by simp; omega
    have hst := seqs_step (k := kind) (l := l.drop j) (by omega)
    rw [List.drop_drop] at hst
    obtain ⟨q, hq1, hq2, hq3, hq4⟩ : ∃ q : Nat, (q : Int) = min ((n - j : Nat) : Int) 255 ∧ q ≤ n - j ∧ 0 < q ∧ (l.drop j).take 255 = (l.drop j).take q := by
      by_cases h : n - j ≤ 255
      · exact ⟨n - j, by omega, Nat.le_refl _, by omega, by rw [List.take_of_length_le (by omega), List.take_of_length_le (by omega)]⟩
      · exact ⟨255, by omega, by omega, by omega, rfl⟩
    have hqd : l.drop (j + 255) = l.drop (j + q) := by
      by_cases h : n - j ≤ 255
      · have : q = n - j := by omega
        rw [List.drop_of_length_le (by rw [HL.out]; omega), List.drop_of_length_le (by rw [HL.out]; omega)]
      · have : q = 255 := by omega
        rw [this]
    rw [hqd, hq4] at hst
    obtain ⟨A2, hsl, hi2⟩ := hi.out.slice3 (P := Try.prog) (T := 52) (E := 3) Try.underlying52 (by kernel_rfl) (hi := q) hq2
    obtain ⟨A3, c3, hsf, hi3⟩ := hi.out.sliceFrom (P := Try.prog) (T := 52) (E := 3) Try.underlying52 (by kernel_rfl) (lo := q) (by omega)
    have hba := belowA wr (.cells #[] 3)
    have hwr := hbw.out.size
    obtain ⟨A4, c4, w4, hr4, ho4, hb4⟩ := copy_ints (hi2.below (hbw.out.mono hB)) (Nat.le_trans hB hwr) rfl (by omega)
    have hs4 := ho.out.below hb4
    have hf4 := free_new (lo' := w.heap.size) ho.out ho4 hwr
    obtain ⟨A5, c5, w5, hr5, ho5, hb5⟩ := hs4.push kind ho4.ints hf4 rfl (Nat.le_trans hwr hb4.size) (by omega)
    have HR4 := Lib.hid hr4
    have HR5 := Lib.hid hr5
    have HB5 : Hid (Below w.heap.size w w5) := (below3 hbw.out hb4).trans hb5
    have HO5 := Lib.hid ho5
    rw [List.drop_drop, show n - j - q = n - (j + q) by omega] at hi3
    rw [show n - j - q = n - (j + q) by omega] at hsf
    have HI3 := Lib.hid hi3
    have HEQ : Hid (seqs kind l = (ts ++ [(kind, (l.drop j).take q)]) ++ seqs kind (l.drop (j + q))) := by
      show _ = _
      rw [heq.out, hst]
      simp
    clear hst hqd hq4 hi hi2 hi3 hba hr4 ho4 hb4 hs4 hf4 hr5 ho5 hb5 heq ho hbw hdl h0
    obtain ⟨nj, hnj⟩ : ∃ x, n - j = x := ⟨_, rfl⟩
    rw [hnj] at hsl hsf hq1 hq2 dz hz ⊢
    have hqm : (min (nj : Int) 255) = (q : Int) := hq1.symm
    by_cases hm : nj ≤ 255
    · have hqe : q = nj := by omega
      subst hqe
      have m1 : ((q : Int) < 255 ∨ (q : Int) = 255) := by omega
      have m2 : ¬ (255 : Int) < (q : Int) := by omega
      have m3 : ¬ 255 < q := by omega
      have m4 : (q : Int) ≤ 255 := by omega
      clear hq1 hqm
      go_upto_region 4 with fail
      go_wp2_with (at_builtin; first | (refine wpList_append_run rfl _ _ _ rfl rfl rfl HR4.out ?_; clear HR4) | (refine wpList_append_run rfl _ _ _ rfl rfl rfl HR5.out ?_; clear HR5))
      go_roundw
      case rel => exact ⟨A3, c3, j + q, m + 1, _, rfl, by omega, by omega, HI3, HEQ, HO5, HB5⟩
      case measure => show n - (j + q) < q; omega
    · have hqe : (q : Int) = 255 := by omega
      simp only [hqe] at hsl hsf
      have hq255 : q = 255 := by omega
      have m2 : (255 : Int) < (nj : Int) := by omega
      have m3 : ¬ (nj : Int) ≤ 255 := by omega
      have m4 : ¬ nj ≤ 255 := by omega
      have m5 : ¬ (nj : Int) < 255 := by omega
      have HQ := Lib.hid hq255
      clear hqe hq255
      clear hq1 hqm
      go_upto_region 4 with fail
      go_wp2_with (at_builtin; first | (refine wpList_append_run rfl _ _ _ rfl rfl rfl HR4.out ?_; clear HR4) | (refine wpList_append_run rfl _ _ _ rfl rfl rfl HR5.out ?_; clear HR5))
      go_roundw
      case rel => exact ⟨A3, c3, j + q, m + 1, _, rfl, by have := HQ.out; omega, by omega, HI3, HEQ, HO5, HB5⟩
      case measure => show n - (j + q) < nj; omega
set_option maxRecDepth 100000 in
set_option maxHeartbeats 4000000 in
theorem refSequences_any (kind : Int) (A : Option Addr) (n c B : Nat) (l : List Int) (w : World) (hx : Ints w B .i64 A n c l) (hB : B ≤ w.heap.size) (hn : n ≤ 1000000000000) :
    Calls Try.prog 87 #[.int .i64 kind, .slice A n c] w (GivesSegs (seqs kind l) w) := by
  have HX := Lib.hid hx
  have HL := Lib.hid hx.len
  clear hx
  go_enter Try.func87, Try.ntmps87
  go_wp2
  go_loopw [1, 5] (fun lv ov wr => QInv w B kind l n lv ov wr) (fun lv _ _ => lenV lv)
  case atStart => exact ⟨A, c, 0, 0, [], rfl, Nat.zero_le _, Nat.le_refl _, HX, rfl, SOut.nil _ _ _, Below.refl _ _⟩
  case round =>
    obtain ⟨A1, c1, j, m, ts, rfl, hj, hmj, hi, heq, ho, hbw⟩ := hrel
    have hdl : (l.drop j).length = n - j := by rw [List.length_drop, HL.out]
    obtain ⟨Ao, co, rfl⟩ := ho.out.form
    by_cases h0 : n - j = 0
    · have HF : Hid (seqs kind l = ts) := by show _ = _; rw [heq.out, seqs_nil kind (by omega), List.append_nil]
      have hz : ¬ 0 < n - j := by omega
      have dz : decide (((n - j : Nat) : Int) > 0) = false := by simp; omega
      clear h0
      go_wp2
      go_ret
      exact ⟨Ao, m, co, rfl, by rw [HF.out]; exact ho.out, hbw.out⟩
    have hz : 0 < n - j := by omega
    have dz : decide (((n - j : Nat) : Int) > 0) = true := by simp; omega
    have hst := seqs_step (k := kind) (l := l.drop j) (by omega)
    rw [List.drop_drop] at hst
    obtain ⟨q, hq1, hq2, hq3, hq4⟩ : ∃ q : Nat, (q : Int) = min ((n - j : Nat) : Int) 255 ∧ q ≤ n - j ∧ 0 < q ∧ (l.drop j).take 255 = (l.drop j).take q := by
      by_cases h : n - j ≤ 255
      · exact ⟨n - j, by omega, Nat.le_refl _, by omega, by rw [List.take_of_length_le (by omega), List.take_of_length_le (by omega)]⟩
      · exact ⟨255, by omega, by omega, by omega, rfl⟩
    have hqd : l.drop (j + 255) = l.drop (j + q) := by
      by_cases h : n - j ≤ 255
      · have : q = n - j := by omega
        rw [List.drop_of_length_le (by rw [HL.out]; omega), List.drop_of_length_le (by rw [HL.out]; omega)]
      · have : q = 255 := by omega
        rw [this]
    rw [hqd, hq4] at hst
    obtain ⟨A2, c2, hsl, hi2⟩ := hi.out.sliceTo (P := Try.prog) (T := 52) (E := 3) Try.underlying52 (by kernel_rfl) (hi := q) hq2
    obtain ⟨A3, c3, hsf, hi3⟩ := hi.out.sliceFrom (P := Try.prog) (T := 52) (E := 3) Try.underlying52 (by kernel_rfl) (lo := q) (by omega)
    have hba := belowA wr (.cells #[] 3)
    have hwr := hbw.out.size
    obtain ⟨A4, c4, w4, hr4, ho4, hb4⟩ := copy_ints (hi2.below (hbw.out.mono hB)) (Nat.le_trans hB hwr) rfl (by omega)
    have hs4 := ho.out.below hb4
    have hf4 := free_new (lo' := w.heap.size) ho.out ho4 hwr
    obtain ⟨A5, c5, w5, hr5, ho5, hb5⟩ := hs4.push kind ho4.ints hf4 rfl (Nat.le_trans hwr hb4.size) (by omega)
    have HR4 := Lib.hid hr4
    have HR5 := Lib.hid hr5
    have HB5 : Hid (Below w.heap.size w w5) := (below3 hbw.out hb4).trans hb5
    have HO5 := Lib.hid ho5
    rw [List.drop_drop, show n - j - q = n - (j + q) by omega] at hi3
    rw [show n - j - q = n - (j + q) by omega] at hsf
    have HI3 := Lib.hid hi3
    have HEQ : Hid (seqs kind l = (ts ++ [(kind, (l.drop j).take q)]) ++ seqs kind (l.drop (j + q))) := by
      show _ = _
      rw [heq.out, hst]
      simp
    clear hst hqd hq4 hi hi2 hi3 hba hr4 ho4 hb4 hs4 hf4 hr5 ho5 hb5 heq ho hbw hdl h0
    obtain ⟨nj, hnj⟩ : ∃ x, n - j = x := ⟨_, rfl⟩
    rw [hnj] at hsl hsf hq1 hq2 dz hz ⊢
    have hqm : (min (nj : Int) 255) = (q : Int) := hq1.symm
    by_cases hm : nj ≤ 255
    · have hqe : q = nj := by omega
      subst hqe
      have m1 : ((q : Int) < 255 ∨ (q : Int) = 255) := by omega
      have m2 : ¬ (255 : Int) < (q : Int) := by omega
      have m3 : ¬ 255 < q := by omega
      have m4 : (q : Int) ≤ 255 := by omega
      clear hq1 hqm
      go_upto_region 4 with fail
      go_wp2_with (at_builtin; first | (refine wpList_append_run rfl _ _ _ rfl rfl rfl HR4.out ?_; clear HR4) | (refine wpList_append_run rfl _ _ _ rfl rfl rfl HR5.out ?_; clear HR5))
      go_roundw
      case rel => exact ⟨A3, c3, j + q, m + 1, _, rfl, by omega, by omega, HI3, HEQ, HO5, HB5⟩
      case measure => show n - (j + q) < q; omega
    · have hqe : (q : Int) = 255 := by omega
      simp only [hqe] at hsl hsf
      have hq255 : q = 255 := by omega
      have m2 : (255 : Int) < (nj : Int) := by omega
      have m3 : ¬ (nj : Int) ≤ 255 := by omega
      have m4 : ¬ nj ≤ 255 := by omega
      have m5 : ¬ (nj : Int) < 255 := by omega
      have HQ := Lib.hid hq255
      clear hqe hq255
      clear hq1 hqm
      go_upto_region 4 with fail
      go_wp2_with (at_builtin; first | (refine wpList_append_run rfl _ _ _ rfl rfl rfl HR4.out ?_; clear HR4) | (refine wpList_append_run rfl _ _ _ rfl rfl rfl HR5.out ?_; clear HR5))
      go_roundw
      case rel => exact ⟨A3, c3, j + q, m + 1, _, rfl, by have := HQ.out; omega, by omega, HI3, HEQ, HO5, HB5⟩
      case measure => show n - (j + q) < nj; omega
end Go.Proofs.Ytojgohgeagbkbaa
