/- Text: the program's. -/
import Derived.Test.YteohdanlcaoaiaaDoorListWalk
namespace Go.Proofs.YteohdanlcaoaiaaDoor
open Go.RowKit

def GivesStrErr (q : List UInt8 × Int) (w : World) (e : Ending) (w' : World) : Prop := e = .returned (.tuple #[.string (strB q.1), .int .i64 q.2]) ∧ Below w.heap.size w w'
/-- the text under way at segment k -/
def TAt (p : Path) (k : Nat) (b : ByteArray) : Prop := if k = 0 then b.data.toList = [] else b.data.toList ≠ [] ∧ txt p = b.data.toList ++ spt (p.drop k)
def TInv (w : World) (p : Path) (n : Nat) (tv iv : Value) (W : World) : Prop := ∃ (k : Nat) (b : ByteArray), k ≤ n ∧ iv = .int .i64 k ∧ tv = .string b ∧ Hid (TAt p k b) ∧ Hid (Below w.heap.size w W)
theorem TAt.zero {p : Path} {b b' : ByteArray} {P : List UInt8} {j : Nat} (h : TAt p 0 b) (hP : P ≠ []) (hp : txt (p.drop 0) = P ++ spt (p.drop (j + 1))) (hb : b'.data.toList = b.data.toList ++ P) : TAt p (j + 1) b' := by
  unfold TAt at h ⊢
  rw [if_pos rfl] at h
  rw [if_neg (by omega), hb, h]
  exact ⟨by simpa using hP, by simpa using hp⟩
theorem TAt.next {p : Path} {b b' : ByteArray} {P : List UInt8} {k j : Nat} (h : TAt p k b) (hk : ¬ k = 0) (hkn : k < p.length) (hp : txt (p.drop k) = P ++ spt (p.drop (j + 1))) (hb : b'.data.toList = (b.data.toList ++ [32]) ++ P) : TAt p (j + 1) b' := by
  unfold TAt at h ⊢
  rw [if_neg hk] at h
  rw [if_neg (by omega), hb]
  refine ⟨by simp, ?_⟩
  rw [h.2]
  have : spt (p.drop k) = 32 :: txt (p.drop k) := by
    unfold spt
    rw [if_neg]
    intro hh
    have := congrArg List.length hh
    rw [List.length_drop, List.length_nil] at this
    omega
  rw [this, hp]
  simp
theorem TAt.done {p : Path} {b : ByteArray} {k : Nat} (h : TAt p k b) (hk : k = p.length) : b.data.toList = txt p := by
  unfold TAt at h
  by_cases h0 : k = 0
  · rw [if_pos h0] at h
    have : p = [] := List.eq_nil_of_length_eq_zero (by omega)
    rw [h, this]
    rfl
  · rw [if_neg h0] at h
    rw [h.2, List.drop_of_length_le (by omega)]
    simp [spt]
theorem TAt.short {p : Path} {b : ByteArray} {k : Nat} (h : TAt p k b) : b.data.toList.length ≤ (txt p).length := by
  unfold TAt at h
  by_cases h0 : k = 0
  · rw [if_pos h0] at h; rw [h]; simp
  · rw [if_neg h0] at h; rw [h.2, List.length_append]; omega
theorem TAt.empty {p : Path} {b : ByteArray} {k : Nat} (h : TAt p k b) : b.toList.isEmpty = decide (k = 0) := by
  rw [isEmpty_size, size_list]
  unfold TAt at h
  by_cases h0 : k = 0
  · rw [if_pos h0] at h; rw [h]; simp [h0]
  · rw [if_neg h0] at h
    have : ¬ b.data.toList.length = 0 := fun e => h.1 (List.eq_nil_of_length_eq_zero e)
    rw [decide_eq_false this, decide_eq_false h0]
theorem drop_next {p : Path} {k : Nat} {s : Int × List Int} (h : p[k]? = some s) : p.drop k = s :: p.drop (k + 1) := drop_get h
theorem word_ne {k : Int} {l : List Int} (h : l ≠ []) : wordR k l ≠ [] := by
  unfold wordR
  split
  · exact sepd_ne h
  · split
    · simp
    · split <;> simp
theorem range_run {p : Path} (h : rangeB (flat p) = true) (a m : Nat) : rangeB (flat ((p.drop a).take m)) = true := by
  have h1 := range_drop h a
  have : flat (p.drop a) = flat ((p.drop a).take m) ++ flat ((p.drop a).drop m) := by
    conv => lhs; rw [← List.take_append_drop m (p.drop a)]
    unfold flat
    rw [List.flatMap_append]
  rw [this, range_app, Bool.and_eq_true] at h1
  exact h1.1
theorem flat_run_le (p : Path) (a m : Nat) : (flat ((p.drop a).take m)).length ≤ (flat p).length := by
  have h1 : (flat ((p.drop a).take m)).length ≤ (flat (p.drop a)).length := flat_take _ _
  have h2 : flat p = flat (p.take a) ++ flat (p.drop a) := by
    conv => lhs; rw [← List.take_append_drop a p]
    unfold flat
    rw [List.flatMap_append]
  have h3 := congrArg List.length h2
  rw [List.length_append] at h3
  omega
/-- the inner loop: segments k to j are of kind 3 -/
def RnInv (w : World) (p : Path) (n k : Nat) (iv lv : Value) (W : World) : Prop :=
  ∃ j : Nat, k ≤ j ∧ j < n ∧ iv = .int .i64 j ∧ Hid (j - k ≤ runL 3 (p.drop (k + 1))) ∧ Hid (Own W w.heap.size 3 .i64 lv (flat ((p.drop k).take (j - k + 1))).length (flat ((p.drop k).take (j - k + 1)))) ∧ Hid (Below w.heap.size w W)
theorem txt_run_at {p : Path} {k j : Nat} {xs : List Int} (h : p[k]? = some (3, xs)) (hj : k ≤ j) (hr : runL 3 (p.drop (k + 1)) = j - k) : txt (p.drop k) = wordR 3 (flat ((p.drop k).take (j - k + 1))) ++ spt (p.drop (j + 1)) := by
  have e1 : flat (((3, xs) :: p.drop (k + 1)).take (j - k + 1)) = xs ++ flat ((p.drop (k + 1)).take (j - k)) := by simp [flat]
  rw [drop_next h, txt_run (by decide) (j - k) xs _ hr.symm, e1, List.drop_drop, show k + 1 + (j - k) = j + 1 by omega]
theorem flat_more {p : Path} {k j : Nat} {s : Int × List Int} (hj : k ≤ j) (h : p[j + 1]? = some s) : flat ((p.drop k).take (j + 1 - k + 1)) = flat ((p.drop k).take (j - k + 1)) ++ s.2 := by
  rw [show j + 1 - k + 1 = (j - k + 1) + 1 by omega]
  exact flat_succ (by rw [List.getElem?_drop, show k + (j - k + 1) = j + 1 by omega]; exact h)
set_option linter.unusedSimpArgs false in
set_option maxRecDepth 100000 in
set_option maxHeartbeats 8000000 in
theorem text_any (A : Option Addr) (n c : Nat) (p : Path) (w : World) (hx : Segs w w.heap.size A n c p) (hs : Sm p) (henv : Env w) :
    Calls Tryd.prog 33 #[.slice A n c] w (GivesStrErr (textR p) w) := by
  have HX := Lib.hid hx
  have HL := Lib.hid hx.len
  have HENV := Lib.hid henv
  have hn : n ≤ 1000000 := by have h1 := hx.len; unfold Sm at hs; omega
  have HFM : Hid ((flat p).length ≤ 1000000) := by show _ ≤ _; unfold Sm at hs; omega
  clear hx hs henv
  go_enter Tryd.func33, Tryd.ntmps33
  go_wp2_with fail
  refine (check_any A n c p w HX.out (by omega)).mono ?_
  rintro e w1 ⟨rfl, hb1⟩
  have HB1 := Lib.hid hb1
  by_cases he : pathErr p = 0
  case neg =>
    have HF : Hid (textR p = ([], pathErr p)) := if_neg he
    obtain ⟨g, hg⟩ : ∃ g, pathErr p = g := ⟨_, rfl⟩
    rw [hg] at HF he ⊢
    have d : (g != 0) = true := by simp [he]
    clear he hg hb1
    go_wp2
    go_ret2
    rw [HF.out]
    exact ⟨rfl, HB1.out⟩
  have HF : Hid (textR p = (txt p, 0)) := if_pos he
  have HVA : Hid (∀ s ∈ p, (1 ≤ s.1 ∧ s.1 ≤ 4) ∧ s.2 ≠ [] ∧ s.2.length ≤ 255 ∧ rangeB s.2 = true ∧ (setB s.1 = true → ascB s.2 = true)) := fun s h => valid_seg he h
  have HRG : Hid (rangeB (flat p) = true) := valid_range he
  have hn64 : n ≤ 64 := by have := (pathErr_parts he).1; have := HL.out; omega
  have HTX : Hid ((txt p).length ≤ 11000192) := by
    show _ ≤ _
    have h1 := txt_short HRG.out
    have h2 := HFM.out
    have h3 := HL.out
    omega
  rw [he]
  clear he hb1
  go_wp2
  go_loopw [5, 6] (fun tv iv wr => TInv w p n tv iv wr) (fun _ iv _ => n - (intOf iv).toNat)
  case atStart => exact ⟨0, ByteArray.empty, Nat.zero_le _, rfl, rfl, by show TAt _ _ _; unfold TAt; rw [if_pos rfl]; rfl, HB1⟩
  case round =>
    obtain ⟨k, b, hk, rfl, rfl, hb, hbw⟩ := hrel
    by_cases hlt : k < n
    case neg =>
      obtain rfl : k = n := by omega
      have HE : Hid (b = strB (txt p)) := strB_of (hb.out.done HL.out.symm)
      go_wp2
      go_ret2
      rw [HF.out]
      exact ⟨by rw [← HE.out]; rfl, hbw.out⟩
    have HTF := HF
    clear HF
    obtain ⟨b2, o2, f, rfl, hbB, hf, g0, g1, hi⟩ := (HX.out.below hbw.out).get hlt
    obtain ⟨y, fA, fn, fc, xs⟩ := f
    dsimp only at g0 g1 hi
    have hwr := hbw.out.size
    have HF : Hid (p[k]? = some (y, xs)) := hf
    have hv := HVA.out _ (List.mem_of_getElem? HF.out)
    dsimp only at hv
    have hfl : xs.length = fn := hi.out.len
    have hfn : fn ≤ 255 := by have := hv.2.2.1; omega
    have hbs : b.size ≤ 11000192 := by rw [size_list]; exact Nat.le_trans hb.out.short HTX.out
    have hbwr : b2 < wr.heap.size := by omega
    have hy4 : y = 2 ∨ y = 1 ∨ y = 4 ∨ y = 3 := by omega
    clear hf
    rcases hy4 with rfl | rfl | rfl | rfl
    · go_wp2_with fail
      refine (list_any fA fn fc _ xs (⟨#[32]⟩ : ByteArray) 32 wr (hi.out) hwr rfl hv.2.2.2.1 (by omega) (HENV.out.below hbw.out)).mono ?_
      rintro e w2 ⟨rfl, hb2⟩
      have HBT := Lib.hid (below3 hbw.out hb2)
      have hps : (sepd 32 xs).length ≤ 2805 := by have := sepd_short 32 xs hv.2.2.2.1; omega
      obtain ⟨pt, hx0⟩ : ∃ x, strB (sepd 32 xs) = x := ⟨_, rfl⟩
      have hpz : pt.size ≤ 2805 := by rw [← hx0, strB_size]; exact hps
      have hpl : pt.data.toList = sepd 32 xs := by rw [← hx0, strB_list]
      rw [hx0]
      have HPT : Hid (txt (p.drop k) = pt.data.toList ++ spt (p.drop (k + 1))) := by
        show _ = _
        rw [hpl, drop_next HF.out, txt_seq hv.2.1 (fun t ht => (HVA.out t (List.mem_of_mem_drop ht)).2.1)]
      have HPN : Hid (pt.data.toList ≠ []) := by show _ ≠ _; rw [hpl]; exact sepd_ne hv.2.1
      clear hb2 hx0 hps hpl
      go_upto_region 22 with fail
      clear hv hi
      by_cases hk0 : k = 0
      · have hbe : b.toList.isEmpty = true := by rw [hb.out.empty]; simp [hk0]
        have hbe2 : (!b.toList.isEmpty) = false := by rw [hbe]; rfl
        have hsz : b.size + pt.size ≤ 9223372036854775807 := by omega
        have hsz2 : (b.size : Int) + (pt.size : Int) ≤ 9223372036854775807 := by omega
        have HN : Hid (TAt p (k + 1) (b ++ pt)) := by
          subst hk0
          exact hb.out.zero HPN.out HPT.out (by rw [add_list])
        clear hk0 hb HPT HPN
        go_wp2
        go_roundw
        case rel => exact ⟨k + 1, b ++ pt, by omega, by go_num, rfl, HN, HBT⟩
        case measure => simp [intOf] <;> omega
      · have hbe : b.toList.isEmpty = false := by rw [hb.out.empty]; simp [hk0]
        have hbe2 : (!b.toList.isEmpty) = true := by rw [hbe]; rfl
        have hsz : b.size + 1 ≤ 9223372036854775807 := by omega
        have hsz1 : (b.size : Int) + 1 ≤ 9223372036854775807 := by omega
        have hsz2 : b.size + 1 + pt.size ≤ 9223372036854775807 := by omega
        have hsz3 : (b.size : Int) + 1 + (pt.size : Int) ≤ 9223372036854775807 := by omega
        have HN : Hid (TAt p (k + 1) ((b ++ (⟨#[32]⟩ : ByteArray)) ++ pt)) := hb.out.next hk0 (by rw [HL.out]; exact hlt) HPT.out (by rw [add_list, add_list])
        clear hk0 hb HPT HPN
        go_wp2
        go_roundw
        case rel => exact ⟨k + 1, (b ++ (⟨#[32]⟩ : ByteArray)) ++ pt, by omega, by go_num, rfl, HN, HBT⟩
        case measure => simp [intOf] <;> omega
    · have HG : Hid (fA = fA) := rfl
      go_wp2_with fail
      refine (list_any fA fn fc _ xs (⟨#[44]⟩ : ByteArray) 44 wr (hi.out) hwr rfl hv.2.2.2.1 (by omega) (HENV.out.below hbw.out)).mono ?_
      rintro e w2 ⟨rfl, hb2⟩
      have HBT := Lib.hid (below3 hbw.out hb2)
      have hps : (sepd 44 xs).length ≤ 2805 := by have := sepd_short 44 xs hv.2.2.2.1; omega
      obtain ⟨x0, hx0⟩ : ∃ x, strB (sepd 44 xs) = x := ⟨_, rfl⟩
      have hxs : x0.size ≤ 2805 := by rw [← hx0, strB_size]; exact hps
      have HX0 : Hid (x0.data.toList = sepd 44 xs) := by show _ = _; rw [← hx0, strB_list]
      rw [hx0]
      have z1 : 1 + x0.size ≤ 9223372036854775807 := by omega
      have z2 : (1 : Int) + (x0.size : Int) ≤ 9223372036854775807 := by omega
      have z3 : 1 + x0.size + 1 ≤ 9223372036854775807 := by omega
      have z4 : (1 : Int) + (x0.size : Int) + 1 ≤ 9223372036854775807 := by omega
      clear hb2 hx0 hps
      go_upto_region 22 with fail
      obtain ⟨pt, hpt⟩ : ∃ x, ((⟨#[123]⟩ : ByteArray) ++ x0) ++ (⟨#[125]⟩ : ByteArray) = x := ⟨_, rfl⟩
      have hpl : pt.data.toList = wordR 1 xs := by rw [← hpt, add_list, add_list, HX0.out]; simp [wordR]
      have hpz : pt.size ≤ 3000 := by
        rw [size_list, hpl]
        have := word_short (k := 1) hv.2.2.2.1
        omega
      rw [hpt]
      have HPT : Hid (txt (p.drop k) = pt.data.toList ++ spt (p.drop (k + 1))) := by
        show _ = _
        rw [hpl, drop_next HF.out, txt_single (.inl (show seqB 1 = false by decide))]
      have HPN : Hid (pt.data.toList ≠ []) := by show _ ≠ _; rw [hpl]; exact word_ne hv.2.1
      clear hpt hpl HX0 z1 z2 z3 z4 hv hi
      by_cases hk0 : k = 0
      · have hbe : b.toList.isEmpty = true := by rw [hb.out.empty]; simp [hk0]
        have hbe2 : (!b.toList.isEmpty) = false := by rw [hbe]; rfl
        have hsz : b.size + pt.size ≤ 9223372036854775807 := by omega
        have hsz2 : (b.size : Int) + (pt.size : Int) ≤ 9223372036854775807 := by omega
        have HN : Hid (TAt p (k + 1) (b ++ pt)) := by
          subst hk0
          exact hb.out.zero HPN.out HPT.out (by rw [add_list])
        clear hk0 hb HPT HPN
        go_wp2
        go_roundw
        case rel => exact ⟨k + 1, b ++ pt, by omega, by go_num, rfl, HN, HBT⟩
        case measure => simp [intOf] <;> omega
      · have hbe : b.toList.isEmpty = false := by rw [hb.out.empty]; simp [hk0]
        have hbe2 : (!b.toList.isEmpty) = true := by rw [hbe]; rfl
        have hsz : b.size + 1 ≤ 9223372036854775807 := by omega
        have hsz1 : (b.size : Int) + 1 ≤ 9223372036854775807 := by omega
        have hsz2 : b.size + 1 + pt.size ≤ 9223372036854775807 := by omega
        have hsz3 : (b.size : Int) + 1 + (pt.size : Int) ≤ 9223372036854775807 := by omega
        have HN : Hid (TAt p (k + 1) ((b ++ (⟨#[32]⟩ : ByteArray)) ++ pt)) := hb.out.next hk0 (by rw [HL.out]; exact hlt) HPT.out (by rw [add_list, add_list])
        clear hk0 hb HPT HPN
        go_wp2
        go_roundw
        case rel => exact ⟨k + 1, (b ++ (⟨#[32]⟩ : ByteArray)) ++ pt, by omega, by go_num, rfl, HN, HBT⟩
        case measure => simp [intOf] <;> omega
    · have HG : Hid (fA = fA) := rfl
      go_wp2_with fail
      refine (list_any fA fn fc _ xs (⟨#[44]⟩ : ByteArray) 44 wr (hi.out) hwr rfl hv.2.2.2.1 (by omega) (HENV.out.below hbw.out)).mono ?_
      rintro e w2 ⟨rfl, hb2⟩
      have HBT := Lib.hid (below3 hbw.out hb2)
      have hps : (sepd 44 xs).length ≤ 2805 := by have := sepd_short 44 xs hv.2.2.2.1; omega
      obtain ⟨x0, hx0⟩ : ∃ x, strB (sepd 44 xs) = x := ⟨_, rfl⟩
      have hxs : x0.size ≤ 2805 := by rw [← hx0, strB_size]; exact hps
      have HX0 : Hid (x0.data.toList = sepd 44 xs) := by show _ = _; rw [← hx0, strB_list]
      rw [hx0]
      have z1 : 1 + x0.size ≤ 9223372036854775807 := by omega
      have z2 : (1 : Int) + (x0.size : Int) ≤ 9223372036854775807 := by omega
      have z3 : 1 + x0.size + 1 ≤ 9223372036854775807 := by omega
      have z4 : (1 : Int) + (x0.size : Int) + 1 ≤ 9223372036854775807 := by omega
      clear hb2 hx0 hps
      go_upto_region 22 with fail
      obtain ⟨pt, hpt⟩ : ∃ x, ((⟨#[91]⟩ : ByteArray) ++ x0) ++ (⟨#[93]⟩ : ByteArray) = x := ⟨_, rfl⟩
      have hpl : pt.data.toList = wordR 4 xs := by rw [← hpt, add_list, add_list, HX0.out]; simp [wordR]
      have hpz : pt.size ≤ 3000 := by
        rw [size_list, hpl]
        have := word_short (k := 4) hv.2.2.2.1
        omega
      rw [hpt]
      have HPT : Hid (txt (p.drop k) = pt.data.toList ++ spt (p.drop (k + 1))) := by
        show _ = _
        rw [hpl, drop_next HF.out, txt_single (.inl (show seqB 4 = false by decide))]
      have HPN : Hid (pt.data.toList ≠ []) := by show _ ≠ _; rw [hpl]; exact word_ne hv.2.1
      clear hpt hpl HX0 z1 z2 z3 z4 hv hi
      by_cases hk0 : k = 0
      · have hbe : b.toList.isEmpty = true := by rw [hb.out.empty]; simp [hk0]
        have hbe2 : (!b.toList.isEmpty) = false := by rw [hbe]; rfl
        have hsz : b.size + pt.size ≤ 9223372036854775807 := by omega
        have hsz2 : (b.size : Int) + (pt.size : Int) ≤ 9223372036854775807 := by omega
        have HN : Hid (TAt p (k + 1) (b ++ pt)) := by
          subst hk0
          exact hb.out.zero HPN.out HPT.out (by rw [add_list])
        clear hk0 hb HPT HPN
        go_wp2
        go_roundw
        case rel => exact ⟨k + 1, b ++ pt, by omega, by go_num, rfl, HN, HBT⟩
        case measure => simp [intOf] <;> omega
      · have hbe : b.toList.isEmpty = false := by rw [hb.out.empty]; simp [hk0]
        have hbe2 : (!b.toList.isEmpty) = true := by rw [hbe]; rfl
        have hsz : b.size + 1 ≤ 9223372036854775807 := by omega
        have hsz1 : (b.size : Int) + 1 ≤ 9223372036854775807 := by omega
        have hsz2 : b.size + 1 + pt.size ≤ 9223372036854775807 := by omega
        have hsz3 : (b.size : Int) + 1 + (pt.size : Int) ≤ 9223372036854775807 := by omega
        have HN : Hid (TAt p (k + 1) ((b ++ (⟨#[32]⟩ : ByteArray)) ++ pt)) := hb.out.next hk0 (by rw [HL.out]; exact hlt) HPT.out (by rw [add_list, add_list])
        clear hk0 hb HPT HPN
        go_wp2
        go_roundw
        case rel => exact ⟨k + 1, (b ++ (⟨#[32]⟩ : ByteArray)) ++ pt, by omega, by go_num, rfl, HN, HBT⟩
        case measure => simp [intOf] <;> omega
    · obtain ⟨A4, c4, w4, hr4, ho4, hb4⟩ := copy_ints hi.out hwr rfl (by omega)
      have HR4 := Lib.hid hr4
      have HO4 : Hid (Own w4 w.heap.size 3 .i64 (.slice A4 fn c4) (flat ((p.drop k).take (k - k + 1))).length (flat ((p.drop k).take (k - k + 1)))) := by
        have e : flat ((p.drop k).take (k - k + 1)) = xs := by
          rw [Nat.sub_self, drop_next HF.out]
          simp [flat]
        show Own _ _ _ _ _ _ _
        rw [e, hfl]
        exact own_mono ho4 hwr
      have HB4 := Lib.hid (below3 hbw.out hb4)
      clear hr4 ho4 hb4
      go_wp2_with (at_builtin; refine wpList_append_run rfl _ _ _ rfl rfl rfl HR4.out ?_)
      obtain ⟨wo, hwo⟩ : ∃ wo : World, wo = wr := ⟨_, rfl⟩
      subst hwo
      go_loopw [6, 8] (fun iv lv wq => RnInv w p n k iv lv wq) (fun iv _ _ => n - (intOf iv).toNat)
      case atStart => exact ⟨k, Nat.le_refl _, hlt, rfl, by show _ ≤ _; omega, HO4, HB4⟩
      case round =>
        obtain ⟨j, hjk, hjn, rfl, hrun, ho, hbq⟩ := hrel
        obtain ⟨Al, cl, rfl⟩ := own_form ho.out
        by_cases hj1 : j + 1 < n
        case neg =>
          have hnj : ¬ (j : Int) + 1 < (n : Int) := by omega
          have HRUN : Hid (runL 3 (p.drop (k + 1)) = j - k) := by
            show _ = _
            have h1 := runL_le 3 (p.drop (k + 1))
            rw [List.length_drop, HL.out] at h1
            have h2 := hrun.out
            omega
          clear hrun hi
          go_wp2_with fail
          refine (list_any Al _ cl _ _ (⟨#[32]⟩ : ByteArray) 32 wr ho.out.ints (Nat.le_refl _) rfl (range_run HRG.out k (j - k + 1)) (by have := flat_run_le p k (j - k + 1); have := HFM.out; omega) (HENV.out.below hbq.out)).mono ?_
          rintro e w2 ⟨rfl, hb2⟩
          have HBT := Lib.hid (below3 hbq.out hb2)
          have hps : (sepd 32 (flat ((p.drop k).take (j - k + 1)))).length ≤ 11000000 := by have h1 := sepd_short 32 _ (range_run HRG.out k (j - k + 1)); have h2 := flat_run_le p k (j - k + 1); have h3 := HFM.out; omega
          obtain ⟨x0, hx0⟩ : ∃ x, strB (sepd 32 (flat ((p.drop k).take (j - k + 1)))) = x := ⟨_, rfl⟩
          have hxs : x0.size ≤ 11000000 := by rw [← hx0, strB_size]; exact hps
          have HX0 : Hid (x0.data.toList = sepd 32 (flat ((p.drop k).take (j - k + 1)))) := by show _ = _; rw [← hx0, strB_list]
          rw [hx0]
          have z1 : 1 + x0.size ≤ 9223372036854775807 := by omega
          have z2 : (1 : Int) + (x0.size : Int) ≤ 9223372036854775807 := by omega
          have z3 : 1 + x0.size + 1 ≤ 9223372036854775807 := by omega
          have z4 : (1 : Int) + (x0.size : Int) + 1 ≤ 9223372036854775807 := by omega
          clear hb2 hx0 hps
          go_upto_region 22 with fail
          obtain ⟨pt, hpt⟩ : ∃ x, ((⟨#[40]⟩ : ByteArray) ++ x0) ++ (⟨#[41]⟩ : ByteArray) = x := ⟨_, rfl⟩
          have hpl : pt.data.toList = wordR 3 (flat ((p.drop k).take (j - k + 1))) := by rw [← hpt, add_list, add_list, HX0.out]; simp [wordR]
          have hpz : pt.size ≤ 11000002 := by
            rw [← hpt]
            have : (((⟨#[40]⟩ : ByteArray) ++ x0) ++ (⟨#[41]⟩ : ByteArray)).size = 1 + x0.size + 1 := by
              rw [size_list, add_list, add_list, List.length_append, List.length_append, ← size_list]
              rfl
            omega
          rw [hpt]
          have HPT : Hid (txt (p.drop k) = pt.data.toList ++ spt (p.drop (j + 1))) := by
            show _ = _
            rw [hpl]
            exact txt_run_at HF.out hjk HRUN.out
          have HPN : Hid (pt.data.toList ≠ []) := by
            show _ ≠ _
            rw [hpl]
            refine word_ne fun h => ?_
            rw [drop_next HF.out, List.take_succ_cons] at h
            unfold flat at h
            rw [List.flatMap_cons, List.append_eq_nil_iff] at h
            exact hv.2.1 h.1
          clear hpt hpl HX0 z1 z2 z3 z4 hv HRUN ho
          by_cases hk0 : k = 0
          · have hbe : b.toList.isEmpty = true := by rw [hb.out.empty]; simp [hk0]
            have hbe2 : (!b.toList.isEmpty) = false := by rw [hbe]; rfl
            have hsz : b.size + pt.size ≤ 9223372036854775807 := by omega
            have hsz2 : (b.size : Int) + (pt.size : Int) ≤ 9223372036854775807 := by omega
            have HN : Hid (TAt p (j + 1) (b ++ pt)) := by
              subst hk0
              exact hb.out.zero HPN.out HPT.out (by rw [add_list])
            clear hk0 hb HPT HPN
            go_wp2
            go_roundw
            case rel => exact ⟨j + 1, b ++ pt, by omega, by go_num, rfl, HN, HBT⟩
            case measure => simp [intOf] <;> omega
          · have hbe : b.toList.isEmpty = false := by rw [hb.out.empty]; simp [hk0]
            have hbe2 : (!b.toList.isEmpty) = true := by rw [hbe]; rfl
            have hsz : b.size + 1 ≤ 9223372036854775807 := by omega
            have hsz1 : (b.size : Int) + 1 ≤ 9223372036854775807 := by omega
            have hsz2 : b.size + 1 + pt.size ≤ 9223372036854775807 := by omega
            have hsz3 : (b.size : Int) + 1 + (pt.size : Int) ≤ 9223372036854775807 := by omega
            have HN : Hid (TAt p (j + 1) ((b ++ (⟨#[32]⟩ : ByteArray)) ++ pt)) := hb.out.next hk0 (by rw [HL.out]; exact hlt) HPT.out (by rw [add_list, add_list])
            clear hk0 hb HPT HPN
            go_wp2
            go_roundw
            case rel => exact ⟨j + 1, (b ++ (⟨#[32]⟩ : ByteArray)) ++ pt, by omega, by go_num, rfl, HN, HBT⟩
            case measure => simp [intOf] <;> omega
        obtain ⟨b2, o2, f2, hbe2, hbB2, hf2, q0, q1, hi2⟩ := (HX.out.below hbq.out).get hj1
        simp only [Option.some.injEq, Addr.mk.injEq, and_true] at hbe2
        obtain ⟨rfl, rfl⟩ := hbe2
        obtain ⟨y2, fA2, fn2, fc2, xs2⟩ := f2
        dsimp only at q0 q1 hi2
        have hji : (j : Int) + 1 < (n : Int) := by omega
        have hji0 : (0 : Int) ≤ (j : Int) + 1 := by omega
        have hg2 : (p.drop (k + 1))[j - k]? = some (y2, xs2) := by rw [List.getElem?_drop, show k + 1 + (j - k) = j + 1 by omega]; exact hf2.out
        by_cases h3 : y2 = 3
        case neg =>
          have dy : (y2 == 3) = false := by simp [h3]
          have HRUN : Hid (runL 3 (p.drop (k + 1)) = j - k) := runL_stop hrun.out hg2 h3
          clear hrun hi hg2 hf2 hi2 h3
          go_wp2_with fail
          refine (list_any Al _ cl _ _ (⟨#[32]⟩ : ByteArray) 32 wr ho.out.ints (Nat.le_refl _) rfl (range_run HRG.out k (j - k + 1)) (by have := flat_run_le p k (j - k + 1); have := HFM.out; omega) (HENV.out.below hbq.out)).mono ?_
          rintro e w2 ⟨rfl, hb2⟩
          have HBT := Lib.hid (below3 hbq.out hb2)
          have hps : (sepd 32 (flat ((p.drop k).take (j - k + 1)))).length ≤ 11000000 := by have h1 := sepd_short 32 _ (range_run HRG.out k (j - k + 1)); have h2 := flat_run_le p k (j - k + 1); have h3 := HFM.out; omega
          obtain ⟨x0, hx0⟩ : ∃ x, strB (sepd 32 (flat ((p.drop k).take (j - k + 1)))) = x := ⟨_, rfl⟩
          have hxs : x0.size ≤ 11000000 := by rw [← hx0, strB_size]; exact hps
          have HX0 : Hid (x0.data.toList = sepd 32 (flat ((p.drop k).take (j - k + 1)))) := by show _ = _; rw [← hx0, strB_list]
          rw [hx0]
          have z1 : 1 + x0.size ≤ 9223372036854775807 := by omega
          have z2 : (1 : Int) + (x0.size : Int) ≤ 9223372036854775807 := by omega
          have z3 : 1 + x0.size + 1 ≤ 9223372036854775807 := by omega
          have z4 : (1 : Int) + (x0.size : Int) + 1 ≤ 9223372036854775807 := by omega
          clear hb2 hx0 hps
          go_upto_region 22 with fail
          obtain ⟨pt, hpt⟩ : ∃ x, ((⟨#[40]⟩ : ByteArray) ++ x0) ++ (⟨#[41]⟩ : ByteArray) = x := ⟨_, rfl⟩
          have hpl : pt.data.toList = wordR 3 (flat ((p.drop k).take (j - k + 1))) := by rw [← hpt, add_list, add_list, HX0.out]; simp [wordR]
          have hpz : pt.size ≤ 11000002 := by
            rw [← hpt]
            have : (((⟨#[40]⟩ : ByteArray) ++ x0) ++ (⟨#[41]⟩ : ByteArray)).size = 1 + x0.size + 1 := by
              rw [size_list, add_list, add_list, List.length_append, List.length_append, ← size_list]
              rfl
            omega
          rw [hpt]
          have HPT : Hid (txt (p.drop k) = pt.data.toList ++ spt (p.drop (j + 1))) := by
            show _ = _
            rw [hpl]
            exact txt_run_at HF.out hjk HRUN.out
          have HPN : Hid (pt.data.toList ≠ []) := by
            show _ ≠ _
            rw [hpl]
            refine word_ne fun h => ?_
            rw [drop_next HF.out, List.take_succ_cons] at h
            unfold flat at h
            rw [List.flatMap_cons, List.append_eq_nil_iff] at h
            exact hv.2.1 h.1
          clear hpt hpl HX0 z1 z2 z3 z4 hv HRUN ho
          by_cases hk0 : k = 0
          · have hbe : b.toList.isEmpty = true := by rw [hb.out.empty]; simp [hk0]
            have hbe2 : (!b.toList.isEmpty) = false := by rw [hbe]; rfl
            have hsz : b.size + pt.size ≤ 9223372036854775807 := by omega
            have hsz2 : (b.size : Int) + (pt.size : Int) ≤ 9223372036854775807 := by omega
            have HN : Hid (TAt p (j + 1) (b ++ pt)) := by
              subst hk0
              exact hb.out.zero HPN.out HPT.out (by rw [add_list])
            clear hk0 hb HPT HPN
            go_wp2
            go_roundw
            case rel => exact ⟨j + 1, b ++ pt, by omega, by go_num, rfl, HN, HBT⟩
            case measure => simp [intOf] <;> omega
          · have hbe : b.toList.isEmpty = false := by rw [hb.out.empty]; simp [hk0]
            have hbe2 : (!b.toList.isEmpty) = true := by rw [hbe]; rfl
            have hsz : b.size + 1 ≤ 9223372036854775807 := by omega
            have hsz1 : (b.size : Int) + 1 ≤ 9223372036854775807 := by omega
            have hsz2 : b.size + 1 + pt.size ≤ 9223372036854775807 := by omega
            have hsz3 : (b.size : Int) + 1 + (pt.size : Int) ≤ 9223372036854775807 := by omega
            have HN : Hid (TAt p (j + 1) ((b ++ (⟨#[32]⟩ : ByteArray)) ++ pt)) := hb.out.next hk0 (by rw [HL.out]; exact hlt) HPT.out (by rw [add_list, add_list])
            clear hk0 hb HPT HPN
            go_wp2
            go_roundw
            case rel => exact ⟨j + 1, (b ++ (⟨#[32]⟩ : ByteArray)) ++ pt, by omega, by go_num, rfl, HN, HBT⟩
            case measure => simp [intOf] <;> omega
        subst h3
        have HRUN' : Hid (j + 1 - k ≤ runL 3 (p.drop (k + 1))) := by
          have := runL_go hrun.out hg2 rfl
          show _ ≤ _
          omega
        have hmo := flat_more hjk hf2.out
        have hfl2 : xs2.length = fn2 := hi2.out.len
        have hle2 : (flat ((p.drop k).take (j - k + 1))).length ≤ 1000000 := Nat.le_trans (flat_run_le p k (j - k + 1)) HFM.out
        have hv2 := (HVA.out _ (List.mem_of_getElem? hf2.out)).2.2.1
        have hwq := hbq.out.size
        obtain ⟨A5, c5, w5, hr5, ho5, hb5⟩ := push_ints ho.out hi2.out hwq (by have : xs2.length ≤ 255 := hv2; omega)
        have HR5 := Lib.hid hr5
        have HO5 : Hid (Own w5 w.heap.size 3 .i64 (.slice A5 ((flat ((p.drop k).take (j - k + 1))).length + fn2) c5) (flat ((p.drop k).take (j + 1 - k + 1))).length (flat ((p.drop k).take (j + 1 - k + 1)))) := by
          show Own _ _ _ _ _ _ _
          rw [hmo, List.length_append]
          show Own _ _ _ _ _ ((flat ((p.drop k).take (j - k + 1))).length + xs2.length) (flat ((p.drop k).take (j - k + 1)) ++ xs2)
          rw [hfl2]
          exact ho5
        have HB5 := Lib.hid (hbq.out.trans hb5)
        have hbq2 : b2 < wr.heap.size := by omega
        clear hrun hi hg2 hf2 hi2 hmo hfl2 hle2 hv2 hr5 ho5 hb5 ho
        go_wp2_with (at_builtin; refine wpList_append_run rfl _ _ _ rfl rfl rfl HR5.out ?_)
        go_roundw
        case rel => exact ⟨j + 1, by omega, by omega, by go_num, HRUN', HO5, HB5⟩
        case measure => simp [intOf]; omega
end Go.Proofs.YteohdanlcaoaiaaDoor
