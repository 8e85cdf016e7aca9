/- Strip, leading. -/
import Derived.Test.YtojgohgeagbkbaaDup
namespace Go.Proofs.Ytojgohgeagbkbaa
open Go.RowKit

def stripR (p : Path) : Path := p.filter fun s => !confB s.1
theorem strip_succ {p : Path} {k : Nat} {s : Int × List Int} (h : p[k]? = some s) : stripR (p.take (k + 1)) = if confB s.1 = true then stripR (p.take k) else stripR (p.take k) ++ [s] := by
  rw [List.take_add_one, h]
  unfold stripR
  rw [List.filter_append]
  by_cases hc : confB s.1 = true
  · rw [if_pos hc]
    simp [hc]
  · rw [if_neg hc]
    simp [hc]
theorem flat_strip_le : ∀ p : Path, (flat (stripR p)).length ≤ (flat p).length
  | [] => Nat.le_refl _
  | s :: r => by
    have := flat_strip_le r
    unfold stripR flat at this ⊢
    rw [List.filter_cons]
    split
    · rw [List.flatMap_cons, List.flatMap_cons, List.length_append, List.length_append]
      omega
    · rw [List.flatMap_cons, List.length_append]
      omega
theorem sm_strip {p : Path} (h : Sm p) : Sm (stripR p) := by
  have h1 := flat_strip_le p
  have h2 : (stripR p).length ≤ p.length := List.length_filter_le _ _
  unfold Sm at h ⊢
  omega
/-- the loop -/
def StInv (w : World) (p : Path) (n : Nat) (ov iv : Value) (W : World) : Prop := ∃ k m : Nat, k ≤ n ∧ m ≤ k ∧ iv = .int .i64 k ∧ Hid (SOut W w.heap.size 0 ov m (stripR (p.take k))) ∧ Hid (Below w.heap.size w W)
def leadR (p : Path) : List Int := flat (p.takeWhile fun s => decide (s.1 = 2))
theorem lead_stop {p : Path} {k : Nat} {s : Int × List Int} (h : p[k]? = some s) (h2 : s.1 ≠ 2) : leadR (p.drop k) = [] := by
  rw [drop_get h]
  unfold leadR
  rw [List.takeWhile_cons_of_neg (by simp [h2])]
  rfl
theorem lead_go {p : Path} {k : Nat} {s : Int × List Int} (h : p[k]? = some s) (h2 : s.1 = 2) : leadR (p.drop k) = s.2 ++ leadR (p.drop (k + 1)) := by
  rw [drop_get h]
  unfold leadR
  rw [List.takeWhile_cons_of_pos (by simp [h2])]
  rfl
theorem lead_le : ∀ p : Path, (leadR p).length ≤ (flat p).length
  | [] => Nat.le_refl _
  | s :: r => by
    have := lead_le r
    unfold leadR flat at this ⊢
    rw [List.takeWhile_cons]
    split
    · rw [List.flatMap_cons, List.flatMap_cons, List.length_append, List.length_append]
      omega
    · simp
/-- the loop -/
def LdInv (w : World) (p : Path) (n : Nat) (ov iv : Value) (W : World) : Prop := ∃ k : Nat, k ≤ n ∧ iv = .int .i64 k ∧ Hid (leadR p = flat (p.take k) ++ leadR (p.drop k)) ∧ Hid (Own W w.heap.size 3 .i64 ov (flat (p.take k)).length (flat (p.take k))) ∧ Hid (Below w.heap.size w W)
set_option maxHeartbeats 2000000 in
theorem strip_any (A : Option Addr) (n c B : Nat) (p : Path) (w : World) (hx : Segs w B A n c p) (hB : B ≤ w.heap.size) (hs : Sm p) :
    Calls Try.prog 59 #[.slice A n c] w (GivesSegs (stripR p) w) := by
  have HX := Lib.hid hx
  have HL := Lib.hid hx.len
  have HSM := Lib.hid (sm_strip hs)
  have hn : n ≤ 1000000 := by have h1 := hx.len; unfold Sm at hs; omega
  clear hx hs
  go_enter Try.func59, Try.ntmps59
  go_wp2
  go_loopw [3, 8] (fun ov iv wr => StInv w p n ov iv wr) (fun _ iv _ => n - (intOf iv).toNat)
  case atStart => exact ⟨0, 0, Nat.zero_le _, Nat.le_refl _, rfl, SOut.nil _ _ _, Below.refl _ _⟩
  case round =>
    obtain ⟨k, m, hk, hm, rfl, ho, hbw⟩ := hrel
    obtain ⟨Ao, co, rfl⟩ := ho.out.form
    by_cases hlt : k < n
    case neg =>
      obtain rfl : k = n := by omega
      have e : p.take k = p := List.take_of_length_le (Nat.le_of_eq HL.out)
      rw [e] at ho
      clear e
      go_wp2_with fail
      refine (duplicate_any _ _ _ _ _ _ ho.out.segs (Nat.le_refl _) HSM.out).mono ?_
      rintro e w2 ⟨A2, m2, c2, rfl, ho2, hb2⟩
      have HO2 : Hid (SOut w2 w.heap.size w.heap.size (.slice A2 m2 c2) m2 (stripR p)) := ho2.mono hbw.out.size hbw.out.size
      have HB2 := Lib.hid (below3 hbw.out hb2)
      clear ho2 hb2
      go_wp2
      go_ret
      exact ⟨A2, m2, c2, rfl, HO2.out, HB2.out⟩
    obtain ⟨b, o, f, rfl, hbB, hf, g0, g1, hi⟩ := (HX.out.below (hbw.out.mono hB)).get hlt
    obtain ⟨y, fA, fn, fc, xs⟩ := f
    dsimp only at g0 g1 hi
    have hwr := hbw.out.size
    have hst := strip_succ hf.out
    have HB1 : Hid (SBox wr y (.slice fA fn fc) (wr.alloc (.cells #[.int .i64 y, .slice fA fn fc] 75))) := SBox.new _ _ _
    go_wp2_with fail
    refine (confed_any y _).mono ?_
    rintro e w2 ⟨rfl, hb2⟩
    have HB2 := Lib.hid (HB1.out.step hb2)
    clear hb2 HB1
    obtain ⟨u0, u1, _⟩ := HB2.out
    have hb2w : Below wr.heap.size wr w2 := HB2.out.2.2.1.out
    have HBW2 := Lib.hid (below3 hbw.out hb2w)
    cases hc : confB y with
    | true =>
      rw [if_pos (by exact hc)] at hst
      have HO2 : Hid (SOut w2 w.heap.size 0 (.slice Ao m co) m (stripR (p.take (k + 1)))) := by show SOut _ _ _ _ _ _; rw [hst]; exact ho.out.below hb2w
      clear hst hf hi ho hb2w hc
      go_wp2
      go_roundw
      case rel => exact ⟨k + 1, m, by omega, by omega, by go_num, HO2, HBW2⟩
      case measure => simp [intOf]; omega
    | false =>
      rw [if_neg (by rw [show confB (SV.key ⟨y, fA, fn, fc, xs⟩).1 = false from hc]; simp)] at hst
      have hi2 : Ints w2 B .i64 fA fn fc xs := hi.out.below (hb2w.mono (Nat.le_trans hB hwr))
      have hs2 := ho.out.below hb2w
      obtain ⟨A5, c5, w5, hr5, ho5, hb5⟩ := hs2.push y (hi2.more (Nat.le_trans hB (Nat.le_trans hwr hb2w.size))) (free_old hs2 hi2 hB) rfl (Nat.le_trans hwr hb2w.size) (by omega)
      have HR5 := Lib.hid hr5
      have HO5 : Hid (SOut w5 w.heap.size 0 (.slice A5 (m + 1) c5) (m + 1) (stripR (p.take (k + 1)))) := by show SOut _ _ _ _ _ _; rw [hst]; exact ho5
      have HB5 := Lib.hid (HBW2.out.trans hb5)
      clear hst hf hi ho hb2w hc hi2 hs2 hr5 ho5 hb5
      go_wp2_with (at_builtin; refine wpList_append_run rfl _ _ _ rfl rfl rfl HR5.out ?_)
      go_roundw
      case rel => exact ⟨k + 1, m + 1, by omega, by omega, by go_num, HO5, HB5⟩
      case measure => simp [intOf]; omega
set_option maxHeartbeats 2000000 in
theorem refStrip_any (A : Option Addr) (n c B : Nat) (p : Path) (w : World) (hx : Segs w B A n c p) (hB : B ≤ w.heap.size) (hs : Sm p) :
    Calls Try.prog 27 #[.slice A n c] w (GivesSegs (stripR p) w) := by
  have HX := Lib.hid hx
  have HL := Lib.hid hx.len
  have HSM := Lib.hid (sm_strip hs)
  have hn : n ≤ 1000000 := by have h1 := hx.len; unfold Sm at hs; omega
  clear hx hs
  go_enter Try.func27, Try.ntmps27
  go_wp2
  go_loopw [3, 8] (fun ov iv wr => StInv w p n ov iv wr) (fun _ iv _ => n - (intOf iv).toNat)
  case atStart => exact ⟨0, 0, Nat.zero_le _, Nat.le_refl _, rfl, SOut.nil _ _ _, Below.refl _ _⟩
  case round =>
    obtain ⟨k, m, hk, hm, rfl, ho, hbw⟩ := hrel
    obtain ⟨Ao, co, rfl⟩ := ho.out.form
    by_cases hlt : k < n
    case neg =>
      obtain rfl : k = n := by omega
      have e : p.take k = p := List.take_of_length_le (Nat.le_of_eq HL.out)
      rw [e] at ho
      clear e
      go_wp2_with fail
      refine (clone_any _ _ _ _ _ _ ho.out.segs (Nat.le_refl _) HSM.out).mono ?_
      rintro e w2 ⟨A2, m2, c2, rfl, ho2, hb2⟩
      have HO2 : Hid (SOut w2 w.heap.size w.heap.size (.slice A2 m2 c2) m2 (stripR p)) := ho2.mono hbw.out.size hbw.out.size
      have HB2 := Lib.hid (below3 hbw.out hb2)
      clear ho2 hb2
      go_wp2
      go_ret
      exact ⟨A2, m2, c2, rfl, HO2.out, HB2.out⟩
    obtain ⟨b, o, f, rfl, hbB, hf, g0, g1, hi⟩ := (HX.out.below (hbw.out.mono hB)).get hlt
    obtain ⟨y, fA, fn, fc, xs⟩ := f
    dsimp only at g0 g1 hi
    have hwr := hbw.out.size
    have hst := strip_succ hf.out
    have HB1 : Hid (SBox wr y (.slice fA fn fc) (wr.alloc (.cells #[.int .i64 y, .slice fA fn fc] 75))) := SBox.new _ _ _
    go_wp2_with fail
    refine (isConf_any y _).mono ?_
    rintro e w2' ⟨rfl, rfl⟩
    obtain ⟨w2, hw2⟩ : ∃ W, wr.alloc (.cells #[.int .i64 y, .slice fA fn fc] 75) = W := ⟨_, rfl⟩
    have HB2 := HB1
    rw [hw2] at HB2 ⊢
    clear hw2 HB1
    obtain ⟨u0, u1, _⟩ := HB2.out
    have hb2w : Below wr.heap.size wr w2 := HB2.out.2.2.1.out
    have HBW2 := Lib.hid (below3 hbw.out hb2w)
    cases hc : confB y with
    | true =>
      rw [if_pos (by exact hc)] at hst
      have HO2 : Hid (SOut w2 w.heap.size 0 (.slice Ao m co) m (stripR (p.take (k + 1)))) := by show SOut _ _ _ _ _ _; rw [hst]; exact ho.out.below hb2w
      clear hst hf hi ho hb2w hc
      go_wp2
      go_roundw
      case rel => exact ⟨k + 1, m, by omega, by omega, by go_num, HO2, HBW2⟩
      case measure => simp [intOf]; omega
    | false =>
      rw [if_neg (by rw [show confB (SV.key ⟨y, fA, fn, fc, xs⟩).1 = false from hc]; simp)] at hst
      have hi2 : Ints w2 B .i64 fA fn fc xs := hi.out.below (hb2w.mono (Nat.le_trans hB hwr))
      have hs2 := ho.out.below hb2w
      obtain ⟨A5, c5, w5, hr5, ho5, hb5⟩ := hs2.push y (hi2.more (Nat.le_trans hB (Nat.le_trans hwr hb2w.size))) (free_old hs2 hi2 hB) rfl (Nat.le_trans hwr hb2w.size) (by omega)
      have HR5 := Lib.hid hr5
      have HO5 : Hid (SOut w5 w.heap.size 0 (.slice A5 (m + 1) c5) (m + 1) (stripR (p.take (k + 1)))) := by show SOut _ _ _ _ _ _; rw [hst]; exact ho5
      have HB5 := Lib.hid (HBW2.out.trans hb5)
      clear hst hf hi ho hb2w hc hi2 hs2 hr5 ho5 hb5
      go_wp2_with (at_builtin; refine wpList_append_run rfl _ _ _ rfl rfl rfl HR5.out ?_)
      go_roundw
      case rel => exact ⟨k + 1, m + 1, by omega, by omega, by go_num, HO5, HB5⟩
      case measure => simp [intOf]; omega
end Go.Proofs.Ytojgohgeagbkbaa
