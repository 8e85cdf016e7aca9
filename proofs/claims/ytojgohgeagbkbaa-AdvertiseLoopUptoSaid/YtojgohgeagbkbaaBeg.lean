/- IndexFunc, ContainsFunc, begins, mismatch, conf. -/
import Derived.Test.YtojgohgeagbkbaaAdv
namespace Go.Proofs.Ytojgohgeagbkbaa
open Go.RowKit

/-- the first place whose kind passes a test, or -1 -/
def idxP (f : Int → Bool) : Path → Int
  | [] => -1
  | s :: r => if f s.1 = true then 0 else if idxP f r < 0 then -1 else idxP f r + 1
theorem idxP_none {f : Int → Bool} : ∀ {p : Path}, (∀ (j : Nat) (t : Int × List Int), j < p.length → p[j]? = some t → f t.1 = false) → idxP f p = -1
  | [], _ => rfl
  | s :: r, h => by
    have h0 := h 0 s (by simp) rfl
    rw [idxP, if_neg (by rw [h0]; simp), idxP_none (fun j t hj ht => h (j + 1) t (by simpa using hj) (by simpa using ht))]
    simp
theorem idxP_at {f : Int → Bool} : ∀ {p : Path} {k : Nat} {s : Int × List Int}, p[k]? = some s → f s.1 = true → (∀ (j : Nat) (t : Int × List Int), j < k → p[j]? = some t → f t.1 = false) → idxP f p = (k : Int)
  | [], _, _, h, _, _ => by simp at h
  | x :: r, 0, s, h, hs, _ => by
    simp only [List.getElem?_cons_zero, Option.some.injEq] at h
    subst h
    rw [idxP, if_pos hs]; rfl
  | x :: r, k + 1, s, h, hs, hn => by
    have h0 := hn 0 x (by omega) rfl
    have hi := idxP_at (p := r) (k := k) (by simpa using h) hs (fun j t hj ht => hn (j + 1) t (by omega) (by simpa using ht))
    rw [idxP, if_neg (by rw [h0]; simp), hi, if_neg (by omega)]
    omega
theorem idxP_any {f : Int → Bool} : ∀ p : Path, decide (idxP f p ≥ 0) = p.any fun s => f s.1
  | [] => by simp [idxP]
  | s :: r => by
    have h := idxP_any (f := f) r
    rw [List.any_cons, ← h, idxP]
    cases hs : f s.1
    · rw [if_neg (by simp)]
      by_cases h0 : idxP f r < 0
      · rw [if_pos h0, Bool.false_or, decide_eq_decide]; omega
      · rw [if_neg h0, Bool.false_or, decide_eq_decide]; omega
    · rw [if_pos rfl]; simp
theorem idxP_le {f : Int → Bool} : ∀ p : Path, idxP f p ≤ (p.length : Int)
  | [] => by simp [idxP]
  | s :: r => by
    have h := idxP_le (f := f) r
    rw [idxP, List.length_cons]
    split
    · omega
    · split <;> omega
/-- what is not one of a confederation -/
def notB (k : Int) : Bool := !confB k
theorem notConfed_any (k : Int) (A : Option Addr) (n c : Nat) (w : World) : Calls Try.prog 84 #[.agg #[.int .i64 k, .slice A n c]] w fun e w' => e = .returned (.bool (notB k)) ∧ Below w.heap.size w w' := by
  have HC := Lib.hid (confed41_any k A n c (w.alloc (.cells #[.int .i64 k, .slice A n c] 75)))
  have HA : Hid (Below w.heap.size w (w.alloc (.cells #[.int .i64 k, .slice A n c] 75))) := belowA _ _
  go_enter Try.func84, Try.ntmps84
  go_wp2_with fail
  refine HC.out.mono ?_
  rintro e w1 ⟨rfl, hb⟩
  have HB := Lib.hid (below3 HA.out hb)
  clear hb
  go_wp2
  go_ret
  exact ⟨rfl, HB.out⟩
set_option maxHeartbeats 2000000 in
theorem indexConf_any (A : Option Addr) (n c : Nat) (p : Path) (w : World) (hx : Segs w w.heap.size A n c p) (hn : n ≤ 140737488355328) :
    Calls Try.prog 83 #[.slice A n c, .func (.func 72) #[] #[]] w fun e w' => e = .returned (.int .i64 (idxP (confB) p)) ∧ Below w.heap.size w w' := by
  have HX := Lib.hid hx
  have HL := Lib.hid hx.len
  clear hx
  go_enter Try.func83, Try.ntmps83
  go_wp2
  go_loopw [8] (fun i wr => ∃ k : Nat, k ≤ n ∧ i = .int .i64 k ∧ Hid (∀ (j : Nat) (t : Int × List Int), j < k → p[j]? = some t → (confB) t.1 = false) ∧ Hid (Below w.heap.size w wr)) (fun i _ => n - (intOf i).toNat)
  case atStart => exact ⟨0, Nat.zero_le _, rfl, fun j t hj => absurd hj (by omega), Below.refl _ _⟩
  case round =>
    obtain ⟨k, hk, rfl, hno, hbw⟩ := hrel
    by_cases hlt : k < n
    case neg =>
      obtain rfl : k = n := by omega
      have HR : Hid (idxP (confB) p = -1) := idxP_none fun j t hj ht => hno.out j t (by rw [← HL.out]; exact hj) ht
      go_wp2
      go_ret
      exact ⟨by rw [HR.out]; rfl, hbw.out⟩
    obtain ⟨b, o, g, rfl, hbB, hg, g0, g1, hi⟩ := (HX.out.below hbw.out).get hlt
    obtain ⟨y, fA, fn, fc, xs⟩ := g
    dsimp only at g0 g1 hi
    have hbwr : b < wr.heap.size := by have := hbw.out.size; omega
    have HG : Hid (p[k]? = some (y, xs)) := hg
    have HC := Lib.hid (confed41_any y fA fn fc wr)
    clear hg hi
    go_wp2_with fail
    refine HC.out.mono ?_
    rintro e w2 ⟨rfl, hb2⟩
    have HB2 := Lib.hid (below3 hbw.out hb2)
    clear hb2 HC
    cases hy : (confB) y
    case true =>
      have HR : Hid (idxP (confB) p = (k : Int)) := idxP_at HG.out hy hno.out
      clear hy
      go_wp2
      go_ret
      exact ⟨by rw [HR.out]; rfl, HB2.out⟩
    case false =>
      have HN : Hid (∀ (j : Nat) (t : Int × List Int), j < k + 1 → p[j]? = some t → (confB) t.1 = false) := by
        intro j t hj ht
        rcases Nat.lt_or_ge j k with h | h
        · exact hno.out j t h ht
        · obtain rfl : j = k := by omega
          rw [HG.out] at ht
          obtain rfl := Option.some.inj ht
          exact hy
      clear hy
      go_wp2
      go_roundw
      case rel => exact ⟨k + 1, by omega, by go_num, HN, HB2⟩
      case measure => simp [intOf]; omega
set_option maxHeartbeats 2000000 in
theorem indexNot_any (A : Option Addr) (n c : Nat) (p : Path) (w : World) (hx : Segs w w.heap.size A n c p) (hn : n ≤ 140737488355328) :
    Calls Try.prog 83 #[.slice A n c, .func (.func 84) #[] #[]] w fun e w' => e = .returned (.int .i64 (idxP (notB) p)) ∧ Below w.heap.size w w' := by
  have HX := Lib.hid hx
  have HL := Lib.hid hx.len
  clear hx
  go_enter Try.func83, Try.ntmps83
  go_wp2
  go_loopw [8] (fun i wr => ∃ k : Nat, k ≤ n ∧ i = .int .i64 k ∧ Hid (∀ (j : Nat) (t : Int × List Int), j < k → p[j]? = some t → (notB) t.1 = false) ∧ Hid (Below w.heap.size w wr)) (fun i _ => n - (intOf i).toNat)
  case atStart => exact ⟨0, Nat.zero_le _, rfl, fun j t hj => absurd hj (by omega), Below.refl _ _⟩
  case round =>
    obtain ⟨k, hk, rfl, hno, hbw⟩ := hrel
    by_cases hlt : k < n
    case neg =>
      obtain rfl : k = n := by omega
      have HR : Hid (idxP (notB) p = -1) := idxP_none fun j t hj ht => hno.out j t (by rw [← HL.out]; exact hj) ht
      go_wp2
      go_ret
      exact ⟨by rw [HR.out]; rfl, hbw.out⟩
    obtain ⟨b, o, g, rfl, hbB, hg, g0, g1, hi⟩ := (HX.out.below hbw.out).get hlt
    obtain ⟨y, fA, fn, fc, xs⟩ := g
    dsimp only at g0 g1 hi
    have hbwr : b < wr.heap.size := by have := hbw.out.size; omega
    have HG : Hid (p[k]? = some (y, xs)) := hg
    have HC := Lib.hid (notConfed_any y fA fn fc wr)
    clear hg hi
    go_wp2_with fail
    refine HC.out.mono ?_
    rintro e w2 ⟨rfl, hb2⟩
    have HB2 := Lib.hid (below3 hbw.out hb2)
    clear hb2 HC
    cases hy : (notB) y
    case true =>
      have HR : Hid (idxP (notB) p = (k : Int)) := idxP_at HG.out hy hno.out
      clear hy
      go_wp2
      go_ret
      exact ⟨by rw [HR.out]; rfl, HB2.out⟩
    case false =>
      have HN : Hid (∀ (j : Nat) (t : Int × List Int), j < k + 1 → p[j]? = some t → (notB) t.1 = false) := by
        intro j t hj ht
        rcases Nat.lt_or_ge j k with h | h
        · exact hno.out j t h ht
        · obtain rfl : j = k := by omega
          rw [HG.out] at ht
          obtain rfl := Option.some.inj ht
          exact hy
      clear hy
      go_wp2
      go_roundw
      case rel => exact ⟨k + 1, by omega, by go_num, HN, HB2⟩
      case measure => simp [intOf]; omega
def anyConf (p : Path) : Bool := p.any fun s => confB s.1
theorem containsConf_any (A : Option Addr) (n c : Nat) (p : Path) (w : World) (hx : Segs w w.heap.size A n c p) (hn : n ≤ 140737488355328) :
    Calls Try.prog 71 #[.slice A n c, .func (.func 72) #[] #[]] w fun e w' => e = .returned (.bool (anyConf p)) ∧ Below w.heap.size w w' := by
  have HC := Lib.hid (indexConf_any A n c p w hx hn)
  have HP := Lib.hid (idxP_any (f := confB) p)
  clear hx
  go_enter Try.func71, Try.ntmps71
  go_wp2_with fail
  refine HC.out.mono ?_
  rintro e w1 ⟨rfl, hb⟩
  have HB := Lib.hid hb
  obtain ⟨q, hq⟩ : ∃ q, idxP confB p = q := ⟨_, rfl⟩
  rw [hq] at HP ⊢
  clear hq hb
  go_wp2
  go_ret
  exact ⟨ret_bool HP.out, HB.out⟩
theorem conf_len (p : Path) : (((stripR p).length : Int) != (p.length : Int)) = anyConf p := by
  have h : ∀ p : Path, (stripR p).length = p.length ↔ anyConf p = false := by
    intro p
    unfold stripR anyConf
    rw [List.length_filter_eq_length_iff, List.any_eq_false]
    simp
  cases e : anyConf p
  · rw [(h p).2 e]; simp
  · simp only [bne_iff_ne, ne_eq]
    intro g
    have := (h p).1 (by omega)
    rw [e] at this
    cases this
theorem conf41_any (A : Option Addr) (n c : Nat) (p : Path) (w : World) (hx : Segs w w.heap.size A n c p) (hs : Sm p) :
    Calls Try.prog 76 #[.slice A n c] w fun e w' => e = .returned (.bool (anyConf p)) ∧ Below w.heap.size w w' := by
  have HC := Lib.hid (refStrip_any A n c w.heap.size p w hx (Nat.le_refl _) hs)
  have HP := Lib.hid (conf_len p)
  have HL := Lib.hid hx.len
  clear hx hs
  go_enter Try.func76, Try.ntmps76
  go_wp2_with fail
  refine HC.out.mono ?_
  rintro e w1 ⟨A', m, c', rfl, ho, hb⟩
  have HB := Lib.hid hb
  have HM : Hid ((stripR p).length = m) := ho.len
  rw [HM.out, HL.out] at HP
  clear hb ho
  go_wp2
  go_ret
  exact ⟨ret_bool HP.out, HB.out⟩
end Go.Proofs.Ytojgohgeagbkbaa
