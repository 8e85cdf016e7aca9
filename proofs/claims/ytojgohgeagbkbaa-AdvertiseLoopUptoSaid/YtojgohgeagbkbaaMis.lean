/- begins, mismatch: how the path of a received route begins. -/
import Derived.Test.YtojgohgeagbkbaaBeg
import Derived.Test.YtojgohgeagbkbaaRefAtt
namespace Go.Proofs.Ytojgohgeagbkbaa
open Go.RowKit

def headIs (a : Int) (p : Path) : Bool := match p with
  | [] => false
  | s :: _ => s.1 == 3 && (decide (0 < s.2.length) && s.2.getD 0 0 == a)
def begR (k a : Int) (p : Path) : Bool := if k = 1 then (firstR p).2 && ((firstR p).1 == a && !anyConf p) else if k = 2 then headIs a p else true
theorem begR1 (a : Int) (p : Path) : begR 1 a p = ((firstR p).2 && ((firstR p).1 == a && !anyConf p)) := if_pos rfl
theorem begR2 (a : Int) (p : Path) : begR 2 a p = headIs a p := by unfold begR; rw [if_neg (by decide), if_pos rfl]
theorem begR3 {k : Int} (a : Int) (p : Path) (h1 : ¬ k = 1) (h2 : ¬ k = 2) : begR k a p = true := by unfold begR; rw [if_neg h1, if_neg h2]
theorem head_at {p : Path} {s : Int × List Int} (h : p[0]? = some s) (a : Int) : headIs a p = (s.1 == 3 && (decide (0 < s.2.length) && s.2.getD 0 0 == a)) := by
  cases p with
  | nil => simp at h
  | cons x r =>
    simp only [List.getElem?_cons_zero, Option.some.injEq] at h
    subst h
    rfl
theorem head_none {p : Path} (h : p.length = 0) (a : Int) : headIs a p = false := by
  cases p with
  | nil => rfl
  | cons x r => simp at h
set_option linter.unusedVariables false in
set_option maxHeartbeats 4000000 in
theorem begins_any (pk pas padr ploc : Int) (pcli : Bool) (phold prest : Int) (pimp pexp : ByteArray) (pself pdamp : Bool) (A : Option Addr) (n c : Nat) (p : Path) (w : World) (hx : Segs w w.heap.size A n c p) (hs : Sm p) :
    Calls Try.prog 33 #[.agg #[.int .i64 pk, .int .i64 pas, .int .u32 padr, .int .u32 ploc, .bool pcli, .int .i64 phold, .int .i64 prest, .string pimp, .string pexp, .bool pself, .bool pdamp], .slice A n c] w fun e w' => e = .returned (.bool (begR pk pas p)) ∧ Below w.heap.size w w' := by
  have HX := Lib.hid hx
  have HL := Lib.hid hx.len
  have hn : n ≤ 1000000 := by have h1 := hx.len; unfold Sm at hs; omega
  clear hx
  obtain ⟨w1, hw1⟩ : ∃ w1, w.alloc (.cells #[.int .i64 pk, .int .i64 pas, .int .u32 padr, .int .u32 ploc, .bool pcli, .int .i64 phold, .int .i64 prest, .string pimp, .string pexp, .bool pself, .bool pdamp] 66) = w1 := ⟨_, rfl⟩
  have hbk : Blk w1 w.heap.size 66 [.int .i64 pk, .int .i64 pas, .int .u32 padr, .int .u32 ploc, .bool pcli, .int .i64 phold, .int .i64 prest, .string pimp, .string pexp, .bool pself, .bool pdamp] := by rw [← hw1]; exact Blk.new w _ _
  have hb1 : Below w.heap.size w w1 := by rw [← hw1]; exact belowA _ _
  have HB1 := Lib.hid hb1
  have HK := Lib.hid hbk
  have hlt := hbk.lt
  have hc0 := hbk.cell 0
  have hc1 := hbk.cell 1
  simp only [List.getElem?_cons_zero, List.getElem?_cons_succ] at hc0 hc1
  have HX1 := Lib.hid (HX.out.grow hb1 (Nat.le_refl _))
  clear hbk hb1
  by_cases h1 : pk = 1
  · subst h1
    have HC := Lib.hid (first_any A n c p w1 HX1.out (by omega))
    have HR := Lib.hid (begR1 pas p)
    go_enter Try.func33, Try.ntmps33
    go_wp2_with fail
    refine HC.out.mono ?_
    rintro e w2 ⟨rfl, hb⟩
    have HK2 := Lib.hid (HK.out.keep hb)
    have HB2 := Lib.hid (below3 HB1.out hb)
    have HX2 := Lib.hid (HX1.out.grow hb (Nat.le_refl _))
    have hc1' := HK2.out.cell 1
    simp only [List.getElem?_cons_zero, List.getElem?_cons_succ] at hc1'
    have hlt2 := HK2.out.lt
    clear hb HC HX1
    obtain ⟨⟨x, ok⟩, hq⟩ : ∃ q, firstR p = q := ⟨_, rfl⟩
    rw [hq] at HR ⊢
    clear hq hc0 hc1
    dsimp only at HR ⊢
    cases ok
    case false =>
      go_wp2
      go_ret
      exact ⟨by rw [HR.out]; rfl, HB2.out⟩
    obtain ⟨e, he⟩ : ∃ e, (x == pas) = e := ⟨_, rfl⟩
    cases e
    case false =>
      rw [he] at HR
      go_wp2
      go_ret
      exact ⟨by rw [HR.out]; rfl, HB2.out⟩
    rw [he] at HR
    have HC := Lib.hid (containsConf_any A n c p w2 HX2.out (by omega))
    go_wp2_with fail
    refine HC.out.mono ?_
    rintro e w3 ⟨rfl, hb⟩
    have HB3 := Lib.hid (below3 HB2.out hb)
    clear hb HC
    generalize anyConf p = ac at HR ⊢
    go_wp2
    go_ret
    exact ⟨by rw [HR.out]; rfl, HB3.out⟩
  by_cases h2 : pk = 2
  case neg =>
    have d1 : (pk == 1) = false := by simpa using h1
    have d2 : (pk == 2) = false := by simpa using h2
    have HR := Lib.hid (begR3 pas p h1 h2)
    clear h1 h2
    go_enter Try.func33, Try.ntmps33
    go_wp2
    go_ret
    exact ⟨by rw [HR.out]; rfl, HB1.out⟩
  subst h2
  clear h1
  have HR := Lib.hid (begR2 pas p)
  by_cases h0 : n = 0
  · subst h0
    have HE := Lib.hid (HR.out.trans (head_none HL.out pas))
    have d0 : decide (((0 : Nat) : Int) > 0) = false := by simp
    have d0' : decide ((0 : Int) > 0) = false := by simp
    go_enter Try.func33, Try.ntmps33
    go_wp2
    go_quiet (fail)
    go_wp2
    go_ret
    exact ⟨by rw [HE.out]; rfl, below_drewN HB1.out _⟩
  obtain ⟨b, o, f, rfl, hbB, hf, g0, g1, hi⟩ := HX1.out.get (j := 0) (by omega)
  obtain ⟨y, fA, fn, fc, xs⟩ := f
  dsimp only at g0 g1 hi
  simp only [Nat.zero_mul, Nat.add_zero] at g0 g1
  have HE := Lib.hid (HR.out.trans (head_at hf.out pas))
  have HLX : Hid (xs.length = fn) := hi.out.len
  have HI := Lib.hid hi.out
  have dn : decide ((n : Int) > 0) = true := by simp; omega
  have hn0 : 0 < n := by omega
  have hn0' : (0 : Int) < (n : Int) := by omega
  clear hf hi HR h0
  obtain ⟨e3, he3⟩ : ∃ e, (y == 3) = e := ⟨_, rfl⟩
  cases e3
  case false =>
    have HE2 : Hid (begR 2 pas p = false) := by show _ = _; rw [HE.out]; show ((y == 3) && _) = _; rw [he3]; rfl
    go_enter Try.func33, Try.ntmps33
    go_wp2
    go_quiet (fail)
    go_wp2
    go_ret
    exact ⟨by rw [HE2.out]; rfl, below_drewN HB1.out _⟩
  by_cases hf0 : fn = 0
  · subst hf0
    have HE2 : Hid (begR 2 pas p = false) := by show _ = _; rw [HE.out]; show (_ && (decide (0 < xs.length) && _)) = _; rw [HLX.out]; simp
    have d0 : decide (((0 : Nat) : Int) > 0) = false := by simp
    have d0' : decide ((0 : Int) > 0) = false := by simp
    go_enter Try.func33, Try.ntmps33
    go_wp2
    go_quiet (fail)
    go_wp2
    go_ret
    exact ⟨by rw [HE2.out]; rfl, below_drewN HB1.out _⟩
  obtain ⟨b2, o2, x, rfl, hb2, gx, hxx⟩ := HI.out.cell (j := 0) (by omega)
  rw [Nat.add_zero] at gx
  have df : decide ((fn : Int) > 0) = true := by simp; omega
  have hf1 : 0 < fn := by omega
  have hf1' : (0 : Int) < (fn : Int) := by omega
  have HE2 : Hid (begR 2 pas p = (x == pas)) := by
    show _ = _
    rw [HE.out]
    show ((y == 3) && (decide (0 < xs.length) && xs.getD 0 0 == pas)) = _
    rw [he3, hxx.out, HLX.out, decide_eq_true hf1]
    rfl
  clear HE hxx hf0
  go_enter Try.func33, Try.ntmps33
  go_wp2
  go_quiet (fail)
  go_wp2
  go_ret
  exact ⟨by rw [HE2.out]; rfl, below_drewN HB1.out _⟩
theorem chk_head {p : Path} {s : Int × List Int} (h : pathErr p = 0) (h0 : p[0]? = some s) : 0 < s.2.length := by
  cases p with
  | nil => simp at h0
  | cons x r =>
    simp only [List.getElem?_cons_zero, Option.some.injEq] at h0
    subst h0
    unfold pathErr at h
    split at h
    · cases h
    · rw [chk] at h
      by_cases he : segErr x = 0
      · unfold segErr at he
        split at he
        · cases he
        · split at he
          · cases he
          · omega
      · rw [if_pos he] at h
        exact absurd h he
set_option linter.unusedVariables false in
set_option maxHeartbeats 4000000 in
theorem mismatch_any (pk pas padr ploc : Int) (pcli : Bool) (phold prest : Int) (pimp pexp : ByteArray) (pself pdamp : Bool) (A : Option Addr) (n c : Nat) (p : Path) (w : World) (hx : Segs w w.heap.size A n c p) (hs : Sm p) (hv : pathErr p = 0) :
    Calls Try.prog 38 #[.agg #[.int .i64 pk, .int .i64 pas, .int .u32 padr, .int .u32 ploc, .bool pcli, .int .i64 phold, .int .i64 prest, .string pimp, .string pexp, .bool pself, .bool pdamp], .slice A n c] w fun e w' => e = .returned (.bool (!begR pk pas p)) ∧ Below w.heap.size w w' := by
  have HX := Lib.hid hx
  have HL := Lib.hid hx.len
  have HS := Lib.hid hs
  have HV := Lib.hid hv
  have hn : n ≤ 1000000 := by have h1 := hx.len; unfold Sm at hs; omega
  clear hx hs hv
  obtain ⟨w1, hw1⟩ : ∃ w1, w.alloc (.cells #[.int .i64 pk, .int .i64 pas, .int .u32 padr, .int .u32 ploc, .bool pcli, .int .i64 phold, .int .i64 prest, .string pimp, .string pexp, .bool pself, .bool pdamp] 66) = w1 := ⟨_, rfl⟩
  have hbk : Blk w1 w.heap.size 66 [.int .i64 pk, .int .i64 pas, .int .u32 padr, .int .u32 ploc, .bool pcli, .int .i64 phold, .int .i64 prest, .string pimp, .string pexp, .bool pself, .bool pdamp] := by rw [← hw1]; exact Blk.new w _ _
  have hb1 : Below w.heap.size w w1 := by rw [← hw1]; exact belowA _ _
  have HB1 := Lib.hid hb1
  have HK := Lib.hid hbk
  have hlt := hbk.lt
  have hc0 := hbk.cell 0
  have hc1 := hbk.cell 1
  simp only [List.getElem?_cons_zero, List.getElem?_cons_succ] at hc0 hc1
  have HX1 := Lib.hid (HX.out.grow hb1 (Nat.le_refl _))
  clear hbk hb1
  by_cases h1 : pk = 1
  · subst h1
    have HC := Lib.hid (refFirst_any A n c p w1 HX1.out (by omega))
    have HR := Lib.hid (begR1 pas p)
    go_enter Try.func38, Try.ntmps38
    go_wp2_with fail
    refine HC.out.mono ?_
    rintro e w2 ⟨rfl, hb⟩
    have HK2 := Lib.hid (HK.out.keep hb)
    have HB2 := Lib.hid (below3 HB1.out hb)
    have HX2 := Lib.hid (HX1.out.grow hb (Nat.le_refl _))
    have hc1' := HK2.out.cell 1
    simp only [List.getElem?_cons_zero, List.getElem?_cons_succ] at hc1'
    have hlt2 := HK2.out.lt
    clear hb HC HX1
    obtain ⟨⟨x, ok⟩, hq⟩ : ∃ q, firstR p = q := ⟨_, rfl⟩
    rw [hq] at HR ⊢
    clear hq hc0 hc1
    dsimp only at HR ⊢
    cases ok
    case false =>
      go_wp2
      go_ret
      exact ⟨by rw [HR.out]; rfl, HB2.out⟩
    obtain ⟨e, he⟩ : ∃ e, (x == pas) = e := ⟨_, rfl⟩
    have he' : (x != pas) = !e := by rw [← he]; rfl
    cases e
    case false =>
      rw [he] at HR
      rw [Bool.not_false] at he'
      go_wp2
      go_ret
      exact ⟨by rw [HR.out]; rfl, HB2.out⟩
    rw [he] at HR
    rw [Bool.not_true] at he'
    have HC := Lib.hid (conf41_any A n c p w2 HX2.out HS.out)
    go_wp2_with fail
    refine HC.out.mono ?_
    rintro e w3 ⟨rfl, hb⟩
    have HB3 := Lib.hid (below3 HB2.out hb)
    clear hb HC
    generalize anyConf p = ac at HR ⊢
    go_wp2
    go_ret
    exact ⟨by rw [HR.out]; simp, HB3.out⟩
  have d1 : (pk == 1) = false := by simpa using h1
  by_cases h2 : pk = 2
  case neg =>
    have d2 : (pk == 2) = false := by simpa using h2
    have HR := Lib.hid (begR3 pas p h1 h2)
    clear h1 h2
    go_enter Try.func38, Try.ntmps38
    go_wp2
    go_quiet (fail)
    go_wp2
    go_ret
    exact ⟨by rw [HR.out]; rfl, below_drewN HB1.out _⟩
  subst h2
  clear h1
  have HR := Lib.hid (begR2 pas p)
  by_cases h0 : n = 0
  · subst h0
    have HE := Lib.hid (HR.out.trans (head_none HL.out pas))
    have d0 : (((0 : Nat) : Int) == 0) = true := by simp
    have d0' : ((0 : Int) == 0) = true := by simp
    go_enter Try.func38, Try.ntmps38
    go_wp2
    go_quiet (fail)
    go_wp2
    go_ret
    exact ⟨by rw [HE.out]; rfl, below_drewN HB1.out _⟩
  obtain ⟨b, o, f, rfl, hbB, hf, g0, g1, hi⟩ := HX1.out.get (j := 0) (by omega)
  obtain ⟨y, fA, fn, fc, xs⟩ := f
  dsimp only at g0 g1 hi
  simp only [Nat.zero_mul, Nat.add_zero] at g0 g1
  have HE := Lib.hid (HR.out.trans (head_at hf.out pas))
  have HLX : Hid (xs.length = fn) := hi.out.len
  have hf1 : 0 < fn := by have := chk_head HV.out hf.out; dsimp only [SV.key] at this; rw [HLX.out] at this; exact this
  have HI := Lib.hid hi.out
  have dn : ((n : Int) == 0) = false := by simp; omega
  have hn0 : 0 < n := by omega
  have hn0' : (0 : Int) < (n : Int) := by omega
  clear hf hi HR h0
  obtain ⟨e3, he3⟩ : ∃ e, (y == 3) = e := ⟨_, rfl⟩
  have he3' : (y != 3) = !e3 := by rw [← he3]; rfl
  cases e3
  case false =>
    have HE2 : Hid (begR 2 pas p = false) := by show _ = _; rw [HE.out]; show ((y == 3) && _) = _; rw [he3]; rfl
    rw [Bool.not_false] at he3'
    go_enter Try.func38, Try.ntmps38
    go_wp2
    go_quiet (fail)
    go_wp2
    go_ret
    exact ⟨by rw [HE2.out]; rfl, below_drewN HB1.out _⟩
  rw [Bool.not_true] at he3'
  obtain ⟨b2, o2, x, rfl, hb2, gx, hxx⟩ := HI.out.cell (j := 0) (by omega)
  rw [Nat.add_zero] at gx
  have hf1' : (0 : Int) < (fn : Int) := by omega
  have HE2 : Hid (begR 2 pas p = (x == pas)) := by
    show _ = _
    rw [HE.out]
    show ((y == 3) && (decide (0 < xs.length) && xs.getD 0 0 == pas)) = _
    rw [he3, hxx.out, HLX.out, decide_eq_true hf1]
    rfl
  clear HE hxx
  go_enter Try.func38, Try.ntmps38
  go_wp2
  go_quiet (fail)
  go_wp2
  go_ret
  exact ⟨by rw [HE2.out]; rfl, below_drewN HB1.out _⟩
end Go.Proofs.Ytojgohgeagbkbaa
