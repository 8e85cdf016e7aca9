/- Prepend. -/
import Derived.Test.YtojgohgeagbkbaaSegRef
namespace Go.Proofs.Ytojgohgeagbkbaa
open Go.RowKit

/-- a list of segments that reads, and may be appended to v -/
def FSegs (w : World) (B lo : Nat) (v : Value) (A : Option Addr) (n c : Nat) (us : Path) : Prop :=
  ∃ fs : List SV, Recs w B 2 A n c SV.vals fs ∧ fs.map SV.key = us ∧ ∀ t ∈ fs, Ints w w.heap.size .i64 t.A t.n t.c t.xs ∧ Free lo v t.A t.n
theorem fsegs_new {w : World} {base2 lo2 n c lo : Nat} {v : Value} {A : Option Addr} {us : Path} (h : SOut w base2 lo2 (.slice A n c) n us) (hv : ∀ k, v.ownBlock = some k → k < lo2) (hl : lo ≤ lo2) : FSegs w w.heap.size lo v A n c us := by
  obtain ⟨fs, h1, h2, h3, h4⟩ := h
  refine ⟨fs, ⟨Cells.of_own h1, h2⟩, h3, fun t ht => ⟨(h4 t ht).1, fun hn ad ha => ?_⟩⟩
  have := ((h4 t ht).2 hn ad ha).1
  refine ⟨by omega, fun hk => ?_⟩
  have := hv _ hk
  omega
theorem fsegs_old {w1 w2 : World} {base lo n c lo' : Nat} {v : Value} {A : Option Addr} {us : Path} (h : SOut w1 base lo (.slice A n c) n us) (hb : Below w1.heap.size w1 w2) (hv : ∀ k, v.ownBlock = some k → w1.heap.size ≤ k) (hl : lo' ≤ lo) : FSegs w2 w2.heap.size lo' v A n c us := by
  obtain ⟨fs, h1, h2, h3, h4⟩ := h
  refine ⟨fs, ⟨(Cells.below (Cells.of_own h1) hb).more hb.size, h2⟩, h3, fun t ht => ⟨((h4 t ht).1.below hb).more hb.size, fun hn ad ha => ?_⟩⟩
  have h5 := ((h4 t ht).2 hn ad ha).1
  obtain ⟨b, o, e, hbB, _⟩ := (h4 t ht).1.2.2.2 (by omega)
  rw [e] at ha
  obtain rfl := Option.some.inj ha
  refine ⟨by omega, fun hk => ?_⟩
  have := hv _ hk
  dsimp only at this
  omega
theorem SOut.appendF {w : World} {base lo l n c B : Nat} {v : Value} {ts us : Path} {A : Option Addr} (h : SOut w base lo v l ts) (hbase : base ≤ w.heap.size) (hl : l + n ≤ 2000000000000) (hf : FSegs w B lo v A n c us) :
    ∃ A' c' w', (Builtin.append_ #[35, 35] 35 #[v, .slice A n c]).run Try.prog w = .ok (.slice A' (l + n) c') w' ∧ SOut w' base lo (.slice A' (l + n) c') (l + n) (ts ++ us) ∧ Below base w w' := by
  obtain ⟨fs, h1, h2, h3⟩ := hf
  obtain ⟨A', c', w', k1, k2, k3, k4⟩ := h.append hbase hl fs h1 h2 h3
  exact ⟨A', c', w', k1, k2, (Below.refl base w).grown k3 hbase (fun k hk => (h.block k hk).1)⟩
/-- how many segments of a kind are at the beginning -/
def runL (k : Int) (p : Path) : Nat := (p.takeWhile fun s => decide (s.1 = k)).length
theorem runL_le (k : Int) (p : Path) : runL k p ≤ p.length := by
  unfold runL
  have := List.takeWhile_append_dropWhile (p := fun s : Int × List Int => decide (s.1 = k)) (l := p)
  have h := congrArg List.length this
  rw [List.length_append] at h
  omega
theorem runL_cons (k : Int) (s : Int × List Int) (r : Path) : runL k (s :: r) = if s.1 = k then runL k r + 1 else 0 := by
  unfold runL
  rw [List.takeWhile_cons]
  by_cases h : s.1 = k <;> simp [h]
theorem runL_go : ∀ {p : Path} {j : Nat} {s : Int × List Int} {k : Int}, j ≤ runL k p → p[j]? = some s → s.1 = k → j + 1 ≤ runL k p
  | [], j, s, k, _, h, _ => by simp at h
  | x :: r, 0, s, k, _, h, hs => by
    simp only [List.getElem?_cons_zero, Option.some.injEq] at h
    subst h
    rw [runL_cons, if_pos hs]
    omega
  | x :: r, j + 1, s, k, hj, h, hs => by
    simp only [List.getElem?_cons_succ] at h
    rw [runL_cons] at hj ⊢
    by_cases hx : x.1 = k
    · rw [if_pos hx] at hj ⊢
      have := runL_go (by omega : j ≤ runL k r) h hs
      omega
    · rw [if_neg hx] at hj
      omega
theorem runL_stop : ∀ {p : Path} {j : Nat} {s : Int × List Int} {k : Int}, j ≤ runL k p → p[j]? = some s → s.1 ≠ k → runL k p = j
  | [], j, s, k, _, h, _ => by simp at h
  | x :: r, 0, s, k, _, h, hs => by
    simp only [List.getElem?_cons_zero, Option.some.injEq] at h
    subst h
    rw [runL_cons, if_neg hs]
  | x :: r, j + 1, s, k, hj, h, hs => by
    simp only [List.getElem?_cons_succ] at h
    rw [runL_cons] at hj ⊢
    by_cases hx : x.1 = k
    · rw [if_pos hx] at hj ⊢
      rw [runL_stop (by omega : j ≤ runL k r) h hs]
    · rw [if_neg hx] at hj
      omega
theorem runL_end {p : Path} {k : Int} (h : p.length ≤ runL k p) : runL k p = p.length := Nat.le_antisymm (runL_le k p) h
def headB (p : Path) : Bool := match p with
  | [] => false
  | s :: _ => confB s.1
/-- Prepend -/
def prependR (p : Path) (kind ax n : Int) : Path × Int :=
  if pathErr p ≠ 0 then ([], pathErr p)
  else if ¬ (kind = 2 ∨ kind = 3) then ([], 15)
  else if ax < 1 ∨ 4294967295 < ax ∨ n < 0 ∨ 255 < n then ([], 5)
  else if (decide (0 < n) && (decide (kind = 2) && headB p)) = true then ([], 1)
  else if 64 < (seqs kind (List.replicate n.toNat ax ++ flat (p.take (runL kind p))) ++ p.drop (runL kind p)).length then ([], 4)
  else (seqs kind (List.replicate n.toNat ax ++ flat (p.take (runL kind p))) ++ p.drop (runL kind p), 0)
/-- what a call that makes a path or fails returns -/
def GivesPathErr (q : Path × Int) (w : World) (e : Ending) (w' : World) : Prop := ∃ A m c, e = .returned (.tuple #[.slice A m c, .int .i64 q.2]) ∧ SOut w' w.heap.size w.heap.size (.slice A m c) m q.1 ∧ Below w.heap.size w w'
def PrOut (w : World) (q : Path) (ov : Value) (W : World) : Prop := ∃ A m c, ov = .slice A m c ∧ Hid (SOut W w.heap.size w.heap.size (.slice A m c) m q) ∧ Hid (Below w.heap.size w W)
theorem rep_succ (k : Nat) (a : Int) : List.replicate (k + 1) a = List.replicate k a ++ [a] := List.replicate_succ'
def R1Inv (w : World) (a : Int) (nn : Nat) (lv iv : Value) (W : World) : Prop := ∃ k : Nat, k ≤ nn ∧ iv = .int .i64 k ∧ Hid (Own W w.heap.size 3 .i64 lv k (List.replicate k a)) ∧ Hid (Below w.heap.size w W)
def R2Inv (w : World) (a kind : Int) (nn : Nat) (p : Path) (lv iv : Value) (W : World) : Prop := ∃ k : Nat, Hid (k ≤ runL kind p) ∧ iv = .int .i64 k ∧ Hid (Own W w.heap.size 3 .i64 lv (nn + (flat (p.take k)).length) (List.replicate nn a ++ flat (p.take k))) ∧ Hid (Below w.heap.size w W)
set_option linter.unusedSimpArgs false in
set_option maxRecDepth 100000 in
set_option maxHeartbeats 8000000 in
theorem prepend_any (A : Option Addr) (n c : Nat) (p : Path) (kind ax q : Int) (w : World) (hx : Segs w w.heap.size A n c p) (hs : Sm p) :
    Calls Try.prog 58 #[.slice A n c, .int .i64 kind, .int .i64 ax, .int .i64 q] w (GivesPathErr (prependR p kind ax q) w) := by
  have HX := Lib.hid hx
  have HL := Lib.hid hx.len
  have HS := Lib.hid hs
  have hn : n ≤ 1000000 := by have h1 := hx.len; unfold Sm at hs; omega
  have hfm : (flat p).length ≤ 1000000 := by unfold Sm at hs; omega
  have HFM := Lib.hid hfm
  clear hx hs hfm
  go_enter Try.func58, Try.ntmps58
  go_wp2_with fail
  refine (check_any A n c p w HX.out (by omega)).mono ?_
  rintro e w1 ⟨rfl, hb1⟩
  have HB1 := Lib.hid hb1
  by_cases he : pathErr p = 0
  case neg =>
    have HF : Hid (prependR p kind ax q = ([], pathErr p)) := if_pos he
    obtain ⟨g, hg⟩ : ∃ g, pathErr p = g := ⟨_, rfl⟩
    rw [hg] at HF he ⊢
    have d : (g != 0) = true := by simp [he]
    clear he hg hb1
    go_wp2
    go_ret2
    rw [HF.out]
    exact ⟨_, _, _, rfl, SOut.nil _ _ _, HB1.out⟩
  rw [he]
  have HE := Lib.hid he
  clear he hb1
  by_cases hk : kind = 2 ∨ kind = 3
  case neg =>
    have HF : Hid (prependR p kind ax q = ([], 15)) := by
      show _ = _
      unfold prependR
      rw [if_neg (fun g => g HE.out), if_pos hk]
    go_wp2_with fail
    refine (among23 w1 _ rfl kind).mono ?_
    rintro e w2 ⟨rfl, rfl⟩
    have hsq : seqB kind = false := by unfold seqB; exact decide_eq_false hk
    rw [hsq]
    have HB2 := Lib.hid (below3 HB1.out (belowA w1 (.cells #[.int .i64 2, .int .i64 3] 3)))
    clear hk hsq
    go_wp2
    go_ret2
    rw [HF.out]
    exact ⟨_, _, _, rfl, SOut.nil _ _ _, HB2.out⟩
  have HK := Lib.hid hk
  go_wp2_with fail
  refine (among23 w1 _ rfl kind).mono ?_
  rintro e w2 ⟨rfl, rfl⟩
  have hsq : seqB kind = true := by unfold seqB; exact decide_eq_true hk
  rw [hsq]
  have hb2 := below3 HB1.out (belowA w1 (.cells #[.int .i64 2, .int .i64 3] 3))
  obtain ⟨W2, hW2⟩ : ∃ W, w1.alloc (.cells #[.int .i64 2, .int .i64 3] 3) = W := ⟨_, rfl⟩
  rw [hW2] at hb2 ⊢
  have HB2 := Lib.hid hb2
  clear hk hsq hb2 hW2
  by_cases hr : ax < 1 ∨ 4294967295 < ax ∨ q < 0 ∨ 255 < q
  case pos =>
    have HF : Hid (prependR p kind ax q = ([], 5)) := by
      show _ = _
      unfold prependR
      rw [if_neg (fun g => g HE.out), if_neg (fun g => g HK.out), if_pos hr]
    by_cases c1 : ax < 1
    · have e1 : decide (ax < 1) = true := by simp [c1]
      clear hr c1
      go_wp2
      go_ret2
      rw [HF.out]
      exact ⟨_, _, _, rfl, SOut.nil _ _ _, HB2.out⟩
    have e1 : decide (ax < 1) = false := by simp; omega
    by_cases c2 : 4294967295 < ax
    · have e2 : decide (ax > 4294967295) = true := by simp [c2]
      clear hr c1 c2
      go_wp2
      go_ret2
      rw [HF.out]
      exact ⟨_, _, _, rfl, SOut.nil _ _ _, HB2.out⟩
    have e2 : decide (ax > 4294967295) = false := by simp; omega
    by_cases c3 : q < 0
    · have e3 : decide (q < 0) = true := by simp [c3]
      clear hr c1 c2 c3
      go_wp2
      go_ret2
      rw [HF.out]
      exact ⟨_, _, _, rfl, SOut.nil _ _ _, HB2.out⟩
    have e3 : decide (q < 0) = false := by simp; omega
    have e4 : decide (q > 255) = true := by simp; omega
    clear hr c1 c2 c3
    go_wp2
    go_ret2
    rw [HF.out]
    exact ⟨_, _, _, rfl, SOut.nil _ _ _, HB2.out⟩
  obtain ⟨nn, rfl⟩ : ∃ nn : Nat, q = (nn : Int) := ⟨q.toNat, by omega⟩
  have hnn : nn ≤ 255 := by omega
  have e1 : decide (ax < 1) = false := by simp; omega
  have e2 : decide (ax > 4294967295) = false := by simp; omega
  have e3 : decide ((nn : Int) < 0) = false := by simp
  have e4 : decide ((nn : Int) > 255) = false := by simp; omega
  obtain ⟨bad, hbad⟩ : ∃ b, (decide (0 < (nn : Int)) && (decide (kind = 2) && headB p)) = b := ⟨_, rfl⟩
  have HBAD := Lib.hid hbad
  have HF1 : Hid (bad = true → prependR p kind ax nn = ([], 1)) := fun h => by
    unfold prependR
    rw [if_neg (fun g => g HE.out), if_neg (fun g => g HK.out), if_neg hr, if_pos (by rw [hbad]; exact h)]
  obtain ⟨out, hout⟩ : ∃ o, seqs kind (List.replicate nn ax ++ flat (p.take (runL kind p))) ++ p.drop (runL kind p) = o := ⟨_, rfl⟩
  have HOUT := Lib.hid hout
  have HF2 : Hid (bad = false → 64 < out.length → prependR p kind ax nn = ([], 4)) := fun h h1 => by
    unfold prependR
    rw [if_neg (fun g => g HE.out), if_neg (fun g => g HK.out), if_neg hr, if_neg (by rw [hbad, h]; simp), Int.toNat_natCast, hout, if_pos h1]
  have HF3 : Hid (bad = false → ¬ 64 < out.length → prependR p kind ax nn = (out, 0)) := fun h h1 => by
    unfold prependR
    rw [if_neg (fun g => g HE.out), if_neg (fun g => g HK.out), if_neg hr, if_neg (by rw [hbad, h]; simp), Int.toNat_natCast, hout, if_neg h1]
  clear hr hbad hout
  go_upto_region 8 with fail
  go_cut [39] (fun s wx => s = .bool bad ∧ Hid (Below w.heap.size w wx))
  case first =>
    by_cases c1 : nn = 0
    · subst c1
      have hb : Hid (bad = false) := by show _ = _; rw [← HBAD.out]; rfl
      go_wp2
      go_meet
      exact ⟨bool_eq hb.out.symm, HB2⟩
    have d1 : decide ((nn : Int) > 0) = true := by simp; omega
    by_cases c2 : kind = 2
    case neg =>
      have d2 : (kind == 2) = false := by simp [c2]
      have hb : Hid (bad = false) := by show _ = _; rw [← HBAD.out]; simp [c2]
      clear c2
      go_wp2
      go_meet
      exact ⟨bool_eq hb.out.symm, HB2⟩
    subst c2
    by_cases c3 : n = 0
    · subst c3
      have hb : Hid (bad = false) := by
        show _ = _
        rw [← HBAD.out]
        obtain rfl : p = [] := List.eq_nil_of_length_eq_zero HL.out
        simp [headB]
      go_wp2
      go_meet
      exact ⟨bool_eq hb.out.symm, HB2⟩
    have d3 : decide ((n : Int) > 0) = true := by simp; omega
    have hn0 : 0 < n := by omega
    obtain ⟨b, o, f, rfl, hbB, hf, g0, g1, hi⟩ := HX.out.get hn0
    obtain ⟨y, fA, fn, fc, xs⟩ := f
    dsimp only at g0 g1 hi
    rw [Nat.zero_mul, Nat.add_zero] at g0
    have HQ : Hid (bad = confB y) := by
      show _ = _
      rw [← HBAD.out]
      have hf' := hf.out
      cases hp : p with
      | nil => rw [hp] at hf'; simp at hf'
      | cons s r =>
        rw [hp] at hf'
        simp only [List.getElem?_cons_zero, Option.some.injEq] at hf'
        rw [hf']
        have : decide ((0 : Int) < nn) = true := by simp; omega
        rw [this]
        rfl
    have p0 : W2.cell? ⟨b, o, none⟩ = some (.int .i64 y) := (HB2.out.cell (p := ⟨b, o, none⟩) hbB).trans g0
    have hbW : b < W2.heap.size := by have := HB2.out.size; omega
    clear hf hi g0 g1
    go_wp2_with fail
    refine (confed_any y _).mono ?_
    rintro e w3 ⟨rfl, hb3⟩
    have HB3 := Lib.hid (below3 HB2.out hb3)
    clear hb3
    go_wp2
    go_meet
    exact ⟨bool_eq HQ.out.symm, HB3⟩
  obtain ⟨rfl, HB3⟩ := hcut
  cases bad with
  | true =>
    have HF := Lib.hid (HF1.out rfl)
    clear HF1 HF2 HF3
    go_wp2
    go_ret2
    rw [HF.out]
    exact ⟨_, _, _, rfl, SOut.nil _ _ _, HB3.out⟩
  | false =>
  have HF2' := Lib.hid (HF2.out rfl)
  have HF3' := Lib.hid (HF3.out rfl)
  clear HF1 HF2 HF3 HBAD HK HE HB2 HB1
  go_wp2
  go_loopw [11, 59] (fun lv iv wr => R1Inv w ax nn lv iv wr) (fun _ iv _ => nn - (intOf iv).toNat)
  case atStart => exact ⟨0, Nat.zero_le _, rfl, Own.nil _ _ _ _, HB3⟩
  case round =>
    obtain ⟨k, hk, rfl, ho, hbw⟩ := hrel
    obtain ⟨Al, cl, rfl⟩ := own_form ho.out
    by_cases hlt : k < nn
    · obtain ⟨A', c', w', hrun, ho', hb'⟩ := push_int ho.out ax rfl hbw.out.size (by omega)
      have HR := Lib.hid hrun
      have HO' : Hid (Own w' w.heap.size 3 .i64 (.slice A' (k + 1) c') (k + 1) (List.replicate (k + 1) ax)) := by show Own _ _ _ _ _ _ _; rw [rep_succ]; exact ho'
      have HB' := Lib.hid (hbw.out.trans hb')
      clear hrun ho' hb' ho
      go_wp2_with (at_builtin; refine wpList_append_run rfl _ _ _ rfl rfl rfl HR.out ?_)
      go_roundw
      case rel => exact ⟨k + 1, by omega, by go_num, HO', HB'⟩
      case measure => simp [intOf]; omega
    obtain rfl : k = nn := by omega
    obtain ⟨V0, hV0⟩ : ∃ V : World, V = wr := ⟨_, rfl⟩
    subst hV0
    have HO0 : Hid (Own V0 w.heap.size 3 .i64 (.slice Al (k + (flat (p.take 0)).length) cl) (k + (flat (p.take 0)).length) (List.replicate k ax ++ flat (p.take 0))) := by
      show Own _ _ _ _ _ _ _
      simp only [List.take_zero, flat, List.flatMap_nil, List.length_nil, Nat.add_zero, List.append_nil]
      exact ho.out
    have HB0 := hbw
    clear ho hbw HB3
    go_wp2
    go_loopw [11, 12] (fun lv iv wr => R2Inv w ax kind k p lv iv wr) (fun _ iv _ => n - (intOf iv).toNat)
    case atStart => exact ⟨0, Nat.zero_le _, rfl, by simpa [flat] using HO0, HB0⟩
    case round =>
      obtain ⟨j, hj, rfl, ho, hbw⟩ := hrel
      obtain ⟨Al, cl, rfl⟩ := own_form ho.out
      have hjn : j ≤ n := by have := runL_le kind p; have h1 := hj.out; have h2 := HL.out; omega
      have hft := flat_take p j
      have HFT := Lib.hid hft
      have hwr := hbw.out.size
      clear hft
      by_cases hgo : j < n ∧ (p.getD j (0, [])).1 = kind
      case pos =>
        obtain ⟨hlt, hgk⟩ := hgo
        obtain ⟨b, o, f, rfl, hbB, hf, g0, g1, hi⟩ := (HX.out.below hbw.out).get hlt
        obtain ⟨y, fA, fn, fc, xs⟩ := f
        dsimp only at g0 g1 hi
        have hgy : y = kind := by
          rw [List.getD_eq_getElem?_getD, hf.out] at hgk
          exact hgk
        subst hgy
        have HJ : Hid (j + 1 ≤ runL y p) := runL_go hj.out hf.out rfl
        have hle := seg_le hf.out
        have hsu := flat_succ hf.out
        have hfl : xs.length = fn := hi.out.len
        have hle' : (flat (p.take j)).length + fn ≤ (flat p).length := by rw [← hfl]; exact hle
        have hfm := HFM.out
        obtain ⟨A', c', w', hrun, ho', hb'⟩ := push_ints ho.out hi.out hwr (by omega)
        have HR := Lib.hid hrun
        have HO' : Hid (Own w' w.heap.size 3 .i64 (.slice A' (k + (flat (p.take j)).length + fn) c') (k + (flat (p.take (j + 1))).length) (List.replicate k ax ++ flat (p.take (j + 1)))) := by
          show Own _ _ _ _ _ _ _
          rw [hsu, List.length_append, ← List.append_assoc, ← Nat.add_assoc]
          show Own _ _ _ _ _ (k + (flat (p.take j)).length + xs.length) ((List.replicate k ax ++ flat (p.take j)) ++ xs)
          rw [hfl]
          exact ho'
        have HB' := Lib.hid (hbw.out.trans hb')
        have hbwr : b < wr.heap.size := by omega
        clear hf hi hle hle' hfl hsu ho' hb' hrun ho hfm hgk
        go_wp2_with (at_builtin; refine wpList_append_run rfl _ _ _ rfl rfl rfl HR.out ?_)
        go_roundw
        case rel => exact ⟨j + 1, HJ, by go_num, HO', HB'⟩
        case measure => simp [intOf]; omega
      -- the end of the run
      have HRUN : Hid (runL kind p = j) := by
        show _ = _
        by_cases hlt : j < n
        · have hlt' : j < p.length := by rw [HL.out]; exact hlt
          refine runL_stop hj.out (List.getElem?_eq_getElem hlt') fun h => hgo ⟨hlt, ?_⟩
          rw [List.getD_eq_getElem?_getD, List.getElem?_eq_getElem hlt']
          exact h
        · have h1 := HL.out
          rw [runL_end (by have := hj.out; omega)]
          omega
      obtain ⟨A2, c2, hsl, hs2⟩ := (HX.out.below hbw.out).sliceFrom (P := Try.prog) (T := 35) (E := 75) Try.underlying35 (by kernel_rfl) (lo := j) hjn
      have HS2 := Lib.hid hs2
      have HI := Lib.hid ho.out.ints
      have hsmd : Sm (p.drop j) := by
        have h1 := HS.out
        have h2 : (flat (p.drop j)).length ≤ (flat p).length := by
          conv => rhs; rw [← List.take_append_drop j p]
          unfold flat
          rw [List.flatMap_append, List.length_append]
          omega
        unfold Sm at h1 ⊢
        rw [List.length_drop]
        omega
      have HSD := Lib.hid hsmd
      have hln : k + (flat (p.take j)).length ≤ 2000000 := by have := HFT.out; have := HFM.out; omega
      have hjI : (j : Int) ≤ (n : Int) := by omega
      have HO2 : Hid (seqs kind (List.replicate k ax ++ flat (p.take j)) ++ p.drop j = out) := by show _ = _; rw [← HOUT.out, HRUN.out]
      clear hs2 hsmd ho HFT
      by_cases hlt : j < n
      case' pos =>
        obtain ⟨b, o, f, rfl, hbB, hf, g0, g1, hi⟩ := (HX.out.below hbw.out).get hlt
        obtain ⟨y, fA, fn, fc, xs⟩ := f
        dsimp only at g0 g1 hi
        have hyk : y ≠ kind := fun h => hgo ⟨hlt, by rw [List.getD_eq_getElem?_getD, hf.out]; exact h⟩
        have dyk : (y == kind) = false := by simp [hyk]
        have hbwr : b < wr.heap.size := by omega
        clear hf hi hyk hgo
      case' neg =>
        have hnj : ¬ (j : Int) < (n : Int) := by omega
        clear hgo
      all_goals
        clear hj HRUN
        go_upto_region 19 with fail
        obtain ⟨V, hV⟩ : ∃ V : World, V = wr := ⟨_, rfl⟩
        subst hV
        go_cut [13] (fun ov wx => PrOut w out ov wx)
        case first =>
          have hdV : Below V.heap.size V V.drew := (Below.refl _ _).drew
          have hwrd : w.heap.size ≤ V.drew.heap.size := hwr
          have hm4 := seqs_len kind _ (List.replicate k ax ++ flat (p.take j)) (Nat.le_refl _)
          rw [List.length_append, List.length_replicate] at hm4
          refine wp_region_noPanic ?_
          refine wp_region_held_drew (S := fun _ => True) (by kernel_rfl) trivial (fun hHeld => ?_)
          refine take_in (i := 0) _ (some 88) (by kernel_rfl) (by kernel_rfl) (by kernel_rfl) (by kernel_rfl) (fun _ _ _ h => h) (by rfl) (fun o ho w hSw => by cases ho; go_simp; (try with_reducible rfl)) trivial ?_
          try simp only [Act.put, List.setIfInBounds_toArray, List.set_cons_zero, List.set_cons_succ]
          refine take_in (i := 1) _ (some 89) (by kernel_rfl) (by kernel_rfl) (by kernel_rfl) (by kernel_rfl) (fun _ _ _ h => h) (by rfl) (fun o ho w hSw => by cases ho; go_simp; (try with_reducible rfl)) trivial ?_
          try simp only [Act.put, List.setIfInBounds_toArray, List.set_cons_zero, List.set_cons_succ]
          refine take_in (i := 3) _ (some 91) (by kernel_rfl) (by kernel_rfl) (by kernel_rfl) (by kernel_rfl) (fun _ _ _ h => h) (by rfl) (fun o ho w hSw => by cases ho; go_simp; (try with_reducible rfl)) trivial ?_
          try simp only [Act.put, List.setIfInBounds_toArray, List.set_cons_zero, List.set_cons_succ]
          refine take_in (i := 4) _ (some 92) (by kernel_rfl) (by kernel_rfl) (by kernel_rfl) (by kernel_rfl) (fun _ _ _ h => h) (by rfl) (fun o ho w hSw => by cases ho; go_simp; (try with_reducible rfl)) trivial ?_
          try simp only [Act.put, List.setIfInBounds_toArray, List.set_cons_zero, List.set_cons_succ]
          refine take_in (i := 5) _ (some 93) (by kernel_rfl) (by kernel_rfl) (by kernel_rfl) (by kernel_rfl) (fun _ _ _ h => h) (by rfl) (fun o ho w hSw => by cases ho; go_simp; (try with_reducible rfl)) trivial ?_
          try simp only [Act.put, List.setIfInBounds_toArray, List.set_cons_zero, List.set_cons_succ]
          refine wpAnyH_ready (rs := [2]) (by kernel_rfl) (by simp) ?_
          refine AllReadyH.cons (o := _) rfl (fun K hK => ?_) AllReadyH.nil
          go_simp
          go_at_call 90
          with_reducible refine (sequences_any kind Al _ cl _ _ _ (HI.out.below hdV) (Nat.le_refl _) (by omega)).mono ?_
          rintro e w4 ⟨A4, m4, c4, rfl, ho4, hb4⟩
          have hbV : Below V.heap.size V w4 := hdV.trans hb4
          refine hK.out _ _ trivial (fun _ => ?_)
          clear hK K
          try simp only [Act.put, List.setIfInBounds_toArray, List.set_cons_zero, List.set_cons_succ]
          refine wpAnyH_ready (rs := [6]) (by kernel_rfl) (by simp) ?_
          refine AllReadyH.cons (o := _) rfl (fun K hK => ?_) AllReadyH.nil
          go_simp
          go_at_call 91
          with_reducible refine (duplicate_any A2 _ c2 _ _ _ (HS2.out.below (hbV.mono hwr)) (Nat.le_trans hwrd hb4.size) HSD.out).mono ?_
          rintro e w5 ⟨A5, m5, c5, rfl, ho5, hb5⟩
          refine hK.out _ _ trivial (fun _ => ?_)
          clear hK K
          try simp only [Act.put, List.setIfInBounds_toArray, List.set_cons_zero, List.set_cons_succ]
          have hl4 := ho4.len
          have hl5 := ho5.len
          have hm5 : m5 ≤ n := by rw [← hl5, List.length_drop, HL.out]; omega
          obtain ⟨A6, c6, w6, hr6, ho6, hb6⟩ := ((ho4.below hb5).mono hwr hwr).appendF (Nat.le_trans hwrd (Nat.le_trans hb4.size hb5.size)) (by omega) (fsegs_new (lo := w.heap.size) ho5 (fun z hz => (ho4.block z hz).2) (Nat.le_trans hwrd hb4.size))
          rw [HO2.out] at ho6
          have HB6 : Hid (Below w.heap.size w w6) := (below3 (below3 hbw.out hbV) hb5).trans hb6
          refine wpAnyH_ready (rs := [7]) (by kernel_rfl) (by simp) ?_
          refine AllReadyH.cons (o := _) rfl (fun K hK => ?_) AllReadyH.nil
          refine step_append_at (some 95) (by rfl) (by rfl) _ _ _ (by rfl) (by rfl) (by rfl) hr6 ?_
          refine hK.out _ _ trivial (fun _ => ?_)
          clear hK K
          try simp only [Act.put, List.setIfInBounds_toArray, List.set_cons_zero, List.set_cons_succ]
          refine take_in (i := 8) _ (some 13) (by kernel_rfl) (by kernel_rfl) (by kernel_rfl) (by kernel_rfl) (fun _ _ _ h => h) (by rfl) (fun o ho w hSw => by cases ho; go_simp; (try with_reducible rfl)) trivial ?_
          try simp only [Act.put, List.setIfInBounds_toArray, List.set_cons_zero, List.set_cons_succ]
          refine wpAnyH_done (by kernel_rfl) ?_ _
          refine NoPanic.normal ?_
          go_wp2_with fail
          go_meet
          exact ⟨A6, _, c6, rfl, ho6, HB6⟩
        case rest =>
          obtain ⟨A6, m6, c6, rfl, HO6, HB6⟩ := hcut
          have hl6 := HO6.out.len
          by_cases h64 : 64 < m6
          case pos =>
            have d64 : decide ((m6 : Int) > 64) = true := by simp; omega
            have HF := Lib.hid (HF2'.out (by rw [hl6]; exact h64))
            clear hl6 h64 HF2' HF3'
            go_wp2
            go_ret2
            rw [HF.out]
            exact ⟨_, _, _, rfl, SOut.nil _ _ _, HB6.out⟩
          case neg =>
            have d64 : decide ((m6 : Int) > 64) = false := by simp; omega
            have HF := Lib.hid (HF3'.out (by rw [hl6]; exact h64))
            clear hl6 h64 HF2' HF3'
            go_wp2
            go_ret2
            rw [HF.out]
            exact ⟨A6, _, c6, rfl, HO6.out, HB6.out⟩
end Go.Proofs.Ytojgohgeagbkbaa
