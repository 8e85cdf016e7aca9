/- inserted, the document's. Clone of attributes, the document's. Changed, the document's: the walk. -/
import Derived.Test.YtojgohgeagbkbaaChgR
import Derived.Test.YtojgohgeagbkbaaDup
import Derived.Test.YtojgohgeagbkbaaBox
import Derived.Test.YtojgohgeagbkbaaAccR
import Derived.Test.YtojgohgeagbkbaaRefAtt
import Derived.Deep.DeepCutAuto
import Derived.Deep.CutBlock
namespace Go.Proofs.Ytojgohgeagbkbaa
open Go.RowKit

set_option linter.unusedVariables false
set_option linter.unusedSimpArgs false
theorem leadN_nil : leadN [] = 0 := rfl
theorem idxP_ge {f : Int → Bool} : ∀ p : Path, -1 ≤ idxP f p
  | [] => by rw [idxP]; omega
  | s :: r => by
    have := idxP_ge (f := f) r
    rw [idxP]
    split
    · omega
    · split <;> omega
theorem flat_app2 (p q : Path) : flat (p ++ q) = flat p ++ flat q := by unfold flat; rw [List.flatMap_append]
theorem leadN_cons (s : Int × List Int) (r : Path) : leadN (s :: r) = if confB s.1 = true then leadN r + 1 else 0 := by
  unfold leadN
  rw [idxP]
  have hl := idxP_le (f := notB) r
  cases hc : confB s.1
  · have hn : notB s.1 = true := by unfold notB; rw [hc]; rfl
    rw [if_pos hn, if_neg (by omega), if_neg (by simp)]
    rfl
  · have hn : notB s.1 = false := by unfold notB; rw [hc]; rfl
    have hm : -1 ≤ idxP notB r := idxP_ge r
    rw [if_neg (show ¬ notB s.1 = true by rw [hn]; simp)]
    by_cases h : idxP notB r < 0
    · rw [if_pos h, if_pos (show (-1 : Int) < 0 by omega), if_pos h, if_pos rfl, List.length_cons]
    · rw [if_neg h, if_neg (show ¬ idxP notB r + 1 < 0 by omega), if_neg h, if_pos rfl]
      omega
theorem leadN_go : ∀ {p : Path} {j : Nat} {s : Int × List Int}, j ≤ leadN p → p[j]? = some s → confB s.1 = true → j + 1 ≤ leadN p
  | [], j, s, _, h, _ => by simp at h
  | x :: r, 0, s, _, h, hs => by
    simp only [List.getElem?_cons_zero, Option.some.injEq] at h
    subst h
    rw [leadN_cons, if_pos hs]
    omega
  | x :: r, j + 1, s, hj, h, hs => by
    simp only [List.getElem?_cons_succ] at h
    rw [leadN_cons] at hj ⊢
    by_cases hx : confB x.1 = true
    · rw [if_pos hx] at hj ⊢
      have := leadN_go (by omega : j ≤ leadN r) h hs
      omega
    · rw [if_neg hx] at hj
      omega
theorem leadN_stop : ∀ {p : Path} {j : Nat} {s : Int × List Int}, j ≤ leadN p → p[j]? = some s → confB s.1 = false → leadN p = j
  | [], j, s, _, h, _ => by simp at h
  | x :: r, 0, s, _, h, hs => by
    simp only [List.getElem?_cons_zero, Option.some.injEq] at h
    subst h
    rw [leadN_cons, if_neg (by rw [hs]; simp)]
  | x :: r, j + 1, s, hj, h, hs => by
    simp only [List.getElem?_cons_succ] at h
    rw [leadN_cons] at hj ⊢
    by_cases hx : confB x.1 = true
    · rw [if_pos hx] at hj ⊢
      rw [leadN_stop (by omega : j ≤ leadN r) h hs]
    · rw [if_neg hx] at hj
      omega
theorem leadN_end {p : Path} (h : p.length ≤ leadN p) : leadN p = p.length := Nat.le_antisymm (leadN_le p) h
theorem insR_flat (p : Path) (l : List Int) : (flat (insR p l)).length ≤ l.length + (flat p).length := by
  unfold insR
  split
  · omega
  · rw [flat_app2, flat_app2, List.length_append, List.length_append, seqs_flat 2 _ _ (Nat.le_refl _), List.length_append]
    have h1 : (flat (p.take (leadN p))).length + (flat (p.drop (leadN p))).length = (flat p).length := by
      rw [← List.length_append, ← flat_app2, List.take_append_drop]
    have h2 : (flat ((p.drop (leadN p)).take (runL 2 (p.drop (leadN p))))).length + (flat ((p.drop (leadN p)).drop (runL 2 (p.drop (leadN p))))).length = (flat (p.drop (leadN p))).length := by
      rw [← List.length_append, ← flat_app2, List.take_append_drop]
    rw [List.drop_drop] at h2
    omega
/-- append of one record to a row of the call's own -/
theorem row_push {w : World} {base l N : Nat} {v : Value} {us : List Value} (h : w.ownsRow base 75 2 v l us) (f : SV) (hN : N = w.heap.size) (hbase : base ≤ w.heap.size) (hl : l ≤ 1000000000000) :
    ∃ A' c' w', (Builtin.append_ #[35, 35] 35 #[v, .slice (some ⟨N, 0, none⟩) 1 1]).run Try.prog (w.alloc (.cells #[.int .i64 f.kind, .slice f.A f.n f.c] 75)) = .ok (.slice A' (l + 1) c') w' ∧ w'.ownsRow base 75 2 (.slice A' (l + 1) c') (l + 1) (us ++ f.vals) ∧ Below base w w' := by
  subst hN
  obtain ⟨W, hW⟩ : ∃ W, w.alloc (.cells #[.int .i64 f.kind, .slice f.A f.n f.c] 75) = W := ⟨_, rfl⟩
  have hbel : Below w.heap.size w W := by rw [← hW]; exact belowA _ _
  have hlit : Cells W W.heap.size 2 (some ⟨w.heap.size, 0, none⟩) 1 1 [.int .i64 f.kind, .slice f.A f.n f.c] := by
    rw [← hW]
    exact Cells.of_own (World.ownsRow_lit (base := w.heap.size) (size := 2) w #[.int .i64 f.kind, .slice f.A f.n f.c] 1 (Nat.le_refl _) (by simp [maxLen]) rfl)
  obtain ⟨v', w', k1, k2, k3, k4⟩ := Cells.append (P := Try.prog) (t := 35) (ty := 35) Try.underlying35 seg_info rfl (by omega) (row_below h hbel) hlit (by
    intro u hu
    simp only [List.mem_cons, List.not_mem_nil, or_false] at hu
    rcases hu with rfl | rfl <;> rfl) (by simp only [maxLen]; omega) (by omega) (by have := hbel.size; omega)
  obtain ⟨A', c', rfl⟩ := own_form k2
  rw [hW]
  exact ⟨A', c', w', k1, k2, (hbel.mono hbase).grown k3 (by have := hbel.size; omega) (fun k hk => (World.ownsRow.lt h k hk).1)⟩
/-- a path that reads, where no row of the call's own lies -/
theorem fsegs_low {w : World} {B n c : Nat} {v : Value} {A : Option Addr} {us : Path} (h : Segs w B A n c us) (hB : B ≤ w.heap.size) (hv : ∀ k, v.ownBlock = some k → B ≤ k) : FSegs w B 0 v A n c us := by
  obtain ⟨fs, h1, h2, h3⟩ := h
  refine ⟨fs, h1, h2, fun t ht => ⟨(h3 t ht).more hB, fun hn ad ha => ⟨Nat.zero_le _, fun hk => ?_⟩⟩⟩
  obtain ⟨b, o, e, hb, _⟩ := (h3 t ht).2.2.2 (by omega)
  rw [e] at ha
  obtain rfl := Option.some.inj ha
  have := hv _ hk
  dsimp only at this
  omega
theorem segs_kind {w : World} {B n c : Nat} {A : Option Addr} {p : Path} (h : Segs w B A n c p) {j : Nat} (hj : j < n) (k : Int) (hne : (p.getD j (0, [])).1 ≠ k) :
    ∃ (b o : Nat) (y : Int), A = some ⟨b, o, none⟩ ∧ b < B ∧ w.cell? ⟨b, o + j * 2, none⟩ = some (.int .i64 y) ∧ y ≠ k := by
  obtain ⟨b, o, f, e, hbB, hf, g0, g1, hi⟩ := h.get hj
  refine ⟨b, o, f.kind, e, hbB, g0, fun h2 => hne ?_⟩
  rw [List.getD_eq_getElem?_getD, hf.out]
  exact h2
/-- the first loop -/
def RI1 (w : World) (p : Path) (fs : List SV) (ov kv : Value) (W : World) : Prop := ∃ k : Nat, Hid (k ≤ leadN p) ∧ kv = .int .i64 k ∧ Hid (W.ownsRow w.heap.size 75 2 ov k ((fs.take k).flatMap SV.vals)) ∧ Hid (Below w.heap.size w W)
/-- the second loop -/
def RI2 (w : World) (l : List Int) (i : Nat) (q' : Path) (m : Nat) (oA : Option Addr) (oc : Nat) (us : List Value) (lv kv : Value) (W : World) : Prop :=
  ∃ K q : Nat, Hid (K = i + q ∧ q ≤ runL 2 q') ∧ kv = .int .i64 (K : Int) ∧ Hid (Own W w.heap.size 3 .i64 lv (m + (flat (q'.take q)).length) (l ++ flat (q'.take q))) ∧ Hid (W.ownsRow w.heap.size 75 2 (.slice oA i oc) i us) ∧ Hid (Below w.heap.size w W)
set_option maxRecDepth 100000 in
set_option maxHeartbeats 8000000 in
theorem refInserted_any (A : Option Addr) (n c : Nat) (p : Path) (C : Option Addr) (m d : Nat) (l : List Int) (w : World) (hx : Segs w w.heap.size A n c p) (hl : Ints w w.heap.size .i64 C m d l) (h0 : 0 < m) (hs : p.length + (flat p).length + m ≤ 300000) :
    Calls Try.prog 49 #[.slice A n c, .slice C m d] w (GivesSegs (insR p l) w) := by
  have HX := Lib.hid hx
  have HL := Lib.hid hl
  have hln := hl.len
  have hpn := hx.len
  obtain ⟨fs, hrec, hkey, hints⟩ := hx
  have HREC := Lib.hid hrec
  have HKEY := Lib.hid hkey
  have HINT := Lib.hid hints
  have HFN : Hid (fs.length = n) := hrec.2
  have HI : Hid (insR p l = p.take (leadN p) ++ (seqs 2 (l ++ flat ((p.drop (leadN p)).take (runL 2 (p.drop (leadN p))))) ++ p.drop (leadN p + runL 2 (p.drop (leadN p))))) := by show _ = _; unfold insR; rw [if_neg (by omega)]
  have HSM : Hid (Sm (insR p l)) := by
    show Sm _
    unfold Sm
    have h1 := insR_len p l
    have h2 := insR_flat p l
    omega
  have hn : n ≤ 300000 := by omega
  have hm : m ≤ 300000 := by omega
  have HFP : Hid ((flat p).length ≤ 300000) := by show _ ≤ _; omega
  have HPN := Lib.hid hpn
  clear hl hs hln hpn hrec hkey hints
  go_enter Try.func49, Try.ntmps49
  go_wp2
  go_loopw [5, 6] (fun ov kv wr => RI1 w p fs ov kv wr) (fun _ kv _ => n - (intOf kv).toNat)
  case atStart => exact ⟨0, Nat.zero_le _, rfl, World.ownsRow_nil _ _ _ _, Below.refl _ _⟩
  case round =>
    obtain ⟨k, hk, rfl, ho, hb⟩ := hrel
    obtain ⟨Ao, co, rfl⟩ := own_form ho.out
    have hwr := hb.out.size
    have hkn : k ≤ n := by have h1 := hk.out; have h2 := leadN_le p; have h3 := HPN.out; omega
    by_cases hgo : k < n ∧ confB (p.getD k (0, [])).1 = true
    case pos =>
      obtain ⟨hlt, hgk⟩ := hgo
      obtain ⟨b, o, f, rfl, hbB, hf, hc⟩ := (HREC.out.below hb.out).get SV.vals_len hlt
      have hpf : p[k]? = some f.key := by rw [← HKEY.out, List.getElem?_map, hf]; rfl
      have hgy : confB f.kind = true := by
        rw [List.getD_eq_getElem?_getD, hpf] at hgk
        exact hgk
      have HJ : Hid (k + 1 ≤ leadN p) := leadN_go hk.out hpf hgy
      have HPK : Hid ((fs.take (k + 1)).flatMap SV.vals = (fs.take k).flatMap SV.vals ++ f.vals) := by
        show _ = _
        rw [List.take_add_one, hf]
        simp
      obtain ⟨A', c', w', hrun, ho', hb'⟩ := row_push ho.out f rfl hwr (by omega)
      obtain ⟨y, fA, fn, fc, xs⟩ := f
      have g0 := hc 0 (by omega)
      have g1 := hc 1 (by omega)
      simp only [SV.vals, List.getElem?_cons_zero, List.getElem?_cons_succ, Nat.add_zero] at g0 g1
      dsimp only at hrun hgy
      have HR := Lib.hid hrun
      have HO' : Hid (w'.ownsRow w.heap.size 75 2 (.slice A' (k + 1) c') (k + 1) ((fs.take (k + 1)).flatMap SV.vals)) := by show World.ownsRow _ _ _ _ _ _ _; rw [HPK.out]; exact ho'
      have HB' := Lib.hid (hb.out.trans hb')
      have hbwr : b < wr.heap.size := by omega
      have e34 : y = 3 ∨ y = 4 := by simpa [confB] using hgy
      have g1' : wr.cell? ⟨b, o + k * 2 + 1, none⟩ = some (.slice fA fn fc) := g1
      clear hf hc ho' hb' hrun ho hgk HPK hgy hk hpf g1
      rcases e34 with rfl | rfl
      all_goals
        go_wp2_with (at_builtin; refine wpList_append_run rfl _ _ _ rfl rfl rfl HR.out ?_)
        go_roundw
        case rel => exact ⟨k + 1, HJ, by go_num, HO', HB'⟩
        case measure => simp [intOf]; omega
    -- the end of the first loop
    have HLD : Hid (leadN p = k) := by
      show _ = _
      by_cases hlt : k < n
      · have hlt' : k < p.length := by rw [HPN.out]; exact hlt
        refine leadN_stop hk.out (List.getElem?_eq_getElem hlt') ?_
        cases hc : confB (p[k]).1
        · rfl
        · exact absurd ⟨hlt, by rw [List.getD_eq_getElem?_getD, List.getElem?_eq_getElem hlt']; exact hc⟩ hgo
      · have h1 := HPN.out
        rw [leadN_end (by have := hk.out; omega)]
        omega
    rw [HLD.out] at HI
    obtain ⟨p', hp'⟩ : ∃ p', p.drop k = p' := ⟨_, rfl⟩
    have HP := Lib.hid hp'
    rw [hp'] at HI
    clear hp'
    obtain ⟨us, hus⟩ : ∃ us, (fs.take k).flatMap SV.vals = us := ⟨_, rfl⟩
    have HUS := Lib.hid hus
    rw [hus] at ho
    clear hus
    obtain ⟨A4, c4, w4, hr4, ho4, hb4⟩ := copy_ints (W := wr) (HL.out.below hb.out) hwr rfl (by omega)
    have HR4 := Lib.hid hr4
    have HO2 : Hid (RI2 w l k p' m Ao co us (.slice A4 m c4) (.int .i64 (k : Int)) w4) := ⟨k, 0, ⟨by omega, Nat.zero_le _⟩, rfl, by show Own _ _ _ _ _ _ _; simp only [List.take_zero, flat, List.flatMap_nil, List.length_nil, Nat.add_zero, List.append_nil]; exact own_mono ho4 hwr, row_below ho.out hb4, hb.out.trans (hb4.mono hwr)⟩
    have hblk : k < n → ∃ b o y, A = some ⟨b, o, none⟩ ∧ b < wr.heap.size ∧ wr.cell? ⟨b, o + k * 2, none⟩ = some (.int .i64 y) ∧ confB y = false := by
      intro hlt
      obtain ⟨b, o, f, e, hbB, hf, g0, g1, hi⟩ := (HX.out.below hb.out).get hlt
      refine ⟨b, o, f.kind, e, by omega, g0, ?_⟩
      cases hc : confB f.kind
      · rfl
      · exact absurd ⟨hlt, by rw [List.getD_eq_getElem?_getD, hf.out]; exact hc⟩ hgo
    clear hr4 ho4 hb4 ho hb hgo hk
    by_cases hlt : k < n
    case' pos =>
      obtain ⟨b, o, y, hA, hbwr, g0, hyc⟩ := hblk hlt
      have e34 : ¬ y = 3 ∧ ¬ y = 4 := by simpa [confB] using hyc
      have hy3 : (y == 3) = false := by simpa using e34.1
      have hy4 : (y == 4) = false := by simpa using e34.2
      have hlti : (k : Int) < (n : Int) := by omega
      subst hA
      clear hyc e34
    case' neg =>
      have hlti : ¬ (k : Int) < (n : Int) := by omega
    all_goals
      clear hblk
      go_wp2_with (at_builtin; refine wpList_append_run rfl _ _ _ rfl rfl rfl HR4.out ?_)
      go_loopw [7, 6] (fun lv kv wr => RI2 w l k p' m Ao co us lv kv wr) (fun _ kv _ => n - (intOf kv).toNat)
      case atStart => exact HO2.out
      case round =>
        obtain ⟨Kk, q, hK, rfl, ho, hso, hb⟩ := hrel
        obtain ⟨Al, cl, rfl⟩ := own_form ho.out
        clear HO2 HR4
        have hwr2 := hb.out.size
        have hpl : p'.length = n - k := by have h3 := HPN.out; rw [← HP.out, List.length_drop, h3]
        have hKn : Kk ≤ n := by have h1 := hK.out; have h2 := runL_le 2 p'; omega
        have hflp : (flat p').length ≤ (flat p).length := by
          rw [← HP.out]
          conv => rhs; rw [← List.take_append_drop k p]
          unfold flat
          rw [List.flatMap_append, List.length_append]
          omega
        have HFL := Lib.hid hflp
        clear hflp
        by_cases hgo : Kk < n ∧ (p'.getD q (0, [])).1 = 2
        case pos =>
          obtain ⟨hlt2, hgk⟩ := hgo
          obtain ⟨b2, o2, f, hA, hbB, hf, g0', g1, hi⟩ := (HX.out.below hb.out).get hlt2
          obtain ⟨y2, fA, fn, fc, xs⟩ := f
          dsimp only at g0' g1 hi
          have hf' : p'[q]? = some (y2, xs) := by rw [← HP.out, List.getElem?_drop, ← hK.out.1]; exact hf.out
          obtain rfl : y2 = 2 := by
            rw [List.getD_eq_getElem?_getD, hf'] at hgk
            exact hgk
          have HJ : Hid (Kk + 1 = k + (q + 1) ∧ q + 1 ≤ runL 2 p') := ⟨by have := hK.out.1; omega, runL_go hK.out.2 hf' rfl⟩
          have hle := seg_le hf'
          have hsu := flat_succ hf'
          have hfl : xs.length = fn := hi.out.len
          have hle' : (flat (p'.take q)).length + fn ≤ (flat p').length := by rw [← hfl]; exact hle
          have hfm := HFL.out
          have hfm2 := HFP.out
          obtain ⟨v2, w', hrun, ho', hg', hor⟩ := Ints.append (P := Try.prog) (t := 52) (ty := 52) Try.underlying52 int_info rfl ho.out hi.out (by simp only [maxLen]; omega) (by omega) hwr2
          obtain ⟨A2, c2, rfl⟩ := own_form ho'
          have HR := Lib.hid hrun
          have hap := rows_apart hso.out ho.out (by decide)
          have HO' : Hid (Own w' w.heap.size 3 .i64 (.slice A2 (m + (flat (p'.take q)).length + fn) c2) (m + (flat (p'.take (q + 1))).length) (l ++ flat (p'.take (q + 1)))) := by
            show Own _ _ _ _ _ _ _
            rw [hsu, List.length_append, ← List.append_assoc, ← Nat.add_assoc]
            show Own _ _ _ _ _ (m + (flat (p'.take q)).length + xs.length) ((l ++ flat (p'.take q)) ++ xs)
            rw [hfl]
            exact ho'
          have HSO' : Hid (w'.ownsRow w.heap.size 75 2 (.slice Ao k co) k us) := World.ownsRow.kept hso.out hg' hap
          have HB' := Lib.hid (hb.out.grown hg' hwr2 (fun z hz => (World.ownsRow.lt ho.out z hz).1))
          have hbwr2 : b2 < wr.heap.size := by omega
          have hlti2 : (Kk : Int) < (n : Int) := by omega
          clear hf hf' hi hle hle' hfl hsu ho' hrun ho hso hg' hor hap hfm hfm2 hgk HFL hK hpl hb
          first
            | (injection hA with hA; injection hA with hA1 hA2 _; subst hA1; subst hA2)
            | (subst hA)
          go_wp2_with (at_builtin; refine wpList_append_run rfl _ _ _ rfl rfl rfl HR.out ?_)
          go_roundw
          case rel => exact ⟨Kk + 1, q + 1, HJ, by go_num, HO', HSO', HB'⟩
          case measure => simp [intOf]; omega
        -- the end of the run
        have HRUN : Hid (runL 2 p' = q) := by
          show _ = _
          by_cases hlt : Kk < n
          · have hlt' : q < p'.length := by have := hK.out.1; omega
            refine runL_stop hK.out.2 (List.getElem?_eq_getElem hlt') fun h => hgo ⟨hlt, ?_⟩
            rw [List.getD_eq_getElem?_getD, List.getElem?_eq_getElem hlt']
            exact h
          · have h1 := hK.out.1
            rw [runL_end (by have := hK.out.2; omega)]
            omega
        rw [HRUN.out, ← hK.out.1] at HI
        obtain ⟨alls, hal⟩ : ∃ alls, l ++ flat (p'.take q) = alls := ⟨_, rfl⟩
        obtain ⟨na, hna⟩ : ∃ na, m + (flat (p'.take q)).length = na := ⟨_, rfl⟩
        have hnal : na ≤ 1000000 := by have h1 := flat_take p' q; have h2 := HFL.out; have h3 := HFP.out; omega
        rw [hal] at ho HI
        rw [hna] at ho ⊢
        have HAL := Lib.hid ho.out.ints
        have hblk2 := fun hlt : Kk < n => segs_kind (HX.out.below hb.out) hlt 2 (by
          have e2 : p.getD Kk (0, []) = p'.getD q (0, []) := by rw [← HP.out, List.getD_eq_getElem?_getD, List.getD_eq_getElem?_getD, List.getElem?_drop, ← hK.out.1]
          rw [e2]
          exact fun h2 => hgo ⟨hlt, h2⟩)
        obtain ⟨A3, c3, hs3, hy3⟩ := Cells.sliceFrom (P := Try.prog) (T := 35) (E := 75) Try.underlying35 (by kernel_rfl) (HREC.out.below hb.out).1 (lo := Kk) hKn
        rw [flat_dropR SV.vals_len] at hy3
        have HS3 : Hid (Segs wr w.heap.size A3 (n - Kk) c3 (p.drop Kk)) := ⟨fs.drop Kk, ⟨hy3, by rw [List.length_drop, HFN.out]⟩, by rw [List.map_drop, HKEY.out], fun t ht => (HINT.out t (List.mem_of_mem_drop ht)).below hb.out⟩
        have HKK := Lib.hid hK.out.1
        have hKi : (Kk : Int) ≤ (n : Int) := by omega
        clear hy3 ho hgo hK HFL
        by_cases hlt3 : Kk < n
        case' pos =>
          obtain ⟨b3, o3, y3, hA, hb3w, g3, hy3⟩ := hblk2 hlt3
          have hbwr3 : b3 < wr.heap.size := by omega
          have hy3' : (y3 == 2) = false := by simpa using hy3
          have hlti3 : (Kk : Int) < (n : Int) := by omega
          first
            | (injection hA with hA; injection hA with hA1 hA2 _; subst hA1; subst hA2)
            | (subst hA)
          clear hy3
        case' neg =>
          have hlti3 : ¬ (Kk : Int) < (n : Int) := by omega
        all_goals
          clear hblk2
          go_wp2_with fail
          refine (refSequences_any 2 Al na cl wr.heap.size alls wr HAL.out (Nat.le_refl _) (by omega)).mono ?_
          rintro e w5 ⟨A5, m5, c5, rfl, ho5, hb5⟩
          have hbw5 := hb.out.trans (hb5.mono hwr2)
          have hm5 : m5 ≤ 1000000 := by have h1 := ho5.len; have h2 := seqs_len2 2 alls; have h3 := HAL.out.len; omega
          have hs5 : SOut w5 w.heap.size 0 (.slice Ao k co) k (p.take k) := by
            have hrow := row_below hso.out hb5
            rw [← HUS.out] at hrow
            refine ⟨fs.take k, hrow, by rw [List.length_take, HFN.out]; omega, by rw [List.map_take, HKEY.out], fun t ht => ?_⟩
            have h1 := HINT.out t (List.mem_of_mem_take ht)
            refine ⟨(h1.below hbw5).more hbw5.size, fun hn ad ha => ⟨Nat.zero_le _, fun hk2 => ?_⟩⟩
            obtain ⟨b9, o9, e9, hb9, _⟩ := h1.2.2.2 (by omega)
            rw [e9] at ha
            obtain rfl := Option.some.inj ha
            have := (World.ownsRow.lt hrow _ hk2).1
            dsimp only at this
            omega
          have hown := World.ownsRow.lt hso.out
          obtain ⟨A6, c6, w6, hr6, ho6, hb6⟩ := hs5.appendF hbw5.size (by omega) (fsegs_new (lo := 0) ho5 (fun z hz => (hown z hz).2) (Nat.zero_le _))
          have hbw6 := hbw5.trans hb6
          have hs6 : Segs w6 w.heap.size A3 (n - Kk) c3 (p.drop Kk) := (HS3.out.below (hb5.mono hwr2)).below hb6
          obtain ⟨A7, c7, w7, hr7, ho7, hb7⟩ := ho6.appendF hbw6.size (by omega) (fsegs_low hs6 hbw6.size (fun z hz => (ho6.block z hz).1))
          have hbw7 := hbw6.trans hb7
          rw [List.append_assoc] at ho7
          have HO7 : Hid (Segs w7 w7.heap.size A7 (k + m5 + (n - Kk)) c7 (insR p l)) := by
            show Segs _ _ _ _ _ _
            rw [HI.out]
            exact ho7.segs
          have HR6 := Lib.hid hr6
          have HR7 := Lib.hid hr7
          have HB7 := Lib.hid hbw7
          clear hr6 hr7 hbw7 ho7 hb7 hs6 hbw6 ho6 hb6 hs5 hown hbw5 ho5 hb5 hso hal hna hpl
          go_upto_region 11 with (at_builtin; refine wpList_append_run rfl _ _ _ rfl rfl rfl HR6.out ?_)
          clear HR6
          go_wp2_with (at_builtin; refine wpList_append_run rfl _ _ _ rfl rfl rfl HR7.out ?_)
          refine (clone_any A7 _ c7 w7.heap.size (insR p l) w7 HO7.out (Nat.le_refl _) HSM.out).mono ?_
          rintro e w8 ⟨A8, m8, c8, rfl, ho8, hb8⟩
          have HO8 : Hid (SOut w8 w.heap.size w.heap.size (.slice A8 m8 c8) m8 (insR p l)) := ho8.mono HB7.out.size HB7.out.size
          have HB8 := Lib.hid (below3 HB7.out hb8)
          clear ho8 hb8
          go_wp2
          go_ret
          exact ⟨A8, m8, c8, rfl, HO8.out, HB8.out⟩
end Go.Proofs.Ytojgohgeagbkbaa
namespace Go.Proofs.Ytojgohgeagbkbaa
open Go.RowKit

set_option linter.unusedVariables false
set_option linter.unusedSimpArgs false
/-- a list of segments under way: a row of the call's own; the numbers lie elsewhere, from block lo on -/
def TOut (w : World) (base lo : Nat) (v : Value) (m : Nat) (ts : Path) : Prop :=
  ∃ fs : List SV, w.ownsRow base 88 2 v m (fs.flatMap SV.vals) ∧ fs.length = m ∧ fs.map SV.key = ts ∧ ∀ t ∈ fs, Ints w w.heap.size .u8 t.A t.n t.c t.xs ∧ Free lo v t.A t.n
theorem TOut.nil (w : World) (base lo : Nat) : TOut w base lo (.slice none 0 0) 0 [] := ⟨[], World.ownsRow_nil _ _ _ _, rfl, rfl, fun t h => by cases h⟩
theorem TOut.below {w w' : World} {base lo m : Nat} {v : Value} {ts : Path} (h : TOut w base lo v m ts) (hb : Below w.heap.size w w') : TOut w' base lo v m ts := by
  obtain ⟨fs, h1, h2, h3, h4⟩ := h
  exact ⟨fs, row_below h1 hb, h2, h3, fun t ht => ⟨((h4 t ht).1.below hb).more hb.size, (h4 t ht).2⟩⟩
theorem TOut.mono {w : World} {base base' lo lo' m : Nat} {v : Value} {ts : Path} (h : TOut w base lo v m ts) (hb : base' ≤ base) (hl : lo' ≤ lo) : TOut w base' lo' v m ts := by
  obtain ⟨fs, h1, h2, h3, h4⟩ := h
  exact ⟨fs, own_mono h1 hb, h2, h3, fun t ht => ⟨(h4 t ht).1, fun hn ad ha => ⟨Nat.le_trans hl ((h4 t ht).2 hn ad ha).1, ((h4 t ht).2 hn ad ha).2⟩⟩⟩
theorem TOut.form {w : World} {base lo m : Nat} {v : Value} {ts : Path} (h : TOut w base lo v m ts) : ∃ A c, v = .slice A m c := by
  obtain ⟨fs, h1, _⟩ := h
  exact own_form h1
theorem TOut.len {w : World} {base lo m : Nat} {v : Value} {ts : Path} (h : TOut w base lo v m ts) : ts.length = m := by
  obtain ⟨fs, _, h2, h3, _⟩ := h
  rw [← h3, List.length_map, h2]
theorem TOut.block {w : World} {base lo m : Nat} {v : Value} {ts : Path} (h : TOut w base lo v m ts) : ∀ k, v.ownBlock = some k → base ≤ k ∧ k < w.heap.size := by
  obtain ⟨fs, h1, _⟩ := h
  exact fun k hk => World.ownsRow.lt h1 k hk
/-- append of segments that lie in memory -/
theorem TOut.append {w : World} {base lo l n c B : Nat} {v : Value} {ts us : Path} {A : Option Addr} (h : TOut w base lo v l ts) (hbase : base ≤ w.heap.size) (hl : l + n ≤ 2000000000000)
    (fs' : List SV) (hc : Recs w B 2 A n c SV.vals fs') (hk : fs'.map SV.key = us) (hi : ∀ t ∈ fs', Ints w w.heap.size .u8 t.A t.n t.c t.xs ∧ Free lo v t.A t.n) :
    ∃ A' c' w', (Builtin.append_ #[38, 38] 38 #[v, .slice A n c]).run Try.prog w = .ok (.slice A' (l + n) c') w' ∧ TOut w' base lo (.slice A' (l + n) c') (l + n) (ts ++ us) ∧ w.grownBy w' v.ownBlock ∧ ((Value.slice A' (l + n) c').ownBlock = v.ownBlock ∨ (Value.slice A' (l + n) c').ownBlock = some w.heap.size) := by
  obtain ⟨fs, h1, h2, h3, h4⟩ := h
  obtain ⟨v', w', k1, k2, k3, k4⟩ := Cells.append (P := Try.prog) (t := 38) (ty := 38) Try.underlying38 tlv_info rfl (by omega) h1 hc.1 (by
    intro u hu
    obtain ⟨t, _, ht⟩ := List.mem_flatMap.1 hu
    simp only [SV.vals, List.mem_cons, List.not_mem_nil, or_false] at ht
    rcases ht with rfl | rfl <;> rfl) (by simp only [maxLen]; omega) (by omega) hbase
  obtain ⟨A', c', rfl⟩ := own_form k2
  have keep : ∀ t : SV, Ints w w.heap.size .u8 t.A t.n t.c t.xs ∧ Free lo v t.A t.n → Ints w' w'.heap.size .u8 t.A t.n t.c t.xs ∧ Free lo (.slice A' (l + n) c') t.A t.n := by
    intro t ⟨hi1, hi2⟩
    refine ⟨(ints_grown hi1 (Nat.le_refl _) k3 fun hn ad ha => (hi2 hn ad ha).2).more k3.size, fun hn ad ha => ⟨(hi2 hn ad ha).1, ?_⟩⟩
    rcases k4 with h5 | h5
    · rw [h5]; exact (hi2 hn ad ha).2
    · rw [h5]
      intro h6
      obtain ⟨b, o, e, hb, _⟩ := hi1.2.2.2 (by omega)
      rw [e] at ha
      injection ha with ha
      subst ha
      injection h6 with h6
      dsimp only at h6
      omega
  refine ⟨A', c', w', k1, ⟨fs ++ fs', by rw [List.flatMap_append]; exact k2, by rw [List.length_append, h2, hc.2], by rw [List.map_append, h3, hk], fun t ht => ?_⟩, k3, k4⟩
  rcases List.mem_append.1 ht with ht | ht
  · exact keep t (h4 t ht)
  · exact keep t (hi t ht)
/-- append of one segment: what lies elsewhere is kept -/
theorem TOut.pushFar {w : World} {base lo l N : Nat} {v : Value} {ts : Path} (h : TOut w base lo v l ts) (kind : Int) {A : Option Addr} {n c : Nat} {xs : List Int} (hx : Ints w w.heap.size .u8 A n c xs) (hf : Free lo v A n) (hN : N = w.heap.size) (hbase : base ≤ w.heap.size) (hl : l ≤ 1000000000000) :
    ∃ A' c' w', (Builtin.append_ #[38, 38] 38 #[v, .slice (some ⟨N, 0, none⟩) 1 1]).run Try.prog (w.alloc (.cells #[.int .i64 kind, .slice A n c] 88)) = .ok (.slice A' (l + 1) c') w' ∧ TOut w' base lo (.slice A' (l + 1) c') (l + 1) (ts ++ [(kind, xs)]) ∧ Below base w w' ∧
      ∀ q : Addr, q.block < w.heap.size → v.ownBlock ≠ some q.block → w'.cell? q = w.cell? q := by
  subst hN
  have hrow := h.block
  obtain ⟨W, hW⟩ : ∃ W, w.alloc (.cells #[.int .i64 kind, .slice A n c] 88) = W := ⟨_, rfl⟩
  have hbel : Below w.heap.size w W := by rw [← hW]; exact belowA _ _
  have hlit : Cells W W.heap.size 2 (some ⟨w.heap.size, 0, none⟩) 1 1 [.int .i64 kind, .slice A n c] := by
    rw [← hW]
    exact Cells.of_own (World.ownsRow_lit (base := w.heap.size) (size := 2) w #[.int .i64 kind, .slice A n c] 1 (Nat.le_refl _) (by simp [maxLen]) rfl)
  obtain ⟨A', c', w', k1, k2, k3, k4⟩ := (h.below hbel).append (by have := hbel.size; omega) (by omega) [⟨kind, A, n, c, xs⟩] ⟨hlit, rfl⟩ (us := [(kind, xs)]) rfl (fun t ht => by
    obtain rfl : t = ⟨kind, A, n, c, xs⟩ := by simpa using ht
    exact ⟨(hx.below hbel).more hbel.size, hf⟩)
  rw [hW]
  exact ⟨A', c', w', k1, k2, (hbel.mono hbase).grown k3 (by have := hbel.size; omega) (fun k hk => (hrow k hk).1), fun q hq hne => (k3.cell_far q (Nat.lt_of_lt_of_le hq hbel.size) (fun e => hne e.symm)).trans (hbel.cell hq)⟩
/-- the box of the segment -/
def TBox (w : World) (k : Int) (v : Value) (W : World) : Prop :=
  W.cell? ⟨w.heap.size, 0, none⟩ = some (.int .i64 k) ∧ W.cell? ⟨w.heap.size, 1, none⟩ = some v ∧ Hid (Below w.heap.size w W) ∧ Hid (Below (w.heap.size + 1) (w.alloc (.cells #[.int .i64 k, v] 88)) W)
theorem TBox.new (w : World) (k : Int) (v : Value) : TBox w k v (w.alloc (.cells #[.int .i64 k, v] 88)) := ⟨by go_simp, by go_simp, belowA _ _, Below.refl _ _⟩
theorem TBox.step {w W W' : World} {k : Int} {v : Value} (h : TBox w k v W) (hb : Below W.heap.size W W') : TBox w k v W' := by
  have hz : w.heap.size + 1 ≤ W.heap.size := by have := h.2.2.2.out.size; simpa using this
  exact ⟨(hb.cell (p := ⟨w.heap.size, 0, none⟩) hz).trans h.1, (hb.cell (p := ⟨w.heap.size, 1, none⟩) hz).trans h.2.1, below3 h.2.2.1.out hb, h.2.2.2.out.trans (hb.mono hz)⟩
/-- the empty literal -/
theorem own_litB (W : World) : Own (W.alloc (.cells #[] 5)) W.heap.size 5 .u8 (.slice (some ⟨W.heap.size, 0, none⟩) 0 0) 0 [] :=
  World.ownsRow_lit (base := W.heap.size) (size := 1) W #[] 0 (Nat.le_refl _) (by simp [maxLen]) rfl
/-- append of numbers that lie in memory -/
theorem push_bytes {w : World} {base B l n c : Nat} {A : Option Addr} {ev : Value} {xs ys : List Int} (he : Own w base 5 .u8 ev l xs) (hy : Ints w B .u8 A n c ys) (hbase : base ≤ w.heap.size) (hl : l + n ≤ 17592186044416) :
    ∃ A' c' w', (Builtin.append_ #[86, 86] 86 #[ev, .slice A n c]).run Try.prog w = .ok (.slice A' (l + n) c') w' ∧ Own w' base 5 .u8 (.slice A' (l + n) c') (l + n) (xs ++ ys) ∧ Below base w w' := by
  obtain ⟨v', w', k1, k2, k3, _⟩ := Ints.append (P := Try.prog) (t := 86) (ty := 86) (e := 5) Try.underlying86 byte_info rfl he hy (by simp only [maxLen]; omega) (by omega) hbase
  obtain ⟨A', c', rfl⟩ := own_form k2
  exact ⟨A', c', w', k1, k2, (Below.refl base w).grown k3 hbase (fun k hk => (World.ownsRow.lt he k hk).1)⟩
/-- append([]int{}, l...) -/
theorem copy_bytesB {W : World} {B N n c : Nat} {A : Option Addr} {ys : List Int} (hy : Ints W B .u8 A n c ys) (hB : B ≤ W.heap.size) (hN : N = W.heap.size) (hl : n ≤ 17592186044416) :
    ∃ A' c' w', (Builtin.append_ #[86, 86] 86 #[.slice (some ⟨N, 0, none⟩) 0 0, .slice A n c]).run Try.prog (W.alloc (.cells #[] 5)) = .ok (.slice A' n c') w' ∧ Own w' W.heap.size 5 .u8 (.slice A' n c') n ys ∧ Below W.heap.size W w' := by
  subst hN
  have hba := belowA W (.cells #[] 5)
  obtain ⟨A', c', w', h1, h2, h3⟩ := push_bytes (own_litB W) (hy.below (hba.mono hB)) hba.size (by omega)
  rw [Nat.zero_add] at h1 h2
  exact ⟨A', c', w', h1, h2, hba.trans h3⟩
/-- new numbers lie elsewhere than an older row -/
theorem free_newB {W w' : World} {base lo lo' m n c : Nat} {v : Value} {ts : Path} {A : Option Addr} {ys : List Int} {e : TypeId} {k : IntKind} (h : TOut W base lo v m ts) (ho : Own w' W.heap.size e k (.slice A n c) n ys) (hl : lo' ≤ W.heap.size) : Free lo' v A n := by
  intro hn ad ha
  have h1 := World.ownsRow.lt ho ad.block (by rw [ha]; rfl)
  refine ⟨by omega, fun h2 => ?_⟩
  have := (h.block _ h2).2
  omega
theorem TOut.tlvs {w : World} {base lo m c : Nat} {A : Option Addr} {ts : Path} (h : TOut w base lo (.slice A m c) m ts) : Tlvs w w.heap.size A m c ts := by
  obtain ⟨fs, h1, h2, h3, h4⟩ := h
  exact ⟨fs, ⟨Cells.of_own h1, h2⟩, h3, fun t ht => (h4 t ht).1⟩
/-- what lies in allowed blocks -/
def PAw (Pd : Nat → Prop) (A : Option Addr) (n : Nat) : Prop := 0 < n → ∀ ad, A = some ad → Pd ad.block
def PRecs (k : IntKind) (w : World) (B : Nat) (Pd : Nat → Prop) (A : Option Addr) (n c : Nat) (ts : Path) : Prop :=
  ∃ fs : List SV, Recs w B 2 A n c SV.vals fs ∧ fs.map SV.key = ts ∧ PAw Pd A n ∧ ∀ t ∈ fs, Ints w B k t.A t.n t.c t.xs ∧ PAw Pd t.A t.n
def PInts (w : World) (B : Nat) (Pd : Nat → Prop) (A : Option Addr) (n c : Nat) (xs : List Int) : Prop := Ints w B .u32 A n c xs ∧ PAw Pd A n
/-- the allowed blocks below B are kept -/
def Keep (B : Nat) (Pd : Nat → Prop) (w V : World) : Prop := ∀ k, k < B → Pd k → V.heap[k]? = w.heap[k]?
theorem Keep.of_below {B : Nat} {Pd : Nat → Prop} {a b : World} (h : Below B a b) : Keep B Pd a b := fun k hk _ => h.block k hk
theorem Keep.of_save {B g : Nat} {Pd : Nat → Prop} {a b : World} (h : Save g a b) (hg : ¬ Pd g) (hB : B ≤ a.heap.size) : Keep B Pd a b := fun k hk hp => h.block k (by omega) (fun e => hg (e ▸ hp))
section
variable {k : IntKind} {w V : World} {B B' n c : Nat} {Pd Pe : Nat → Prop} {A : Option Addr} {ts : Path} {xs : List Int}
theorem cells_keepP {size : Nat} {vs : List Value} (h : Cells w B size A n c vs) (hv : Keep B Pd w V) (ha : PAw Pd A n) : Cells V B size A n c vs := by
  refine ⟨h.1, h.2.1, h.2.2.1, fun hn => ?_⟩
  obtain ⟨b, o, e, hb, hc⟩ := h.2.2.2 hn
  refine ⟨b, o, e, hb, fun j hj => ?_⟩
  rw [← hc j hj]
  simp only [World.cell?, hv b hb (ha hn _ e)]
theorem cells_imp {size : Nat} {vs : List Value} (h : Cells w B size A n c vs) (ha : PAw Pd A n) (hi : ∀ b, b < B → Pd b → Pe b) : PAw Pe A n := by
  intro hn ad e
  obtain ⟨b, o, e2, hb, _⟩ := h.2.2.2 hn
  have h1 := ha hn ad e
  rw [e] at e2
  obtain rfl := Option.some.inj e2
  exact hi _ hb h1
theorem PRecs.keep (h : PRecs k w B Pd A n c ts) (hv : Keep B Pd w V) : PRecs k V B Pd A n c ts := by
  obtain ⟨fs, h1, h2, h3, h4⟩ := h
  exact ⟨fs, ⟨cells_keepP h1.1 hv h3, h1.2⟩, h2, h3, fun t ht => ⟨cells_keepP (h4 t ht).1 hv (h4 t ht).2, (h4 t ht).2⟩⟩
theorem PRecs.more (h : PRecs k w B Pd A n c ts) (hB : B ≤ B') : PRecs k w B' Pd A n c ts := by
  obtain ⟨fs, h1, h2, h3, h4⟩ := h
  exact ⟨fs, h1.more hB, h2, h3, fun t ht => ⟨(h4 t ht).1.more hB, (h4 t ht).2⟩⟩
theorem PRecs.imp (h : PRecs k w B Pd A n c ts) (hi : ∀ b, b < B → Pd b → Pe b) : PRecs k w B Pe A n c ts := by
  obtain ⟨fs, h1, h2, h3, h4⟩ := h
  exact ⟨fs, h1, h2, cells_imp h1.1 h3 hi, fun t ht => ⟨(h4 t ht).1, cells_imp (h4 t ht).1 (h4 t ht).2 hi⟩⟩
theorem PRecs.recs (h : PRecs k w B Pd A n c ts) : ∃ fs : List SV, Recs w B 2 A n c SV.vals fs ∧ fs.map SV.key = ts ∧ ∀ t ∈ fs, Ints w B k t.A t.n t.c t.xs := by
  obtain ⟨fs, h1, h2, _, h4⟩ := h
  exact ⟨fs, h1, h2, fun t ht => (h4 t ht).1⟩
end
structure PLists (w : World) (B : Nat) (Pd : Nat → Prop) (pA cA kA uA : Option Addr) (pn pc cn cc kn kc un uc : Nat) (p : Path) (cm cl : List Int) (us : Path) : Prop where
  path : PRecs .i64 w B Pd pA pn pc p
  comm : PInts w B Pd cA cn cc cm
  clus : PInts w B Pd kA kn kc cl
  unk : PRecs .u8 w B Pd uA un uc us
  small : pn ≤ 1000000000 ∧ cn ≤ 1000000000 ∧ kn ≤ 1000000000 ∧ un ≤ 1000000000
section
variable {w V : World} {B B' : Nat} {Pd Pe : Nat → Prop} {pA cA kA uA : Option Addr} {pn pc cn cc kn kc un uc : Nat} {p us : Path} {cm cl : List Int}
theorem PLists.lists (h : PLists w B Pd pA cA kA uA pn pc cn cc kn kc un uc p cm cl us) : Lists w B pA cA kA uA pn pc cn cc kn kc un uc p cm cl us := ⟨h.path.recs, h.comm.1, h.clus.1, h.unk.recs, h.small⟩
theorem PLists.keep (h : PLists w B Pd pA cA kA uA pn pc cn cc kn kc un uc p cm cl us) (hv : Keep B Pd w V) : PLists V B Pd pA cA kA uA pn pc cn cc kn kc un uc p cm cl us := ⟨h.path.keep hv, ⟨cells_keepP h.comm.1 hv h.comm.2, h.comm.2⟩, ⟨cells_keepP h.clus.1 hv h.clus.2, h.clus.2⟩, h.unk.keep hv, h.small⟩
theorem PLists.more (h : PLists w B Pd pA cA kA uA pn pc cn cc kn kc un uc p cm cl us) (hB : B ≤ B') : PLists w B' Pd pA cA kA uA pn pc cn cc kn kc un uc p cm cl us := ⟨h.path.more hB, ⟨h.comm.1.more hB, h.comm.2⟩, ⟨h.clus.1.more hB, h.clus.2⟩, h.unk.more hB, h.small⟩
theorem PLists.imp (h : PLists w B Pd pA cA kA uA pn pc cn cc kn kc un uc p cm cl us) (hi : ∀ b, b < B → Pd b → Pe b) : PLists w B Pe pA cA kA uA pn pc cn cc kn kc un uc p cm cl us := ⟨h.path.imp hi, ⟨h.comm.1, cells_imp h.comm.1 h.comm.2 hi⟩, ⟨h.clus.1, cells_imp h.clus.1 h.clus.2 hi⟩, h.unk.imp hi, h.small⟩
end
theorem TOut.precs {w : World} {base lo m c : Nat} {A : Option Addr} {ts : Path} {Pd : Nat → Prop} (h : TOut w base lo (.slice A m c) m ts) (h1 : ∀ b, base ≤ b → Pd b) (h2 : ∀ b, lo ≤ b → Pd b) : PRecs .u8 w w.heap.size Pd A m c ts := by
  obtain ⟨fs, k1, k2, k3, k4⟩ := h
  exact ⟨fs, ⟨Cells.of_own k1, k2⟩, k3, fun hn ad e => h1 _ (World.ownsRow.lt k1 ad.block (by rw [e]; rfl)).1, fun t ht => ⟨(k4 t ht).1, fun hn ad e => h2 _ ((k4 t ht).2 hn ad e).1⟩⟩
theorem SOut.precs {w : World} {base lo m c : Nat} {A : Option Addr} {ts : Path} {Pd : Nat → Prop} (h : SOut w base lo (.slice A m c) m ts) (h1 : ∀ b, base ≤ b → Pd b) (h2 : ∀ b, lo ≤ b → Pd b) : PRecs .i64 w w.heap.size Pd A m c ts := by
  obtain ⟨fs, k1, k2, k3, k4⟩ := h
  exact ⟨fs, ⟨Cells.of_own k1, k2⟩, k3, fun hn ad e => h1 _ (World.ownsRow.lt k1 ad.block (by rw [e]; rfl)).1, fun t ht => ⟨(k4 t ht).1, fun hn ad e => h2 _ ((k4 t ht).2 hn ad e).1⟩⟩
theorem Own.pints {w : World} {base m c : Nat} {T : TypeId} {A : Option Addr} {xs : List Int} {Pd : Nat → Prop} (h : Own w base T .u32 (.slice A m c) m xs) (h1 : ∀ b, base ≤ b → Pd b) : PInts w w.heap.size Pd A m c xs :=
  ⟨h.ints, fun hn ad e => h1 _ (World.ownsRow.lt h ad.block (by rw [e]; rfl)).1⟩
theorem TOut.save {w w' : World} {base lo m g : Nat} {v : Value} {ts : Path} (h : TOut w base lo v m ts) (hs : Save g w w') (h1 : g < base) (h2 : g < lo) : TOut w' base lo v m ts := by
  obtain ⟨fs, k1, k2, k3, k4⟩ := h
  exact ⟨fs, row_save k1 hs (fun e => by have := (World.ownsRow.lt k1 g e).1; omega), k2, k3, fun t ht => ⟨(ints_save (k4 t ht).1 hs (Nat.le_refl _) fun hn ad e => by have := ((k4 t ht).2 hn ad e).1; omega).more hs.size, (k4 t ht).2⟩⟩
theorem SOut.save {w w' : World} {base lo m g : Nat} {v : Value} {ts : Path} (h : SOut w base lo v m ts) (hs : Save g w w') (h1 : g < base) (h2 : g < lo) : SOut w' base lo v m ts := by
  obtain ⟨fs, k1, k2, k3, k4⟩ := h
  exact ⟨fs, row_save k1 hs (fun e => by have := (World.ownsRow.lt k1 g e).1; omega), k2, k3, fun t ht => ⟨(ints_save (k4 t ht).1 hs (Nat.le_refl _) fun hn ad e => by have := ((k4 t ht).2 hn ad e).1; omega).more hs.size, (k4 t ht).2⟩⟩
theorem Own.save {w w' : World} {base n g : Nat} {T : TypeId} {k : IntKind} {v : Value} {xs : List Int} (h : Own w base T k v n xs) (hs : Save g w w') (h1 : g < base) : Own w' base T k v n xs :=
  row_save h hs (fun e => by have := (World.ownsRow.lt h g e).1; omega)
/-- append([]uint32{}, l...) -/
theorem copy_u32 {W : World} {B N n c : Nat} {A : Option Addr} {ys : List Int} (hy : Ints W B .u32 A n c ys) (hB : B ≤ W.heap.size) (hN : N = W.heap.size) (hl : n ≤ 1000000000) :
    ∃ A' c' w', (Builtin.append_ #[37, 37] 37 #[.slice (some ⟨N, 0, none⟩) 0 0, .slice A n c]).run Try.prog (W.alloc (.cells #[] 22)) = .ok (.slice A' n c') w' ∧ Own w' W.heap.size 22 .u32 (.slice A' n c') n ys ∧ Below W.heap.size W w' := by
  subst hN
  have hba := belowA W (.cells #[] 22)
  have hown : Own (W.alloc (.cells #[] 22)) W.heap.size 22 .u32 (.slice (some ⟨W.heap.size, 0, none⟩) 0 0) 0 [] := World.ownsRow_lit (base := W.heap.size) (size := 1) W #[] 0 (Nat.le_refl _) (by simp [maxLen]) rfl
  obtain ⟨v', w', k1, k2, k3, _⟩ := Ints.append (P := Try.prog) (t := 37) (ty := 37) Try.underlying37 u32_info rfl hown (hy.below (hba.mono hB)) (by simp only [maxLen]; omega) (by omega) hba.size
  obtain ⟨A', c', rfl⟩ := own_form k2
  rw [Nat.zero_add] at k1 k2
  exact ⟨A', c', w', k1, k2, hba.grown k3 hba.size (fun k hk => (World.ownsRow.lt hown k hk).1)⟩
/-- the loop over the unknown attributes -/
def ClI (w : World) (p : Path) (n : Nat) (ov iv : Value) (W : World) : Prop := ∃ k : Nat, k ≤ n ∧ iv = .int .i64 k ∧ Hid (TOut W w.heap.size w.heap.size ov k (p.take k)) ∧ Hid (Below w.heap.size w W)
set_option maxRecDepth 100000 in
set_option maxHeartbeats 8000000 in
theorem clone36_any (og hop med pref aas aad ori : Int) (hm hp atm ha ho : Bool) (pA cA kA uA : Option Addr) (pn pc cn cc kn kc un uc : Nat) (p us : Path) (cm cl : List Int) (w : World) (hL : Lists w w.heap.size pA cA kA uA pn pc cn cc kn kc un uc p cm cl us) (hs : Sm p) (hu : (flat us).length ≤ 1000000) :
    Calls Try.prog 48 #[.agg #[.int .i64 og, .slice pA pn pc, .int .u32 hop, .bool hm, .int .i64 med, .bool hp, .int .i64 pref, .bool atm, .bool ha, .int .i64 aas, .int .u32 aad, .slice cA cn cc, .bool ho, .int .u32 ori, .slice kA kn kc, .slice uA un uc]] w fun e w' => ∃ (pA' cA' kA' uA' : Option Addr) (pc' cc' kc' uc' : Nat), e = .returned (.agg #[.int .i64 og, .slice pA' pn pc', .int .u32 hop, .bool hm, .int .i64 med, .bool hp, .int .i64 pref, .bool atm, .bool ha, .int .i64 aas, .int .u32 aad, .slice cA' cn cc', .bool ho, .int .u32 ori, .slice kA' kn kc', .slice uA' un uc']) ∧
      PLists w' w'.heap.size (fun b => w.heap.size ≤ b) pA' cA' kA' uA' pn pc' cn cc' kn kc' un uc' p cm cl us ∧ Below w.heap.size w w' := by
  have HL := Lib.hid hL
  obtain ⟨hsm1, hsm2, hsm3, hsm4⟩ := hL.small
  obtain ⟨w1, hw1⟩ : ∃ w1, (w.alloc (.cells #[.int .i64 og, .slice pA pn pc, .int .u32 hop, .bool hm, .int .i64 med, .bool hp, .int .i64 pref, .bool atm, .bool ha, .int .i64 aas, .int .u32 aad, .slice cA cn cc, .bool ho, .int .u32 ori, .slice kA kn kc, .slice uA un uc] 40)).alloc (.cells #[.int .i64 0, .slice none 0 0, .int .u32 0, .bool false, .int .i64 0, .bool false, .int .i64 0, .bool false, .bool false, .int .i64 0, .int .u32 0, .slice none 0 0, .bool false, .int .u32 0, .slice none 0 0, .slice none 0 0] 40) = w1 := ⟨_, rfl⟩
  have hbA : Blk w1 w.heap.size 40 [.int .i64 og, .slice pA pn pc, .int .u32 hop, .bool hm, .int .i64 med, .bool hp, .int .i64 pref, .bool atm, .bool ha, .int .i64 aas, .int .u32 aad, .slice cA cn cc, .bool ho, .int .u32 ori, .slice kA kn kc, .slice uA un uc] := by rw [← hw1]; exact (Blk.new w _ _).keep (belowA _ _)
  have hbR : Blk w1 (w.heap.size + 1) 40 [.int .i64 0, .slice none 0 0, .int .u32 0, .bool false, .int .i64 0, .bool false, .int .i64 0, .bool false, .bool false, .int .i64 0, .int .u32 0, .slice none 0 0, .bool false, .int .u32 0, .slice none 0 0, .slice none 0 0] := by rw [← hw1]; exact Blk.new2 w _ _ _
  have hb1 : Below w.heap.size w w1 := by rw [← hw1]; exact below3 (belowA _ _) (belowA _ _)
  have hz1 : w.heap.size + 2 ≤ w1.heap.size := by rw [← hw1]; simp
  have HB1 := Lib.hid hb1
  have HKA := Lib.hid hbA
  have HKR := Lib.hid hbR
  have hlt : w.heap.size < w1.heap.size := by omega
  have a1 := hbA.cell 1
  simp only [List.getElem?_cons_zero, List.getElem?_cons_succ] at a1
  have HC := Lib.hid (clone_any pA pn pc w1.heap.size p w1 (HL.out.grow hb1 (Nat.le_refl _)).path (Nat.le_refl _) hs)
  have HPN : Hid (p.length = pn) := hL.path.len
  clear hL hs hbA hbR hb1
  go_enter Try.func48, Try.ntmps48
  go_wp2_with fail
  refine HC.out.mono ?_
  rintro e w2 ⟨P2, m2, p2, rfl, hso2, hb2⟩
  obtain rfl : m2 = pn := by rw [← hso2.len, HPN.out]
  clear HC hw1 a1
  have hka2 := HKA.out.keep hb2
  have hlt2 : w.heap.size < w2.heap.size := hka2.lt
  have f1 := hka2.frozen 1
  have a1 := hka2.cell 1
  simp only [List.getElem?_cons_zero, List.getElem?_cons_succ] at a1
  obtain ⟨w3, hw3⟩ : ∃ w3, w2.setCell ⟨w.heap.size, 1, none⟩ (.slice P2 m2 p2) = w3 := ⟨_, rfl⟩
  have hs3 : Save w.heap.size w2 w3 := by rw [← hw3]; exact Save.set
  have hka3 : Blk w3 w.heap.size 40 [.int .i64 og, .slice P2 m2 p2, .int .u32 hop, .bool hm, .int .i64 med, .bool hp, .int .i64 pref, .bool atm, .bool ha, .int .i64 aas, .int .u32 aad, .slice cA cn cc, .bool ho, .int .u32 ori, .slice kA kn kc, .slice uA un uc] := by rw [← hw3]; exact hka2.set 1 _
  have hkr3 := (HKR.out.keep hb2).save hs3 (by omega)
  have hso3 := hso2.save hs3 (by omega) (by omega)
  have hbw3 : Below w.heap.size w w3 := (HB1.out.trans (hb2.mono HB1.out.size)).trans (hs3.below (Nat.le_refl _) (Nat.le_of_lt hlt2))
  obtain ⟨C4, c4, w4, hr4, ho4, hb4⟩ := copy_u32 (W := w3) ((HL.out.below hbw3).comm) hbw3.size rfl (by omega)
  have HR4 := Lib.hid hr4
  have hka4 := hka3.keep hb4
  have a11 := hka3.cell 11
  have f11 := hka4.frozen 11
  have b11 := hka4.cell 11
  simp only [List.getElem?_cons_zero, List.getElem?_cons_succ] at a11 b11
  have hlt3 : w.heap.size < w3.heap.size := hka3.lt
  have hlt4 : w.heap.size < w4.heap.size := hka4.lt
  have hzz3 : w.heap.size + 2 ≤ w3.heap.size := hkr3.lt
  obtain ⟨w5, hw5⟩ : ∃ w5, w4.setCell ⟨w.heap.size, 11, none⟩ (.slice C4 cn c4) = w5 := ⟨_, rfl⟩
  have hs5 : Save w.heap.size w4 w5 := by rw [← hw5]; exact Save.set
  have hka5 : Blk w5 w.heap.size 40 [.int .i64 og, .slice P2 m2 p2, .int .u32 hop, .bool hm, .int .i64 med, .bool hp, .int .i64 pref, .bool atm, .bool ha, .int .i64 aas, .int .u32 aad, .slice C4 cn c4, .bool ho, .int .u32 ori, .slice kA kn kc, .slice uA un uc] := by rw [← hw5]; exact hka4.set 11 _
  have hkr5 := (hkr3.keep hb4).save hs5 (by omega)
  have hso5 := (hso3.below hb4).save hs5 (by omega) (by omega)
  have hcm5 := ho4.save hs5 (by omega)
  have hbw5 : Below w.heap.size w w5 := (hbw3.trans (hb4.mono hbw3.size)).trans (hs5.below (Nat.le_refl _) (Nat.le_of_lt hlt4))
  obtain ⟨K6, k6, w6, hr6, ho6, hb6⟩ := copy_u32 (W := w5) ((HL.out.below hbw5).clus) hbw5.size rfl (by omega)
  have HR6 := Lib.hid hr6
  have hka6 := hka5.keep hb6
  have a14 := hka5.cell 14
  have f14 := hka6.frozen 14
  have b14 := hka6.cell 14
  simp only [List.getElem?_cons_zero, List.getElem?_cons_succ] at a14 b14
  have hlt5 : w.heap.size < w5.heap.size := hka5.lt
  have hlt6 : w.heap.size < w6.heap.size := hka6.lt
  have hzz5 : w.heap.size + 2 ≤ w5.heap.size := hkr5.lt
  obtain ⟨w7, hw7⟩ : ∃ w7, w6.setCell ⟨w.heap.size, 14, none⟩ (.slice K6 kn k6) = w7 := ⟨_, rfl⟩
  have hs7 : Save w.heap.size w6 w7 := by rw [← hw7]; exact Save.set
  have hka7 : Blk w7 w.heap.size 40 [.int .i64 og, .slice P2 m2 p2, .int .u32 hop, .bool hm, .int .i64 med, .bool hp, .int .i64 pref, .bool atm, .bool ha, .int .i64 aas, .int .u32 aad, .slice C4 cn c4, .bool ho, .int .u32 ori, .slice K6 kn k6, .slice uA un uc] := by rw [← hw7]; exact hka6.set 14 _
  have HKA7 := Lib.hid hka7
  have HKR7 := Lib.hid ((hkr5.keep hb6).save hs7 (by omega))
  have HSO7 := Lib.hid ((hso5.below hb6).save hs7 (by omega) (by omega))
  have HCM7 := Lib.hid (Own.save (k := .u32) (xs := cm) (row_below hcm5 hb6) hs7 (by omega))
  have HCL7 := Lib.hid (ho6.save hs7 (by omega))
  have HB7 : Hid (Below w.heap.size w w7) := (hbw5.trans (hb6.mono hbw5.size)).trans (hs7.below (Nat.le_refl _) (Nat.le_of_lt hlt6))
  have a15 := hka7.cell 15
  simp only [List.getElem?_cons_zero, List.getElem?_cons_succ] at a15
  have hlt7 : w.heap.size < w7.heap.size := hka7.lt
  clear hso2 hb2 hka2 hs3 hka3 hkr3 hso3 hbw3 hr4 ho4 hb4 hka4 hs5 hka5 hkr5 hso5 hcm5 hbw5 hr6 ho6 hb6 hka6 hs7 hka7 HKA HKR HB1
  go_upto_region 3 with (at_builtin; refine wpList_append_run rfl _ _ _ rfl rfl rfl HR4.out ?_)
  clear HR4
  go_wp2_with (at_builtin; refine wpList_append_run rfl _ _ _ rfl rfl rfl HR6.out ?_)
  clear hw3 hw5 hw7 a1 f1 a11 f11 b11 a14 f14 b14 hlt hlt2 hlt3 hlt4 hlt5 hlt6 HR6 a15 hlt7
  have HX : Hid (Tlvs w7 w.heap.size uA un uc us) := HL.out.unk.below HB7.out
  have hB : w.heap.size ≤ w7.heap.size := HB7.out.size
  have HUN : Hid (us.length = un) := HL.out.unk.len
  go_loopw [3, 23] (fun ov iv wr => ClI w7 us un ov iv wr) (fun _ iv _ => un - (intOf iv).toNat)
  case atStart => exact ⟨0, Nat.zero_le _, rfl, TOut.nil _ _ _, Below.refl _ _⟩
  case round =>
    obtain ⟨k, hk, rfl, hou, hbw⟩ := hrel
    obtain ⟨Ao, co, rfl⟩ := hou.out.form
    by_cases hlt : k < un
    case neg =>
      obtain rfl : k = un := by omega
      have e : us.take k = us := List.take_of_length_le (Nat.le_of_eq HUN.out)
      rw [e] at hou
      clear e
      have hkw := HKA7.out.keep hbw.out
      have f15 := hkw.frozen 15
      have hltw : w.heap.size < wr.heap.size := hkw.lt
      obtain ⟨w8, hw8⟩ : ∃ w8, wr.setCell ⟨w.heap.size, 15, none⟩ (.slice Ao k co) = w8 := ⟨_, rfl⟩
      have hs8 : Save w.heap.size wr w8 := by rw [← hw8]; exact Save.set
      have HKA8 : Hid (Blk w8 w.heap.size 40 [.int .i64 og, .slice P2 m2 p2, .int .u32 hop, .bool hm, .int .i64 med, .bool hp, .int .i64 pref, .bool atm, .bool ha, .int .i64 aas, .int .u32 aad, .slice C4 cn c4, .bool ho, .int .u32 ori, .slice K6 kn k6, .slice Ao k co]) := by show Blk _ _ _ _; rw [← hw8]; exact hkw.set 15 _
      have HKR8 := Lib.hid ((HKR7.out.keep hbw.out).save hs8 (by omega))
      have c15 := hkw.cell 15
      simp only [List.getElem?_cons_zero, List.getElem?_cons_succ] at c15
      have hz7 : w.heap.size + 1 < w7.heap.size := HKR7.out.lt
      obtain ⟨w9, hw9⟩ : ∃ w9, w8.setRow (w.heap.size + 1) #[.int .i64 og, .slice P2 m2 p2, .int .u32 hop, .bool hm, .int .i64 med, .bool hp, .int .i64 pref, .bool atm, .bool ha, .int .i64 aas, .int .u32 aad, .slice C4 cn c4, .bool ho, .int .u32 ori, .slice K6 kn k6, .slice Ao k co] = w9 := ⟨_, rfl⟩
      have hs9 : Save (w.heap.size + 1) w8 w9 := by rw [← hw9]; exact Save.row _ _ _
      have HKZ : Hid (Blk w9 (w.heap.size + 1) 40 [.int .i64 og, .slice P2 m2 p2, .int .u32 hop, .bool hm, .int .i64 med, .bool hp, .int .i64 pref, .bool atm, .bool ha, .int .i64 aas, .int .u32 aad, .slice C4 cn c4, .bool ho, .int .u32 ori, .slice K6 kn k6, .slice Ao k co]) := by show Blk _ _ _ _; rw [← hw9]; exact HKR8.out.row _
      have HBZ : Hid (Below w.heap.size w w9) := ((HB7.out.trans (hbw.out.mono hB)).trans (hs8.below (Nat.le_refl _) (Nat.le_of_lt hltw))).trans (hs9.below (by omega) (by have := HKR8.out.lt; omega))
      have HLZ : Hid (PLists w9 w9.heap.size (fun b => w.heap.size ≤ b) P2 C4 K6 Ao m2 p2 cn c4 kn k6 k co p cm cl us) := by
        refine ⟨?_, ?_, ?_, ?_, by omega, by omega, by omega, by omega⟩
        · exact (((HSO7.out.below hbw.out).save hs8 (by omega) (by omega)).save hs9 (by omega) (by omega)).precs (fun b h => by omega) (fun b h => by omega)
        · exact (((Own.save (k := .u32) (xs := cm) (row_below HCM7.out hbw.out) hs8 (by omega)).save hs9 (by omega))).pints (fun b h => by omega)
        · exact (((Own.save (k := .u32) (xs := cl) (row_below HCL7.out hbw.out) hs8 (by omega)).save hs9 (by omega))).pints (fun b h => by omega)
        · exact ((hou.out.save hs8 (by omega) (by omega)).save hs9 (by omega) (by omega)).precs (fun b h => by omega) (fun b h => by omega)
      clear hs8 hs9 hkw hbw HKA7 HKR7 HSO7 HCM7 HCL7 HB7 hou
      go_wp2_with (first | (rw [hw8]; refine wpList_load_blk rfl 40 _ rfl w.heap.size rfl HKA8.out _ Try.underlying40 rfl (by kernel_rfl) ?_) | (refine wpList_load_blk rfl 40 _ rfl w.heap.size rfl HKA8.out _ Try.underlying40 rfl (by kernel_rfl) ?_) | (refine wpList_store_blk rfl 40 _ _ rfl (w.heap.size + 1) rfl rfl HKR8.out (by kernel_rfl) rfl (by kernel_rfl) ?_))
      try rw [hw9]
      refine bodyPost_ret (results_cell_row rfl _ _ (w.heap.size + 1) _ _ (0, 0) _ rfl HKZ.out Try.underlying40 rfl (by kernel_rfl)) rfl ⟨P2, C4, K6, Ao, p2, c4, k6, co, rfl, HLZ.out, HBZ.out⟩
    obtain ⟨b, o, f, rfl, hbB, hf, g0, g1, hi⟩ := (HX.out.below (hbw.out.mono hB)).get hlt
    obtain ⟨y, fA, fn, fc, xs⟩ := f
    dsimp only at g0 g1 hi
    have hwr := hbw.out.size
    have hfs : fn ≤ 1000000 := by have := seg_le hf.out; have h1 := hu; have h2 : (SV.key ⟨y, fA, fn, fc, xs⟩).2.length = fn := hi.out.len; omega
    have HPK : Hid (us.take (k + 1) = us.take k ++ [(y, xs)]) := by
      show _ = _
      rw [List.take_add_one, hf.out]
      rfl
    have HB1 : Hid (TBox wr y (.slice fA fn fc) (wr.alloc (.cells #[.int .i64 y, .slice fA fn fc] 88))) := TBox.new _ _ _
    obtain ⟨W, hW⟩ : ∃ W, wr.alloc (.cells #[.int .i64 y, .slice fA fn fc] 88) = W := ⟨_, rfl⟩
    have HWE := Lib.hid hW
    go_upto_region 8 with fail
    rw [hW] at HB1
    clear hW
    have HS : Hid (∀ V, Below W.heap.size W V → V.cell? ⟨wr.heap.size, 0, none⟩ = some (.int .i64 y) ∧ V.cell? ⟨wr.heap.size, 1, none⟩ = some (.slice fA fn fc)) := fun V h => ⟨(HB1.out.step h).1, (HB1.out.step h).2.1⟩
    have hWz : wr.heap.size ≤ W.heap.size := HB1.out.2.2.1.out.size
    have hdr : Below W.heap.size W W.drew := (Below.refl _ _).drew
    have hc3 : Below W.heap.size W (W.drew.alloc (.cells #[] 5)) := hdr.alloc (Nat.le_refl _) _
    obtain ⟨A4, c4, w4, hr4, ho4, hb4⟩ := copy_bytesB (W := W.drew) ((hi.out.below (HB1.out.2.2.1.out.mono (Nat.le_trans hB hwr))).below (hdr.mono (Nat.le_trans hB (Nat.le_trans hwr hWz)))) (Nat.le_trans hB (Nat.le_trans hwr hWz)) rfl (by omega)
    have hb4' : Below W.heap.size W w4 := hdr.trans hb4
    have hs4 := hou.out.below (HB1.out.2.2.1.out.trans (hb4'.mono hWz))
    have hf4 := free_newB (lo' := w7.heap.size) (hou.out.below (HB1.out.2.2.1.out.trans (hdr.mono hWz))) ho4 (Nat.le_trans hwr hWz)
    obtain ⟨A5, c5, w5, hr5, ho5, hb5, hfar⟩ := hs4.pushFar y ho4.ints hf4 rfl (Nat.le_trans (Nat.le_trans hwr hWz) hb4.size) (by omega)
    have HC0 := Lib.hid hdr
    have HC3 := Lib.hid hc3
    have HC4 := Lib.hid hb4'
    have HC5 : Hid (Below W.heap.size W (w4.alloc (.cells #[.int .i64 y, .slice A4 fn c4] 88))) := hb4'.alloc hb4'.size _
    have HR4 := Lib.hid hr4
    have HR5 := Lib.hid hr5
    have HO5 := Lib.hid ho5
    have HS5 : Hid (w5.cell? ⟨wr.heap.size, 0, none⟩ = some (.int .i64 y) ∧ w5.cell? ⟨wr.heap.size, 1, none⟩ = some (.slice fA fn fc)) := by
      have hlt4 : wr.heap.size < w4.heap.size := Nat.lt_of_lt_of_le (by rw [← HWE.out]; simp) hb4'.size
      have hne : (Value.slice Ao k co).ownBlock ≠ some wr.heap.size := fun h => by
        have := (hou.out.block _ h).2
        omega
      exact ⟨(hfar ⟨wr.heap.size, 0, none⟩ hlt4 hne).trans (HS.out _ hb4').1, (hfar ⟨wr.heap.size, 1, none⟩ hlt4 hne).trans (HS.out _ hb4').2⟩
    have HB5 : Hid (Below w7.heap.size w7 w5) := (hbw.out.trans ((HB1.out.2.2.1.out.mono hwr).trans (hb4'.mono (Nat.le_trans hwr hWz)))).trans hb5
    clear hdr hc3 hr4 ho4 hb4 hb4' hs4 hf4 hr5 ho5 hb5 hfar g0 g1 hi hf
    refine wp_region_noPanic ?_
    refine wp_region_held_drew (S := fun w' => w'.cell? ⟨wr.heap.size, 0, none⟩ = some (.int .i64 y) ∧ w'.cell? ⟨wr.heap.size, 1, none⟩ = some (.slice fA fn fc)) (by kernel_rfl) (HS.out _ HC0.out) (fun hHeld => ?_)
    refine take_in (i := 0) _ (some 27) (by kernel_rfl) (by kernel_rfl) (by kernel_rfl) (by kernel_rfl) (fun _ _ _ h => h) (by rfl) (fun o ho w hSw => by cases ho; (try dsimp only at hSw); (try go_split_ands); go_simp; (try with_reducible rfl)) hHeld ?_
    try simp only [Act.put, List.setIfInBounds_toArray, List.set_cons_zero, List.set_cons_succ]
    refine take_in (i := 1) _ (some 28) (by kernel_rfl) (by kernel_rfl) (by kernel_rfl) (by kernel_rfl) (fun _ _ _ h => h) (by rfl) (fun o ho w hSw => by cases ho; (try dsimp only at hSw); (try go_split_ands); go_simp; (try with_reducible rfl)) hHeld ?_
    try simp only [Act.put, List.setIfInBounds_toArray, List.set_cons_zero, List.set_cons_succ]
    refine take_in (i := 2) _ (some 29) (by kernel_rfl) (by kernel_rfl) (by kernel_rfl) (by kernel_rfl) (fun _ _ _ h => h) (by rfl) (fun o ho w hSw => by cases ho; (try dsimp only at hSw); (try go_split_ands); go_simp; (try with_reducible rfl)) hHeld ?_
    try simp only [Act.put, List.setIfInBounds_toArray, List.set_cons_zero, List.set_cons_succ]
    refine take_in (i := 4) _ (some 31) (by kernel_rfl) (by kernel_rfl) (by kernel_rfl) (by kernel_rfl) (fun _ _ _ h => h) (by rfl) (fun o ho w hSw => by cases ho; (try dsimp only at hSw); (try go_split_ands); go_simp; (try with_reducible rfl)) hHeld ?_
    try simp only [Act.put, List.setIfInBounds_toArray, List.set_cons_zero, List.set_cons_succ]
    refine take_in (i := 5) _ (some 32) (by kernel_rfl) (by kernel_rfl) (by kernel_rfl) (by kernel_rfl) (fun _ _ _ h => h) (by rfl) (fun o ho w hSw => by cases ho; (try dsimp only at hSw); (try go_split_ands); go_simp; (try with_reducible rfl)) hHeld ?_
    try simp only [Act.put, List.setIfInBounds_toArray, List.set_cons_zero, List.set_cons_succ]
    refine wpAnyH_ready (rs := [3]) (by kernel_rfl) (by simp) ?_
    refine AllReadyH.cons (o := _) rfl (fun K hK => ?_) AllReadyH.nil
    go_simp
    refine hK.out _ _ (HS.out _ HC3.out) (fun hHeld => ?_)
    clear hK K
    try simp only [Act.put, List.setIfInBounds_toArray, List.set_cons_zero, List.set_cons_succ]
    refine wpAnyH_ready (rs := [6]) (by kernel_rfl) (by simp) ?_
    refine AllReadyH.cons (o := _) rfl (fun K hK => ?_) AllReadyH.nil
    refine step_append_run (by rfl) _ _ _ (by rfl) (by rfl) (by rfl) HR4.out ?_
    refine hK.out _ _ (HS.out _ HC4.out) (fun hHeld => ?_)
    clear hK K
    try simp only [Act.put, List.setIfInBounds_toArray, List.set_cons_zero, List.set_cons_succ]
    refine take_in (i := 7) _ (some 34) (by kernel_rfl) (by kernel_rfl) (by kernel_rfl) (by kernel_rfl) (fun _ _ _ h => h) (by rfl) (fun o ho w hSw => by cases ho; (try dsimp only at hSw); (try go_split_ands); go_simp; (try with_reducible rfl)) hHeld ?_
    try simp only [Act.put, List.setIfInBounds_toArray, List.set_cons_zero, List.set_cons_succ]
    refine wpAnyH_ready (rs := [8]) (by kernel_rfl) (by simp) ?_
    refine AllReadyH.cons (o := _) rfl (fun K hK => ?_) AllReadyH.nil
    go_simp
    refine hK.out _ _ (HS.out _ HC5.out) (fun hHeld => ?_)
    clear hK K
    try simp only [Act.put, List.setIfInBounds_toArray, List.set_cons_zero, List.set_cons_succ]
    refine wpAnyH_ready (rs := [9]) (by kernel_rfl) (by simp) ?_
    refine AllReadyH.cons (o := _) rfl (fun K hK => ?_) AllReadyH.nil
    refine step_append_run (by rfl) _ _ _ (by rfl) (by rfl) (by rfl) HR5.out ?_
    refine hK.out _ _ HS5.out (fun hHeld => ?_)
    clear hK K
    try simp only [Act.put, List.setIfInBounds_toArray, List.set_cons_zero, List.set_cons_succ]
    refine take_in (i := 10) _ (some 3) (by kernel_rfl) (by kernel_rfl) (by kernel_rfl) (by kernel_rfl) (fun _ _ _ h => h) (by rfl) (fun o ho w hSw => by cases ho; (try dsimp only at hSw); (try go_split_ands); go_simp; (try with_reducible rfl)) hHeld ?_
    try simp only [Act.put, List.setIfInBounds_toArray, List.set_cons_zero, List.set_cons_succ]
    refine wpAnyH_done (by kernel_rfl) ?_ _
    refine NoPanic.normal ?_
    go_wp2_with fail
    clear HB1 HWE HS HC0 HC3 HC4 HC5 HR4 HR5 HS5 hHeld
    go_roundw
    case rel => exact ⟨k + 1, by omega, by go_num, by rw [HPK.out]; exact HO5, HB5⟩
    case measure => simp [intOf]; omega
end Go.Proofs.Ytojgohgeagbkbaa
namespace Go.Proofs.Ytojgohgeagbkbaa
open Go.RowKit

set_option linter.unusedVariables false
set_option linter.unusedSimpArgs false
theorem PRecs.segs {w : World} {B n c : Nat} {Pd : Nat → Prop} {A : Option Addr} {ts : Path} (h : PRecs .i64 w B Pd A n c ts) : Segs w B A n c ts := h.recs
/-- between the steps: the box at M holds the attributes b; the boxes N + 1 .. N + 3 are as they were -/
def ChJ (N M : Nat) (w : World) (sb sa : List Value) (b : Att) (W : World) : Prop :=
  ∃ (pA cA kA uA : Option Addr) (pn pc cn cc kn kc un uc : Nat), Hid (Blk W M 40 (attCells b pA cA kA uA pn pc cn cc kn kc un uc)) ∧ Hid (Blk W (N + 1) 54 sb) ∧ Hid (Blk W (N + 2) 54 sa) ∧ Hid (Blk W (N + 3) 40 [.int .i64 0, .slice none 0 0, .int .u32 0, .bool false, .int .i64 0, .bool false, .int .i64 0, .bool false, .bool false, .int .i64 0, .int .u32 0, .slice none 0 0, .bool false, .int .u32 0, .slice none 0 0, .slice none 0 0]) ∧
    Hid (PLists W W.heap.size (fun b => b ≠ M ∧ b ≠ N + 3) pA cA kA uA pn pc cn cc kn kc un uc b.path b.comm b.clus b.unk) ∧ Hid (Below N w W)
set_option maxRecDepth 100000 in
set_option maxHeartbeats 8000000 in
theorem refChanged_any (og hop med pref aas aad ori : Int) (hm hp atm ha ho : Bool) (pA cA kA uA : Option Addr) (pn pc cn cc kn kc un uc : Nat) (p us : Path) (cm cl : List Int) (spab splb sprb shopb sprefb smedb smetb stagb : Int) (fAb eAb : Option Addr) (fnb fcb enb ecb : Nat) (flb cmsb : List Int) (spaa spla spra shopa sprefa smeda smeta staga : Int) (fAa eAa : Option Addr) (fna fca ena eca : Nat) (fla cmsa : List Int) (w : World) (hL : Lists w w.heap.size pA cA kA uA pn pc cn cc kn kc un uc p cm cl us) (hbp : Ints w w.heap.size .i64 fAb fnb fcb flb) (hap : Ints w w.heap.size .i64 fAa fna fca fla) (hac : Ints w w.heap.size .u32 eAa ena eca cmsa)
    (hs : p.length + (flat p).length + fla.length ≤ 300000) (hu : (flat us).length ≤ 1000000) (hbn : fnb ≤ 1000000) (hcn : ena ≤ 1000000) :
    Calls Try.prog 21 #[.agg #[.int .i64 og, .slice pA pn pc, .int .u32 hop, .bool hm, .int .i64 med, .bool hp, .int .i64 pref, .bool atm, .bool ha, .int .i64 aas, .int .u32 aad, .slice cA cn cc, .bool ho, .int .u32 ori, .slice kA kn kc, .slice uA un uc], .agg #[.int .u32 spab, .int .i64 splb, .int .i64 sprb, .int .u32 shopb, .slice fAb fnb fcb, .slice eAb enb ecb, .int .i64 sprefb, .int .i64 smedb, .int .i64 smetb, .int .i64 stagb], .agg #[.int .u32 spaa, .int .i64 spla, .int .i64 spra, .int .u32 shopa, .slice fAa fna fca, .slice eAa ena eca, .int .i64 sprefa, .int .i64 smeda, .int .i64 smeta, .int .i64 staga]] w (GivesAtt (changedR ⟨og, p, hop, hm, med, hp, pref, atm, ha, aas, aad, cm, ho, ori, cl, us⟩ flb sprefb smedb fla cmsa shopa sprefa smeda) w) := by
  have HL := Lib.hid hL
  have HBP := Lib.hid hbp
  have HAP := Lib.hid hap
  have HAC := Lib.hid hac
  have hlb := hbp.len
  have hla := hap.len
  obtain ⟨w1, hw1⟩ : ∃ w1, (((w.alloc (.cells #[.int .i64 og, .slice pA pn pc, .int .u32 hop, .bool hm, .int .i64 med, .bool hp, .int .i64 pref, .bool atm, .bool ha, .int .i64 aas, .int .u32 aad, .slice cA cn cc, .bool ho, .int .u32 ori, .slice kA kn kc, .slice uA un uc] 40)).alloc (.cells #[.int .u32 spab, .int .i64 splb, .int .i64 sprb, .int .u32 shopb, .slice fAb fnb fcb, .slice eAb enb ecb, .int .i64 sprefb, .int .i64 smedb, .int .i64 smetb, .int .i64 stagb] 54)).alloc (.cells #[.int .u32 spaa, .int .i64 spla, .int .i64 spra, .int .u32 shopa, .slice fAa fna fca, .slice eAa ena eca, .int .i64 sprefa, .int .i64 smeda, .int .i64 smeta, .int .i64 staga] 54)).alloc (.cells #[.int .i64 0, .slice none 0 0, .int .u32 0, .bool false, .int .i64 0, .bool false, .int .i64 0, .bool false, .bool false, .int .i64 0, .int .u32 0, .slice none 0 0, .bool false, .int .u32 0, .slice none 0 0, .slice none 0 0] 40) = w1 := ⟨_, rfl⟩
  have hbA : Blk w1 w.heap.size 40 [.int .i64 og, .slice pA pn pc, .int .u32 hop, .bool hm, .int .i64 med, .bool hp, .int .i64 pref, .bool atm, .bool ha, .int .i64 aas, .int .u32 aad, .slice cA cn cc, .bool ho, .int .u32 ori, .slice kA kn kc, .slice uA un uc] := by rw [← hw1]; exact (((Blk.new w _ _).keep (belowA _ _)).keep (belowA _ _)).keep (belowA _ _)
  have hbB : Blk w1 (w.heap.size + 1) 54 [.int .u32 spab, .int .i64 splb, .int .i64 sprb, .int .u32 shopb, .slice fAb fnb fcb, .slice eAb enb ecb, .int .i64 sprefb, .int .i64 smedb, .int .i64 smetb, .int .i64 stagb] := by rw [← hw1]; exact ((Blk.new2 w _ _ _).keep (belowA _ _)).keep (belowA _ _)
  have hbS : Blk w1 (w.heap.size + 2) 54 [.int .u32 spaa, .int .i64 spla, .int .i64 spra, .int .u32 shopa, .slice fAa fna fca, .slice eAa ena eca, .int .i64 sprefa, .int .i64 smeda, .int .i64 smeta, .int .i64 staga] := by
    rw [← hw1]
    have := Blk.new2 (w.alloc (.cells #[.int .i64 og, .slice pA pn pc, .int .u32 hop, .bool hm, .int .i64 med, .bool hp, .int .i64 pref, .bool atm, .bool ha, .int .i64 aas, .int .u32 aad, .slice cA cn cc, .bool ho, .int .u32 ori, .slice kA kn kc, .slice uA un uc] 40)) (.cells #[.int .u32 spab, .int .i64 splb, .int .i64 sprb, .int .u32 shopb, .slice fAb fnb fcb, .slice eAb enb ecb, .int .i64 sprefb, .int .i64 smedb, .int .i64 smetb, .int .i64 stagb] 54) 54 #[.int .u32 spaa, .int .i64 spla, .int .i64 spra, .int .u32 shopa, .slice fAa fna fca, .slice eAa ena eca, .int .i64 sprefa, .int .i64 smeda, .int .i64 smeta, .int .i64 staga]
    rw [World.size_alloc] at this
    exact this.keep (belowA _ _)
  have hbZ : Blk w1 (w.heap.size + 3) 40 [.int .i64 0, .slice none 0 0, .int .u32 0, .bool false, .int .i64 0, .bool false, .int .i64 0, .bool false, .bool false, .int .i64 0, .int .u32 0, .slice none 0 0, .bool false, .int .u32 0, .slice none 0 0, .slice none 0 0] := by
    rw [← hw1]
    have := Blk.new2 ((w.alloc (.cells #[.int .i64 og, .slice pA pn pc, .int .u32 hop, .bool hm, .int .i64 med, .bool hp, .int .i64 pref, .bool atm, .bool ha, .int .i64 aas, .int .u32 aad, .slice cA cn cc, .bool ho, .int .u32 ori, .slice kA kn kc, .slice uA un uc] 40)).alloc (.cells #[.int .u32 spab, .int .i64 splb, .int .i64 sprb, .int .u32 shopb, .slice fAb fnb fcb, .slice eAb enb ecb, .int .i64 sprefb, .int .i64 smedb, .int .i64 smetb, .int .i64 stagb] 54)) (.cells #[.int .u32 spaa, .int .i64 spla, .int .i64 spra, .int .u32 shopa, .slice fAa fna fca, .slice eAa ena eca, .int .i64 sprefa, .int .i64 smeda, .int .i64 smeta, .int .i64 staga] 54) 40 #[.int .i64 0, .slice none 0 0, .int .u32 0, .bool false, .int .i64 0, .bool false, .int .i64 0, .bool false, .bool false, .int .i64 0, .int .u32 0, .slice none 0 0, .bool false, .int .u32 0, .slice none 0 0, .slice none 0 0]
    rw [World.size_alloc, World.size_alloc] at this
    exact this
  have hb1 : Below w.heap.size w w1 := by rw [← hw1]; exact below3 (below3 (below3 (belowA _ _) (belowA _ _)) (belowA _ _)) (belowA _ _)
  have HB1 := Lib.hid hb1
  have HKA := Lib.hid hbA
  have HKB := Lib.hid hbB
  have HKS := Lib.hid hbS
  have HKZ := Lib.hid hbZ
  have HC := Lib.hid (ref36Check_any og hop med pref aas aad ori hm hp atm ha ho pA cA kA uA pn pc cn cc kn kc un uc p us cm cl w1 (HL.out.grow hb1 (Nat.le_refl _)))
  clear hL hbp hap hac hbA hbB hbS hbZ hb1
  go_enter Try.func21, Try.ntmps21
  go_wp2_with (first | (rw [hw1]; refine wpList_load_blk rfl 40 _ rfl w.heap.size rfl HKA.out _ Try.underlying40 rfl (by kernel_rfl) ?_) | (refine wpList_load_blk rfl 40 _ rfl w.heap.size rfl HKA.out _ Try.underlying40 rfl (by kernel_rfl) ?_))
  refine HC.out.mono ?_
  rintro e w2 ⟨rfl, hb⟩
  clear HC hw1
  obtain ⟨ae, hae⟩ : ∃ ae, attErr ⟨og, p, hop, hm, med, hp, pref, atm, ha, aas, aad, cm, ho, ori, cl, us⟩ = ae := ⟨_, rfl⟩
  rw [hae]
  have HAE := Lib.hid hae
  have HKA2 := Lib.hid (HKA.out.keep hb)
  have HKB2 := Lib.hid (HKB.out.keep hb)
  have HKS2 := Lib.hid (HKS.out.keep hb)
  have HKZ2 := Lib.hid (HKZ.out.keep hb)
  have HB2 := Lib.hid (HB1.out.trans (hb.mono HB1.out.size))
  clear hb hae HKA HKB HKS HKZ HB1
  cases hae0 : (ae == 0)
  case false =>
    have HF : Hid (changedR ⟨og, p, hop, hm, med, hp, pref, atm, ha, aas, aad, cm, ho, ori, cl, us⟩ flb sprefb smedb fla cmsa shopa sprefa smeda = (zeroAtt, ae)) := by show _ = _; unfold changedR; rw [HAE.out, if_neg (by rw [hae0]; simp)]
    have hne : (ae != 0) = true := by simpa using hae0
    obtain ⟨wz, hwz⟩ : ∃ wz, w2.setRow (w.heap.size + 3) #[.int .i64 0, .slice none 0 0, .int .u32 0, .bool false, .int .i64 0, .bool false, .int .i64 0, .bool false, .bool false, .int .i64 0, .int .u32 0, .slice none 0 0, .bool false, .int .u32 0, .slice none 0 0, .slice none 0 0] = wz := ⟨_, rfl⟩
    have HKZ9 : Hid (Blk wz (w.heap.size + 3) 40 [.int .i64 0, .slice none 0 0, .int .u32 0, .bool false, .int .i64 0, .bool false, .int .i64 0, .bool false, .bool false, .int .i64 0, .int .u32 0, .slice none 0 0, .bool false, .int .u32 0, .slice none 0 0, .slice none 0 0]) := by show Blk _ _ _ _; rw [← hwz]; exact HKZ2.out.row _
    have HB9 : Hid (Below w.heap.size w wz) := by show Below _ _ _; rw [← hwz]; exact HB2.out.trans ((Save.row (w.heap.size + 3) w2 _).below (by omega) HB2.out.size)
    go_wp2_with (refine wpList_store_blk rfl 40 _ _ rfl (w.heap.size + 3) rfl rfl HKZ2.out (by kernel_rfl) rfl (by kernel_rfl) ?_)
    try rw [hwz]
    refine bodyPost_ret (results_cell_row2 rfl _ (w.heap.size + 3) _ rfl HKZ9.out Try.underlying40 rfl (by kernel_rfl)) rfl ?_
    rw [HF.out]
    exact ⟨none, none, none, none, 0, 0, 0, 0, 0, 0, 0, 0, rfl, lists_zero _ _, HB9.out⟩
  obtain rfl : ae = 0 := by simpa using hae0
  clear hae0
  have hzz : w.heap.size + 3 < w2.heap.size := HKZ2.out.lt
  have lA : w.heap.size < w2.heap.size := by omega
  have lB : w.heap.size + 1 < w2.heap.size := by omega
  have lS : w.heap.size + 2 < w2.heap.size := by omega
  have b4 := HKB2.out.cell 4
  have s4 := HKS2.out.cell 4
  simp only [List.getElem?_cons_zero, List.getElem?_cons_succ] at b4 s4
  by_cases hlt : fna < fnb
  case pos =>
    have HF : Hid (changedR ⟨og, p, hop, hm, med, hp, pref, atm, ha, aas, aad, cm, ho, ori, cl, us⟩ flb sprefb smedb fla cmsa shopa sprefa smeda = (zeroAtt, 1)) := by
      show _ = _
      unfold changedR
      rw [HAE.out, if_pos (show ((0 : Int) == 0) = true from rfl), if_neg (by unfold endsB; rw [hlb, hla, decide_eq_false (by omega)]; simp)]
    have hn0 : decide ((fna : Int) - (fnb : Int) < 0) = true := by simp; omega
    obtain ⟨wz, hwz⟩ : ∃ wz, w2.setRow (w.heap.size + 3) #[.int .i64 0, .slice none 0 0, .int .u32 0, .bool false, .int .i64 0, .bool false, .int .i64 0, .bool false, .bool false, .int .i64 0, .int .u32 0, .slice none 0 0, .bool false, .int .u32 0, .slice none 0 0, .slice none 0 0] = wz := ⟨_, rfl⟩
    have HKZ9 : Hid (Blk wz (w.heap.size + 3) 40 [.int .i64 0, .slice none 0 0, .int .u32 0, .bool false, .int .i64 0, .bool false, .int .i64 0, .bool false, .bool false, .int .i64 0, .int .u32 0, .slice none 0 0, .bool false, .int .u32 0, .slice none 0 0, .slice none 0 0]) := by show Blk _ _ _ _; rw [← hwz]; exact HKZ2.out.row _
    have HB9 : Hid (Below w.heap.size w wz) := by show Below _ _ _; rw [← hwz]; exact HB2.out.trans ((Save.row (w.heap.size + 3) w2 _).below (by omega) HB2.out.size)
    go_wp2_with (refine wpList_store_blk rfl 40 _ _ rfl (w.heap.size + 3) rfl rfl HKZ2.out (by kernel_rfl) rfl (by kernel_rfl) ?_)
    try rw [hwz]
    refine bodyPost_ret (results_cell_row2 rfl _ (w.heap.size + 3) _ rfl HKZ9.out Try.underlying40 rfl (by kernel_rfl)) rfl ?_
    rw [HF.out]
    exact ⟨none, none, none, none, 0, 0, 0, 0, 0, 0, 0, 0, rfl, lists_zero _ _, HB9.out⟩
  obtain ⟨dd, hdd⟩ : ∃ dd, fna - fnb = dd := ⟨_, rfl⟩
  have hd : (fna : Int) - (fnb : Int) = (dd : Int) := by omega
  have hn0 : decide ((dd : Int) < 0) = false := by simp
  have hdle : dd ≤ fna := by omega
  have hdi : (dd : Int) ≤ (fna : Int) := by omega
  have hddn : dd + fnb = fna := by omega
  have hfna : fna ≤ 300000 := by omega
  have HDD := Lib.hid hdd
  have hends : endsB flb fla = decide (fla.drop dd = flb) := by
    unfold endsB
    rw [hlb, hla, hdd, decide_eq_true (show fnb ≤ fna by omega), Bool.true_and]
  have HEN := Lib.hid hends
  have HLB := Lib.hid hlb
  have HLA := Lib.hid hla
  clear hends hdd
  go_wp2
  go_loop [33] (fun i => ∃ k : Nat, k ≤ fnb ∧ i = .int .i64 k ∧ Hid (∀ j, j < k → flb.getD j 0 = fla.getD (dd + j) 0)) (fun i => fnb - (intOf i).toNat)
  case atStart => exact ⟨0, Nat.zero_le _, rfl, fun j hj => absurd hj (by omega)⟩
  case round =>
    obtain ⟨k, hk, rfl, heq⟩ := hrel
    by_cases hlt : k < fnb
    case pos =>
      obtain ⟨bb, ob, x, rfl, hbB, c0, hx⟩ := (HBP.out.below HB2.out).cell hlt
      obtain ⟨ba, oa, y, rfl, haB, e0, hy⟩ := (HAP.out.below HB2.out).cell (j := dd + k) (by omega)
      have hbb : bb < w2.heap.size := by omega
      have hba : ba < w2.heap.size := by omega
      have hidx : (dd : Int) + (k : Int) ≤ 300000 := by omega
      have hix : (dd : Int) + (k : Int) < (fna : Int) := by omega
      by_cases hxy : y = x
      case neg =>
        have hne : (y != x) = true := by simp [hxy]
        have HF : Hid (changedR ⟨og, p, hop, hm, med, hp, pref, atm, ha, aas, aad, cm, ho, ori, cl, us⟩ flb sprefb smedb fla cmsa shopa sprefa smeda = (zeroAtt, 1)) := by
          show _ = _
          unfold changedR
          rw [HAE.out, if_pos (show ((0 : Int) == 0) = true from rfl), if_neg]
          rw [HEN.out]
          intro h
          have h2 := of_decide_eq_true h
          apply hxy
          rw [← hx.out, ← hy.out, ← h2, List.getD_eq_getElem?_getD, List.getD_eq_getElem?_getD, List.getElem?_drop]
        clear hx hy hxy heq
        obtain ⟨wz, hwz⟩ : ∃ wz, w2.setRow (w.heap.size + 3) #[.int .i64 0, .slice none 0 0, .int .u32 0, .bool false, .int .i64 0, .bool false, .int .i64 0, .bool false, .bool false, .int .i64 0, .int .u32 0, .slice none 0 0, .bool false, .int .u32 0, .slice none 0 0, .slice none 0 0] = wz := ⟨_, rfl⟩
        have HKZ9 : Hid (Blk wz (w.heap.size + 3) 40 [.int .i64 0, .slice none 0 0, .int .u32 0, .bool false, .int .i64 0, .bool false, .int .i64 0, .bool false, .bool false, .int .i64 0, .int .u32 0, .slice none 0 0, .bool false, .int .u32 0, .slice none 0 0, .slice none 0 0]) := by show Blk _ _ _ _; rw [← hwz]; exact HKZ2.out.row _
        have HB9 : Hid (Below w.heap.size w wz) := by show Below _ _ _; rw [← hwz]; exact HB2.out.trans ((Save.row (w.heap.size + 3) w2 _).below (by omega) HB2.out.size)
        go_wp2_with (refine wpList_store_blk rfl 40 _ _ rfl (w.heap.size + 3) rfl rfl HKZ2.out (by kernel_rfl) rfl (by kernel_rfl) ?_)
        try rw [hwz]
        refine bodyPost_ret (results_cell_row2 rfl _ (w.heap.size + 3) _ rfl HKZ9.out Try.underlying40 rfl (by kernel_rfl)) rfl ?_
        rw [HF.out]
        exact ⟨none, none, none, none, 0, 0, 0, 0, 0, 0, 0, 0, rfl, lists_zero _ _, HB9.out⟩
      have hne : (y != x) = false := by simp [hxy]
      have HN : Hid (∀ j, j < k + 1 → flb.getD j 0 = fla.getD (dd + j) 0) := fun j hj => by
        rcases Nat.lt_or_ge j k with h | h
        · exact heq.out j h
        · obtain rfl : j = k := by omega
          rw [hx.out, hy.out, hxy]
      clear hx hy hxy heq
      go_wp2
      go_round
      case rel => exact ⟨k + 1, by omega, by go_num, HN⟩
      case measure => simp [intOf]; omega
    obtain rfl : fnb = k := by omega
    have HEB : Hid (fla.drop dd = flb) := by
      show _ = _
      refine List.ext_getElem? fun t => ?_
      rw [List.getElem?_drop]
      rcases Nat.lt_or_ge t fnb with h | h
      · have h1 := heq.out t h
        have h2 := HLB.out
        have h3 := HLA.out
        rw [List.getD_eq_getElem?_getD, List.getD_eq_getElem?_getD, List.getElem?_eq_getElem (by omega), List.getElem?_eq_getElem (by omega)] at h1
        rw [List.getElem?_eq_getElem (by omega), List.getElem?_eq_getElem (by omega)]
        exact congrArg some h1.symm
      · have h2 := HLB.out
        have h3 := HLA.out
        rw [List.getElem?_eq_none (by omega), List.getElem?_eq_none (by omega)]
    have HEN2 : Hid (endsB flb fla = true) := by show _ = _; rw [HEN.out]; exact decide_eq_true HEB.out
    clear heq HEB HEN
    have HF : Hid (changedR ⟨og, p, hop, hm, med, hp, pref, atm, ha, aas, aad, cm, ho, ori, cl, us⟩ flb sprefb smedb fla cmsa shopa sprefa smeda =
      (if decide (64 < (insR p (fla.take dd)).length) = true then (zeroAtt, 4) else if (attErr (chgAll ⟨og, p, hop, hm, med, hp, pref, atm, ha, aas, aad, cm, ho, ori, cl, us⟩ flb sprefb smedb fla cmsa shopa sprefa smeda) == 0) = true then (chgAll ⟨og, p, hop, hm, med, hp, pref, atm, ha, aas, aad, cm, ho, ori, cl, us⟩ flb sprefb smedb fla cmsa shopa sprefa smeda, 0) else (zeroAtt, attErr (chgAll ⟨og, p, hop, hm, med, hp, pref, atm, ha, aas, aad, cm, ho, ori, cl, us⟩ flb sprefb smedb fla cmsa shopa sprefa smeda)))) := by
      show _ = _
      unfold changedR
      rw [HAE.out, if_pos (show ((0 : Int) == 0) = true from rfl), if_pos HEN2.out, HLB.out, HLA.out, HDD.out]
    have HALL : Hid (chgAll ⟨og, p, hop, hm, med, hp, pref, atm, ha, aas, aad, cm, ho, ori, cl, us⟩ flb sprefb smedb fla cmsa shopa sprefa smeda = chPath (chHop (chMed (chPref ⟨og, p, hop, hm, med, hp, pref, atm, ha, aas, aad, cm, ho, ori, cl, us⟩ sprefa sprefb) smeda smedb) shopa cmsa) (insR p (fla.take dd))) := by
      show _ = _
      unfold chgAll
      rw [HLB.out, HLA.out, HDD.out]
    have HC := Lib.hid (clone36_any og hop med pref aas aad ori hm hp atm ha ho pA cA kA uA pn pc cn cc kn kc un uc p us cm cl w2 (HL.out.grow HB2.out (Nat.le_refl _)) (by unfold Sm; omega) hu)
    clear b4 s4
    go_wp2_with (refine wpList_load_blk rfl 40 _ rfl w.heap.size rfl HKA2.out _ Try.underlying40 rfl (by kernel_rfl) ?_)
    refine HC.out.mono ?_
    rintro e w4 ⟨pA', cA', kA', uA', pc', cc', kc', uc', rfl, hL4, hb4⟩
    obtain ⟨M, hM⟩ : ∃ M, w4.heap.size = M := ⟨_, rfl⟩
    have hbA4 : Blk (w4.alloc (.cells #[.int .i64 0, .slice none 0 0, .int .u32 0, .bool false, .int .i64 0, .bool false, .int .i64 0, .bool false, .bool false, .int .i64 0, .int .u32 0, .slice none 0 0, .bool false, .int .u32 0, .slice none 0 0, .slice none 0 0] 40)) M 40 [.int .i64 0, .slice none 0 0, .int .u32 0, .bool false, .int .i64 0, .bool false, .int .i64 0, .bool false, .bool false, .int .i64 0, .int .u32 0, .slice none 0 0, .bool false, .int .u32 0, .slice none 0 0, .slice none 0 0] := by rw [← hM]; exact Blk.new w4 _ _
    have HZA := Lib.hid hbA4
    obtain ⟨w5, hw5⟩ : ∃ w5, (w4.alloc (.cells #[.int .i64 0, .slice none 0 0, .int .u32 0, .bool false, .int .i64 0, .bool false, .int .i64 0, .bool false, .bool false, .int .i64 0, .int .u32 0, .slice none 0 0, .bool false, .int .u32 0, .slice none 0 0, .slice none 0 0] 40)).setRow M #[.int .i64 og, .slice pA' pn pc', .int .u32 hop, .bool hm, .int .i64 med, .bool hp, .int .i64 pref, .bool atm, .bool ha, .int .i64 aas, .int .u32 aad, .slice cA' cn cc', .bool ho, .int .u32 ori, .slice kA' kn kc', .slice uA' un uc'] = w5 := ⟨_, rfl⟩
    have hba := belowA w4 (.cells #[.int .i64 0, .slice none 0 0, .int .u32 0, .bool false, .int .i64 0, .bool false, .int .i64 0, .bool false, .bool false, .int .i64 0, .int .u32 0, .slice none 0 0, .bool false, .int .u32 0, .slice none 0 0, .slice none 0 0] 40)
    have hs5 : Save M (w4.alloc (.cells #[.int .i64 0, .slice none 0 0, .int .u32 0, .bool false, .int .i64 0, .bool false, .int .i64 0, .bool false, .bool false, .int .i64 0, .int .u32 0, .slice none 0 0, .bool false, .int .u32 0, .slice none 0 0, .slice none 0 0] 40)) w5 := by rw [← hw5]; exact Save.row _ _ _
    have hb5 : Below w4.heap.size w4 w5 := hba.trans (hs5.below (by omega) hba.size)
    have hb25 := hb4.trans (hb5.mono hb4.size)
    have HKM5 : Hid (Blk w5 M 40 [.int .i64 og, .slice pA' pn pc', .int .u32 hop, .bool hm, .int .i64 med, .bool hp, .int .i64 pref, .bool atm, .bool ha, .int .i64 aas, .int .u32 aad, .slice cA' cn cc', .bool ho, .int .u32 ori, .slice kA' kn kc', .slice uA' un uc']) := by show Blk _ _ _ _; rw [← hw5]; exact hbA4.row _
    have HKB5 := Lib.hid (HKB2.out.keep hb25)
    have HKS5 := Lib.hid (HKS2.out.keep hb25)
    have HKZ5 := Lib.hid (HKZ2.out.keep hb25)
    have HL5 : Hid (PLists w5 w5.heap.size (fun b => b ≠ M ∧ b ≠ w.heap.size + 3) pA' cA' kA' uA' pn pc' cn cc' kn kc' un uc' p cm cl us) := by
      exact ((hL4.keep (Keep.of_below hb5)).imp (fun b hb h => ⟨by omega, by omega⟩)).more hb5.size
    have HB5 := Lib.hid (HB2.out.trans (hb25.mono HB2.out.size))
    have hMz : w.heap.size + 3 < M := by have := hb4.size; omega
    clear hbA4 hba hs5 hb5 hb25 hL4 hb4 HKA2 HKB2 HKS2 HKZ2 HB2 HC
    have b6 := HKB5.out.cell 6
    have s6 := HKS5.out.cell 6
    simp only [List.getElem?_cons_zero, List.getElem?_cons_succ] at b6 s6
    have lB : w.heap.size + 1 < w5.heap.size := HKB5.out.lt
    have lS : w.heap.size + 2 < w5.heap.size := HKS5.out.lt
    go_upto_if 55 with (refine wpList_store_blk rfl 40 _ _ rfl M rfl rfl HZA.out (by kernel_rfl) rfl (by kernel_rfl) ?_)
    try rw [hw5]
    clear hw5 HZA hM
    go_cut [] (fun wx => ChJ w.heap.size M w [.int .u32 spab, .int .i64 splb, .int .i64 sprb, .int .u32 shopb, .slice fAb fnb fcb, .slice eAb enb ecb, .int .i64 sprefb, .int .i64 smedb, .int .i64 smetb, .int .i64 stagb] [.int .u32 spaa, .int .i64 spla, .int .i64 spra, .int .u32 shopa, .slice fAa fna fca, .slice eAa ena eca, .int .i64 sprefa, .int .i64 smeda, .int .i64 smeta, .int .i64 staga] (chPref ⟨og, p, hop, hm, med, hp, pref, atm, ha, aas, aad, cm, ho, ori, cl, us⟩ sprefa sprefb) wx)
    case first =>
      cases hpe : (sprefa != sprefb)
      case true =>
        have a5 := HKM5.out.cell 5
        have a6 := HKM5.out.cell 6
        have f5 := HKM5.out.frozen 5
        have f6 := HKM5.out.frozen 6
        simp only [List.getElem?_cons_zero, List.getElem?_cons_succ] at a5 a6
        have lA : M < w5.heap.size := HKM5.out.lt
        have HFIN : Hid (∀ V, Save M w5 V → Blk V M 40 [.int .i64 og, .slice pA' pn pc', .int .u32 hop, .bool hm, .int .i64 med, .bool true, .int .i64 sprefa, .bool atm, .bool ha, .int .i64 aas, .int .u32 aad, .slice cA' cn cc', .bool ho, .int .u32 ori, .slice kA' kn kc', .slice uA' un uc'] → ChJ w.heap.size M w [.int .u32 spab, .int .i64 splb, .int .i64 sprb, .int .u32 shopb, .slice fAb fnb fcb, .slice eAb enb ecb, .int .i64 sprefb, .int .i64 smedb, .int .i64 smetb, .int .i64 stagb] [.int .u32 spaa, .int .i64 spla, .int .i64 spra, .int .u32 shopa, .slice fAa fna fca, .slice eAa ena eca, .int .i64 sprefa, .int .i64 smeda, .int .i64 smeta, .int .i64 staga] (chPref ⟨og, p, hop, hm, med, hp, pref, atm, ha, aas, aad, cm, ho, ori, cl, us⟩ sprefa sprefb) V) := fun V hV hk => by
          refine ⟨pA', cA', kA', uA', pn, pc', cn, cc', kn, kc', un, uc', ?_, HKB5.out.save hV (by omega), HKS5.out.save hV (by omega), HKZ5.out.save hV (by omega), (HL5.out.keep (Keep.of_save hV (fun h => h.1 rfl) (Nat.le_refl _))).more hV.size, HB5.out.trans (hV.below (by omega) HB5.out.size)⟩
          show Blk _ _ _ _
          unfold attCells chPref
          dsimp only
          rw [hpe, if_pos rfl, if_pos rfl]
          exact hk
        go_wp2
        go_meet
        exact HFIN.out _ (Save.set.trans Save.set) ((HKM5.out.set 5 _).set 6 _)
      case false =>
        have HFIN : Hid (ChJ w.heap.size M w [.int .u32 spab, .int .i64 splb, .int .i64 sprb, .int .u32 shopb, .slice fAb fnb fcb, .slice eAb enb ecb, .int .i64 sprefb, .int .i64 smedb, .int .i64 smetb, .int .i64 stagb] [.int .u32 spaa, .int .i64 spla, .int .i64 spra, .int .u32 shopa, .slice fAa fna fca, .slice eAa ena eca, .int .i64 sprefa, .int .i64 smeda, .int .i64 smeta, .int .i64 staga] (chPref ⟨og, p, hop, hm, med, hp, pref, atm, ha, aas, aad, cm, ho, ori, cl, us⟩ sprefa sprefb) w5) := by
          refine ⟨pA', cA', kA', uA', pn, pc', cn, cc', kn, kc', un, uc', ?_, HKB5, HKS5, HKZ5, HL5, HB5⟩
          show Blk _ _ _ _
          unfold attCells chPref
          dsimp only
          rw [hpe, if_neg (by simp), if_neg (by simp)]
          exact HKM5.out
        go_wp2
        go_meet
        exact HFIN.out
    case rest =>
      clear HKM5 HKB5 HKS5 HKZ5 HL5 HB5 b6 s6 lB lS
      obtain ⟨hp1, hhp1⟩ : ∃ x, (if (sprefa != sprefb) = true then true else hp) = x := ⟨_, rfl⟩
      obtain ⟨pref1, hpref1⟩ : ∃ x, (if (sprefa != sprefb) = true then sprefa else pref) = x := ⟨_, rfl⟩
      have hat1 : chPref ⟨og, p, hop, hm, med, hp, pref, atm, ha, aas, aad, cm, ho, ori, cl, us⟩ sprefa sprefb = ⟨og, p, hop, hm, med, hp1, pref1, atm, ha, aas, aad, cm, ho, ori, cl, us⟩ := by unfold chPref; dsimp only; rw [hhp1, hpref1]
      rw [hat1] at hcut HALL
      clear hhp1 hpref1 hat1
      obtain ⟨pA1, cA1, kA1, uA1, pn1, pc1, cn1, cc1, kn1, kc1, un1, uc1, hkx, HKB5, HKS5, HKZ5, HL5, HB5⟩ := hcut
      obtain ⟨w5b, rfl⟩ : ∃ w5b : World, w5b = wc := ⟨_, rfl⟩
      have HKM5 : Hid (Blk w5b M 40 [.int .i64 og, .slice pA1 pn1 pc1, .int .u32 hop, .bool hm, .int .i64 med, .bool hp1, .int .i64 pref1, .bool atm, .bool ha, .int .i64 aas, .int .u32 aad, .slice cA1 cn1 cc1, .bool ho, .int .u32 ori, .slice kA1 kn1 kc1, .slice uA1 un1 uc1]) := hkx
      have b7 := HKB5.out.cell 7
      have s7 := HKS5.out.cell 7
      simp only [List.getElem?_cons_zero, List.getElem?_cons_succ] at b7 s7
      have lB : w.heap.size + 1 < w5b.heap.size := HKB5.out.lt
      have lS : w.heap.size + 2 < w5b.heap.size := HKS5.out.lt
      clear hkx
      go_upto_if 64 with fail
      go_cut [] (fun wx => ChJ w.heap.size M w [.int .u32 spab, .int .i64 splb, .int .i64 sprb, .int .u32 shopb, .slice fAb fnb fcb, .slice eAb enb ecb, .int .i64 sprefb, .int .i64 smedb, .int .i64 smetb, .int .i64 stagb] [.int .u32 spaa, .int .i64 spla, .int .i64 spra, .int .u32 shopa, .slice fAa fna fca, .slice eAa ena eca, .int .i64 sprefa, .int .i64 smeda, .int .i64 smeta, .int .i64 staga] (chMed ⟨og, p, hop, hm, med, hp1, pref1, atm, ha, aas, aad, cm, ho, ori, cl, us⟩ smeda smedb) wx)
      case first =>
        cases hpe : (smeda != smedb)
        case true =>
          have a3 := HKM5.out.cell 3
          have a4 := HKM5.out.cell 4
          have f3 := HKM5.out.frozen 3
          have f4 := HKM5.out.frozen 4
          simp only [List.getElem?_cons_zero, List.getElem?_cons_succ] at a3 a4
          have lA : M < w5b.heap.size := HKM5.out.lt
          have HFIN : Hid (∀ V, Save M w5b V → Blk V M 40 [.int .i64 og, .slice pA1 pn1 pc1, .int .u32 hop, .bool true, .int .i64 smeda, .bool hp1, .int .i64 pref1, .bool atm, .bool ha, .int .i64 aas, .int .u32 aad, .slice cA1 cn1 cc1, .bool ho, .int .u32 ori, .slice kA1 kn1 kc1, .slice uA1 un1 uc1] → ChJ w.heap.size M w [.int .u32 spab, .int .i64 splb, .int .i64 sprb, .int .u32 shopb, .slice fAb fnb fcb, .slice eAb enb ecb, .int .i64 sprefb, .int .i64 smedb, .int .i64 smetb, .int .i64 stagb] [.int .u32 spaa, .int .i64 spla, .int .i64 spra, .int .u32 shopa, .slice fAa fna fca, .slice eAa ena eca, .int .i64 sprefa, .int .i64 smeda, .int .i64 smeta, .int .i64 staga] (chMed ⟨og, p, hop, hm, med, hp1, pref1, atm, ha, aas, aad, cm, ho, ori, cl, us⟩ smeda smedb) V) := fun V hV hk => by
            refine ⟨pA1, cA1, kA1, uA1, pn1, pc1, cn1, cc1, kn1, kc1, un1, uc1, ?_, HKB5.out.save hV (by omega), HKS5.out.save hV (by omega), HKZ5.out.save hV (by omega), (HL5.out.keep (Keep.of_save hV (fun h => h.1 rfl) (Nat.le_refl _))).more hV.size, HB5.out.trans (hV.below (by omega) HB5.out.size)⟩
            show Blk _ _ _ _
            unfold attCells chMed
            dsimp only
            rw [hpe, if_pos rfl, if_pos rfl]
            exact hk
          go_wp2
          go_meet
          exact HFIN.out _ (Save.set.trans Save.set) ((HKM5.out.set 3 _).set 4 _)
        case false =>
          have HFIN : Hid (ChJ w.heap.size M w [.int .u32 spab, .int .i64 splb, .int .i64 sprb, .int .u32 shopb, .slice fAb fnb fcb, .slice eAb enb ecb, .int .i64 sprefb, .int .i64 smedb, .int .i64 smetb, .int .i64 stagb] [.int .u32 spaa, .int .i64 spla, .int .i64 spra, .int .u32 shopa, .slice fAa fna fca, .slice eAa ena eca, .int .i64 sprefa, .int .i64 smeda, .int .i64 smeta, .int .i64 staga] (chMed ⟨og, p, hop, hm, med, hp1, pref1, atm, ha, aas, aad, cm, ho, ori, cl, us⟩ smeda smedb) w5b) := by
            refine ⟨pA1, cA1, kA1, uA1, pn1, pc1, cn1, cc1, kn1, kc1, un1, uc1, ?_, HKB5, HKS5, HKZ5, HL5, HB5⟩
            show Blk _ _ _ _
            unfold attCells chMed
            dsimp only
            rw [hpe, if_neg (by simp), if_neg (by simp)]
            exact HKM5.out
          go_wp2
          go_meet
          exact HFIN.out
      case rest =>
        clear HKM5 HKB5 HKS5 HKZ5 HL5 HB5 b7 s7 lB lS
        obtain ⟨hm1, hhm1⟩ : ∃ x, (if (smeda != smedb) = true then true else hm) = x := ⟨_, rfl⟩
        obtain ⟨med1, hmed1⟩ : ∃ x, (if (smeda != smedb) = true then smeda else med) = x := ⟨_, rfl⟩
        have hat2 : chMed ⟨og, p, hop, hm, med, hp1, pref1, atm, ha, aas, aad, cm, ho, ori, cl, us⟩ smeda smedb = ⟨og, p, hop, hm1, med1, hp1, pref1, atm, ha, aas, aad, cm, ho, ori, cl, us⟩ := by unfold chMed; dsimp only; rw [hhm1, hmed1]
        rw [hat2] at hcut HALL
        clear hhm1 hmed1 hat2
        obtain ⟨pA2, cA2, kA2, uA2, pn2, pc2, cn2, cc2, kn2, kc2, un2, uc2, hkx, HKB6, HKS6, HKZ6, HL6, HB6⟩ := hcut
        obtain ⟨w6, rfl⟩ : ∃ w6 : World, w6 = wc := ⟨_, rfl⟩
        have hka6 : Blk w6 M 40 [.int .i64 og, .slice pA2 pn2 pc2, .int .u32 hop, .bool hm1, .int .i64 med1, .bool hp1, .int .i64 pref1, .bool atm, .bool ha, .int .i64 aas, .int .u32 aad, .slice cA2 cn2 cc2, .bool ho, .int .u32 ori, .slice kA2 kn2 kc2, .slice uA2 un2 uc2] := hkx.out
        -- the hop, the communities
        have a2 := hka6.cell 2
        have f2 := hka6.frozen 2
        have s3 := HKS6.out.cell 3
        simp only [List.getElem?_cons_zero, List.getElem?_cons_succ] at a2 s3
        have l6 : M < w6.heap.size := hka6.lt
        have lS6 : w.heap.size + 2 < w6.heap.size := HKS6.out.lt
        obtain ⟨w7, hw7⟩ : ∃ w7, w6.setCell ⟨M, 2, none⟩ (.int .u32 shopa) = w7 := ⟨_, rfl⟩
        have hs7 : Save M w6 w7 := by rw [← hw7]; exact Save.set
        have hka7 : Blk w7 M 40 [.int .i64 og, .slice pA2 pn2 pc2, .int .u32 shopa, .bool hm1, .int .i64 med1, .bool hp1, .int .i64 pref1, .bool atm, .bool ha, .int .i64 aas, .int .u32 aad, .slice cA2 cn2 cc2, .bool ho, .int .u32 ori, .slice kA2 kn2 kc2, .slice uA2 un2 uc2] := by rw [← hw7]; exact hka6.set 2 _
        have hbw7 : Below w.heap.size w w7 := HB6.out.trans (hs7.below (by omega) HB6.out.size)
        have hks7 := HKS6.out.save hs7 (by omega)
        have s5 := hks7.cell 5
        have l7 : M < w7.heap.size := hka7.lt
        have lS7 : w.heap.size + 2 < w7.heap.size := hks7.lt
        obtain ⟨D8, d8, w8, hr8, ho8, hb8⟩ := copy_u32 (W := w7) (HAC.out.below hbw7) hbw7.size rfl (by omega)
        have HR8 := Lib.hid hr8
        have hka8 := hka7.keep hb8
        have a11 := hka8.cell 11
        have f11 := hka8.frozen 11
        simp only [List.getElem?_cons_zero, List.getElem?_cons_succ] at a11 s5
        have l8 : M < w8.heap.size := hka8.lt
        obtain ⟨w9, hw9⟩ : ∃ w9, w8.setCell ⟨M, 11, none⟩ (.slice D8 ena d8) = w9 := ⟨_, rfl⟩
        have hs9 : Save M w8 w9 := by rw [← hw9]; exact Save.set
        have HKM9 : Hid (Blk w9 M 40 [.int .i64 og, .slice pA2 pn2 pc2, .int .u32 shopa, .bool hm1, .int .i64 med1, .bool hp1, .int .i64 pref1, .bool atm, .bool ha, .int .i64 aas, .int .u32 aad, .slice D8 ena d8, .bool ho, .int .u32 ori, .slice kA2 kn2 kc2, .slice uA2 un2 uc2]) := by show Blk _ _ _ _; rw [← hw9]; exact hka8.set 11 _
        have HKB9 := Lib.hid (((HKB6.out.save hs7 (by omega)).keep hb8).save hs9 (by omega))
        have HKS9 := Lib.hid ((hks7.keep hb8).save hs9 (by omega))
        have HKZ9 := Lib.hid (((HKZ6.out.save hs7 (by omega)).keep hb8).save hs9 (by omega))
        have HB9 : Hid (Below w.heap.size w w9) := (hbw7.trans (hb8.mono hbw7.size)).trans (hs9.below (by omega) (by omega))
        have HL9 : Hid (PLists w9 w9.heap.size (fun b => b ≠ M ∧ b ≠ w.heap.size + 3) pA2 D8 kA2 uA2 pn2 pc2 ena d8 kn2 kc2 un2 uc2 p cmsa cl us) := by
          have h7 := (HL6.out.keep (Keep.of_save hs7 (fun h => h.1 rfl) (Nat.le_refl _))).more hs7.size
          have h8 := (h7.keep (Keep.of_below hb8)).more hb8.size
          have h9 := (h8.keep (Keep.of_save hs9 (fun h => h.1 rfl) (Nat.le_refl _))).more hs9.size
          have hab := above_own ho8
          refine ⟨h9.path, ⟨(ho8.save hs9 (by omega)).ints, fun hn ad e => by have := hab hn ad e; exact ⟨by omega, by omega⟩⟩, h9.clus, h9.unk, h9.small.1, by omega, h9.small.2.2.1, h9.small.2.2.2⟩
        clear hka6 hkx hs7 hka7 hks7 hr8 ho8 hb8 hka8 hs9 HKB6 HKS6 HKZ6 HL6 HB6
        go_upto_if 78 with (at_builtin; refine wpList_append_run rfl _ _ _ rfl rfl rfl HR8.out ?_)
        clear hw7 hw9 a2 f2 s3 s5 a11 f11 l6 l7 l8 lS6 lS7 HR8 hbw7
        have hat3 : chHop ⟨og, p, hop, hm1, med1, hp1, pref1, atm, ha, aas, aad, cm, ho, ori, cl, us⟩ shopa cmsa = ⟨og, p, shopa, hm1, med1, hp1, pref1, atm, ha, aas, aad, cmsa, ho, ori, cl, us⟩ := rfl
        rw [hat3] at HALL
        clear hat3
        go_cut [] (fun wx => ChJ w.heap.size M w [.int .u32 spab, .int .i64 splb, .int .i64 sprb, .int .u32 shopb, .slice fAb fnb fcb, .slice eAb enb ecb, .int .i64 sprefb, .int .i64 smedb, .int .i64 smetb, .int .i64 stagb] [.int .u32 spaa, .int .i64 spla, .int .i64 spra, .int .u32 shopa, .slice fAa fna fca, .slice eAa ena eca, .int .i64 sprefa, .int .i64 smeda, .int .i64 smeta, .int .i64 staga] (chPath ⟨og, p, shopa, hm1, med1, hp1, pref1, atm, ha, aas, aad, cmsa, ho, ori, cl, us⟩ (insR p (fla.take dd))) wx)
        case first =>
          by_cases hdz : dd = 0
          case pos =>
            have hgz : decide ((dd : Int) > 0) = false := by simp; omega
            have HIN : Hid (insR p (fla.take dd) = p) := by show _ = _; rw [hdz, List.take_zero]; unfold insR; rw [if_pos (show ([] : List Int).length = 0 from rfl)]
            have HFIN : Hid (ChJ w.heap.size M w [.int .u32 spab, .int .i64 splb, .int .i64 sprb, .int .u32 shopb, .slice fAb fnb fcb, .slice eAb enb ecb, .int .i64 sprefb, .int .i64 smedb, .int .i64 smetb, .int .i64 stagb] [.int .u32 spaa, .int .i64 spla, .int .i64 spra, .int .u32 shopa, .slice fAa fna fca, .slice eAa ena eca, .int .i64 sprefa, .int .i64 smeda, .int .i64 smeta, .int .i64 staga] (chPath ⟨og, p, shopa, hm1, med1, hp1, pref1, atm, ha, aas, aad, cmsa, ho, ori, cl, us⟩ (insR p (fla.take dd))) w9) := by
              rw [HIN.out]
              exact ⟨pA2, D8, kA2, uA2, pn2, pc2, ena, d8, kn2, kc2, un2, uc2, HKM9, HKB9, HKS9, HKZ9, HL9, HB9⟩
            have hfn : fna = fnb := by omega
            subst hdz
            clear hgz hn0 hdi hd
            go_wp2
            go_meet
            exact HFIN.out
          have hgz : decide ((dd : Int) > 0) = true := by simp; omega
          obtain ⟨A4, c4, hs4, hy4⟩ := HAP.out.sliceTo (P := Try.prog) (T := 52) (E := 3) Try.underlying52 (by kernel_rfl) (hi := dd) hdle
          have HY4 := Lib.hid hy4
          have hddl : (fla.take dd).length = dd := by have h3 := HLA.out; rw [List.length_take]; omega
          have HTL := Lib.hid hddl
          clear hy4 hddl
          have hdpos : 0 < dd := by omega
          have HS : Hid (∀ V, Below w9.heap.size w9 V → V.cell? ⟨w.heap.size + 2, 4, none⟩ = some (.slice fAa fna fca)) := fun V h => (HKS9.out.keep h).cell 4
          have HA1 : Hid (∀ V, Below w9.heap.size w9 V → V.cell? ⟨M, 1, none⟩ = some (.slice pA2 pn2 pc2)) := fun V h => (HKM9.out.keep h).cell 1
          have HC : Hid (Below w9.heap.size w9 w9.drew) := (Below.refl _ _).drew
          have hM9 : M < w9.heap.size := HKM9.out.lt
          go_upto_region 23 with fail
          refine wp_region_noPanic ?_
          refine wp_region_held_drew (S := fun V => V.cell? ⟨w.heap.size + 2, 4, none⟩ = some (.slice fAa fna fca)) (by kernel_rfl) (HS.out _ HC.out) (fun hHeld => ?_)
          refine take_in (i := 0) _ (some 79) (by kernel_rfl) (by kernel_rfl) (by kernel_rfl) (by kernel_rfl) (fun _ _ _ h => h) (by rfl) (fun o ho w hSw => by cases ho; (try dsimp only at hSw); (try go_split_ands); go_simp; (try with_reducible rfl)) hHeld ?_
          try simp only [Act.put, List.setIfInBounds_toArray, List.set_cons_zero, List.set_cons_succ]
          refine take_in (i := 2) _ (some 81) (by kernel_rfl) (by kernel_rfl) (by kernel_rfl) (by kernel_rfl) (fun _ _ _ h => h) (by rfl) (fun o ho w hSw => by cases ho; (try dsimp only at hSw); (try go_split_ands); go_simp; (try with_reducible rfl)) hHeld ?_
          try simp only [Act.put, List.setIfInBounds_toArray, List.set_cons_zero, List.set_cons_succ]
          refine take_in (i := 3) _ (some 82) (by kernel_rfl) (by kernel_rfl) (by kernel_rfl) (by kernel_rfl) (fun _ _ _ h => h) (by rfl) (fun o ho w hSw => by cases ho; (try dsimp only at hSw); (try go_split_ands); go_simp; (try with_reducible rfl)) hHeld ?_
          try simp only [Act.put, List.setIfInBounds_toArray, List.set_cons_zero, List.set_cons_succ]
          refine take_in (i := 4) _ (some 83) (by kernel_rfl) (by kernel_rfl) (by kernel_rfl) (by kernel_rfl) (fun _ _ _ h => h) (by rfl) (fun o ho w hSw => by cases ho; (try dsimp only at hSw); (try go_split_ands); go_simp; (try with_reducible rfl)) hHeld ?_
          try simp only [Act.put, List.setIfInBounds_toArray, List.set_cons_zero, List.set_cons_succ]
          refine take_in (i := 5) _ (some 84) (by kernel_rfl) (by kernel_rfl) (by kernel_rfl) (by kernel_rfl) (fun _ _ _ h => h) (by rfl) (fun o ho w hSw => by cases ho; (try dsimp only at hSw); (try go_split_ands); go_simp; (try with_reducible rfl)) hHeld ?_
          try simp only [Act.put, List.setIfInBounds_toArray, List.set_cons_zero, List.set_cons_succ]
          refine wpAnyH_ready (rs := [1]) (by kernel_rfl) (by simp) ?_
          refine AllReadyH.cons (o := _) rfl (fun K hK => ?_) AllReadyH.nil
          have a1 := HA1.out _ HC.out
          go_simp
          clear a1
          refine hK.out _ _ (HS.out _ HC.out) (fun hHeld => ?_)
          clear hK K
          try simp only [Act.put, List.setIfInBounds_toArray, List.set_cons_zero, List.set_cons_succ]
          refine wpAnyH_ready (rs := [6]) (by kernel_rfl) (by simp) ?_
          refine AllReadyH.cons (o := _) rfl (fun K hK => ?_) AllReadyH.nil
          go_simp
          go_at_call 49
          with_reducible refine (refInserted_any pA2 pn2 pc2 p A4 dd c4 (fla.take dd) _ ((HL9.out.keep (Keep.of_below HC.out)).path.more HC.out.size).segs ((((HY4.out.below HB9.out).more HB9.out.size).below HC.out).more HC.out.size) hdpos (by omega)).mono ?_
          rintro e wX ⟨A9, n9, c9, rfl, hr9, hb9⟩
          have hbX : Below w9.heap.size w9 wX := HC.out.trans hb9
          have HCX := Lib.hid hbX
          have hkaX := HKM9.out.keep hbX
          have a1 := hkaX.cell 1
          have f1 := hkaX.frozen 1
          simp only [List.getElem?_cons_zero, List.getElem?_cons_succ] at a1
          have lX : M < wX.heap.size := hkaX.lt
          obtain ⟨w8, hw8⟩ : ∃ w8, wX.setCell ⟨M, 1, none⟩ (.slice A9 n9 c9) = w8 := ⟨_, rfl⟩
          have hs8 : Save M wX w8 := by rw [← hw8]; exact Save.set
          have hk8 : Blk w8 M 40 [.int .i64 og, .slice A9 n9 c9, .int .u32 shopa, .bool hm1, .int .i64 med1, .bool hp1, .int .i64 pref1, .bool atm, .bool ha, .int .i64 aas, .int .u32 aad, .slice D8 ena d8, .bool ho, .int .u32 ori, .slice kA2 kn2 kc2, .slice uA2 un2 uc2] := by rw [← hw8]; exact hkaX.set 1 _
          have hn9 : n9 ≤ 1000000000 := by have h1 := hr9.len; have h2 := insR_len p (fla.take dd); have h3 := HTL.out; omega
          have HFIN : Hid (ChJ w.heap.size M w [.int .u32 spab, .int .i64 splb, .int .i64 sprb, .int .u32 shopb, .slice fAb fnb fcb, .slice eAb enb ecb, .int .i64 sprefb, .int .i64 smedb, .int .i64 smetb, .int .i64 stagb] [.int .u32 spaa, .int .i64 spla, .int .i64 spra, .int .u32 shopa, .slice fAa fna fca, .slice eAa ena eca, .int .i64 sprefa, .int .i64 smeda, .int .i64 smeta, .int .i64 staga] (chPath ⟨og, p, shopa, hm1, med1, hp1, pref1, atm, ha, aas, aad, cmsa, ho, ori, cl, us⟩ (insR p (fla.take dd))) w8) := by
            have hla := (HL9.out.keep (Keep.of_below hbX)).keep (Keep.of_save hs8 (fun h => h.1 rfl) hbX.size)
            have hmo := Nat.le_trans hbX.size hs8.size
            have hdz : M + 1 ≤ w9.drew.heap.size := hM9
            have hr8 := hr9.save hs8 hdz hdz
            refine ⟨A9, D8, kA2, uA2, n9, c9, ena, d8, kn2, kc2, un2, uc2, hk8, (HKB9.out.keep hbX).save hs8 (by omega), (HKS9.out.keep hbX).save hs8 (by omega), (HKZ9.out.keep hbX).save hs8 (by omega), ⟨?_, ⟨hla.comm.1.more hmo, hla.comm.2⟩, ⟨hla.clus.1.more hmo, hla.clus.2⟩, hla.unk.more hmo, hn9, hla.small.2⟩, (HB9.out.trans (hbX.mono HB9.out.size)).trans (hs8.below (by omega) (by omega))⟩
            exact hr8.precs (fun b h => ⟨by omega, by omega⟩) (fun b h => ⟨by omega, by omega⟩)
          have HSX := Lib.hid (HS.out _ hbX)
          have HS8 : Hid (w8.cell? ⟨w.heap.size + 2, 4, none⟩ = some (.slice fAa fna fca)) := ((HKS9.out.keep hbX).save hs8 (by omega)).cell 4
          clear hr9 hb9 hbX hkaX hs8 hk8
          refine hK.out _ _ HSX.out (fun hHeld => ?_)
          clear hK K
          try simp only [Act.put, List.setIfInBounds_toArray, List.set_cons_zero, List.set_cons_succ]
          refine take_in (i := 7) _ (some 86) (by kernel_rfl) (by kernel_rfl) (by kernel_rfl) (by kernel_rfl) (fun _ _ _ h => h) (by rfl) (fun o ho w hSw => by cases ho; (try dsimp only at hSw); (try go_split_ands); go_simp; (try with_reducible rfl)) hHeld ?_
          try simp only [Act.put, List.setIfInBounds_toArray, List.set_cons_zero, List.set_cons_succ]
          refine wpAnyH_ready (rs := [8]) (by kernel_rfl) (by simp) ?_
          refine AllReadyH.cons (o := _) rfl (fun K hK => ?_) AllReadyH.nil
          go_simp
          refine hK.out _ _ HS8.out (fun hHeld => ?_)
          clear hK K
          try simp only [Act.put, List.setIfInBounds_toArray, List.set_cons_zero, List.set_cons_succ]
          refine wpAnyH_done (by kernel_rfl) ?_ _
          refine NoPanic.normal ?_
          go_wp2
          go_meet
          exact HFIN.out
        case rest =>
          obtain ⟨q, hq⟩ : ∃ q, insR p (fla.take dd) = q := ⟨_, rfl⟩
          rw [hq] at hcut HALL HF
          have hat4 : chPath ⟨og, p, shopa, hm1, med1, hp1, pref1, atm, ha, aas, aad, cmsa, ho, ori, cl, us⟩ q = ⟨og, q, shopa, hm1, med1, hp1, pref1, atm, ha, aas, aad, cmsa, ho, ori, cl, us⟩ := rfl
          rw [hat4] at hcut HALL
          rw [HALL.out] at HF
          obtain ⟨pA4, cA4, kA4, uA4, pn4, pc4, cn4, cc4, kn4, kc4, un4, uc4, hkx, _, _, HKZ8, hl8, HB8⟩ := hcut
          obtain ⟨w8, rfl⟩ : ∃ w8 : World, w8 = wc := ⟨_, rfl⟩
          have HKA8 : Hid (Blk w8 M 40 [.int .i64 og, .slice pA4 pn4 pc4, .int .u32 shopa, .bool hm1, .int .i64 med1, .bool hp1, .int .i64 pref1, .bool atm, .bool ha, .int .i64 aas, .int .u32 aad, .slice cA4 cn4 cc4, .bool ho, .int .u32 ori, .slice kA4 kn4 kc4, .slice uA4 un4 uc4]) := hkx
          have HL8 : Hid (PLists w8 w8.heap.size (fun b => b ≠ M ∧ b ≠ w.heap.size + 3) pA4 cA4 kA4 uA4 pn4 pc4 cn4 cc4 kn4 kc4 un4 uc4 q cmsa cl us) := hl8
          have hqn : q.length = pn4 := HL8.out.lists.path.len
          have hqs : pn4 ≤ 1000000000 := HL8.out.small.1
          have hzz8 : w.heap.size + 3 < w8.heap.size := HKZ8.out.lt
          have lA : M < w8.heap.size := HKA8.out.lt
          have a1 := HKA8.out.cell 1
          simp only [List.getElem?_cons_zero, List.getElem?_cons_succ] at a1
          clear hkx hl8 hat4 HALL HKM9 HKB9 HKS9 HKZ9 HL9 HB9 hq
          rw [hqn] at HF
          by_cases hk64 : 64 < pn4
          case pos =>
            have d64 : decide ((pn4 : Int) > 64) = true := by simp; omega
            rw [if_pos (by simpa using hk64)] at HF
            clear hk64 hqn
            obtain ⟨wz, hwz⟩ : ∃ wz, w8.setRow (w.heap.size + 3) #[.int .i64 0, .slice none 0 0, .int .u32 0, .bool false, .int .i64 0, .bool false, .int .i64 0, .bool false, .bool false, .int .i64 0, .int .u32 0, .slice none 0 0, .bool false, .int .u32 0, .slice none 0 0, .slice none 0 0] = wz := ⟨_, rfl⟩
            have HKZ9 : Hid (Blk wz (w.heap.size + 3) 40 [.int .i64 0, .slice none 0 0, .int .u32 0, .bool false, .int .i64 0, .bool false, .int .i64 0, .bool false, .bool false, .int .i64 0, .int .u32 0, .slice none 0 0, .bool false, .int .u32 0, .slice none 0 0, .slice none 0 0]) := by show Blk _ _ _ _; rw [← hwz]; exact HKZ8.out.row _
            have HB9 : Hid (Below w.heap.size w wz) := by show Below _ _ _; rw [← hwz]; exact HB8.out.trans ((Save.row (w.heap.size + 3) w8 _).below (by omega) HB8.out.size)
            go_wp2_with (refine wpList_store_blk rfl 40 _ _ rfl (w.heap.size + 3) rfl rfl HKZ8.out (by kernel_rfl) rfl (by kernel_rfl) ?_)
            try rw [hwz]
            refine bodyPost_ret (results_cell_row2 rfl _ (w.heap.size + 3) _ rfl HKZ9.out Try.underlying40 rfl (by kernel_rfl)) rfl ?_
            rw [HF.out]
            exact ⟨none, none, none, none, 0, 0, 0, 0, 0, 0, 0, 0, rfl, lists_zero _ _, HB9.out⟩
          have d64 : decide ((pn4 : Int) > 64) = false := by simp; omega
          rw [if_neg (by simpa using hk64)] at HF
          clear hk64 hqn
          have HC := Lib.hid (ref36Check_any og shopa med1 pref1 aas aad ori hm1 hp1 atm ha ho pA4 cA4 kA4 uA4 pn4 pc4 cn4 cc4 kn4 kc4 un4 uc4 q us cmsa cl w8 HL8.out.lists)
          go_wp2_with (refine wpList_load_blk rfl 40 _ rfl M rfl HKA8.out _ Try.underlying40 rfl (by kernel_rfl) ?_)
          refine HC.out.mono ?_
          rintro e w9 ⟨rfl, hb9x⟩
          clear HC a1
          obtain ⟨ae, hae⟩ : ∃ ae, attErr ⟨og, q, shopa, hm1, med1, hp1, pref1, atm, ha, aas, aad, cmsa, ho, ori, cl, us⟩ = ae := ⟨_, rfl⟩
          rw [hae] at HF ⊢
          clear hae
          have HZ9 := Lib.hid (HKZ8.out.keep hb9x)
          have HA9 := Lib.hid (HKA8.out.keep hb9x)
          have HL9 := Lib.hid ((HL8.out.keep (Keep.of_below hb9x)).more hb9x.size)
          have HB9 := Lib.hid (HB8.out.trans (hb9x.mono HB8.out.size))
          clear HKZ8 HKA8 HL8 HB8 hb9x
          cases hea : (ae == 0)
          case false =>
            rw [hea, if_neg (by simp)] at HF
            have hne : (ae != 0) = true := by simpa using hea
            have HB9c := HB9
            obtain ⟨wz, hwz⟩ : ∃ wz, w9.setRow (w.heap.size + 3) #[.int .i64 0, .slice none 0 0, .int .u32 0, .bool false, .int .i64 0, .bool false, .int .i64 0, .bool false, .bool false, .int .i64 0, .int .u32 0, .slice none 0 0, .bool false, .int .u32 0, .slice none 0 0, .slice none 0 0] = wz := ⟨_, rfl⟩
            have HKZ9 : Hid (Blk wz (w.heap.size + 3) 40 [.int .i64 0, .slice none 0 0, .int .u32 0, .bool false, .int .i64 0, .bool false, .int .i64 0, .bool false, .bool false, .int .i64 0, .int .u32 0, .slice none 0 0, .bool false, .int .u32 0, .slice none 0 0, .slice none 0 0]) := by show Blk _ _ _ _; rw [← hwz]; exact HZ9.out.row _
            have HB9 : Hid (Below w.heap.size w wz) := by show Below _ _ _; rw [← hwz]; exact HB9c.out.trans ((Save.row (w.heap.size + 3) w9 _).below (by omega) HB9c.out.size)
            go_wp2_with (refine wpList_store_blk rfl 40 _ _ rfl (w.heap.size + 3) rfl rfl HZ9.out (by kernel_rfl) rfl (by kernel_rfl) ?_)
            try rw [hwz]
            refine bodyPost_ret (results_cell_row2 rfl _ (w.heap.size + 3) _ rfl HKZ9.out Try.underlying40 rfl (by kernel_rfl)) rfl ?_
            rw [HF.out]
            exact ⟨none, none, none, none, 0, 0, 0, 0, 0, 0, 0, 0, rfl, lists_zero _ _, HB9.out⟩
          obtain rfl : ae = 0 := by simpa using hea
          rw [hea, if_pos rfl] at HF
          clear hea
          obtain ⟨wz, hwz⟩ : ∃ wz, w9.setRow (w.heap.size + 3) #[.int .i64 og, .slice pA4 pn4 pc4, .int .u32 shopa, .bool hm1, .int .i64 med1, .bool hp1, .int .i64 pref1, .bool atm, .bool ha, .int .i64 aas, .int .u32 aad, .slice cA4 cn4 cc4, .bool ho, .int .u32 ori, .slice kA4 kn4 kc4, .slice uA4 un4 uc4] = wz := ⟨_, rfl⟩
          have hsz : Save (w.heap.size + 3) w9 wz := by rw [← hwz]; exact Save.row _ _ _
          have HKZZ : Hid (Blk wz (w.heap.size + 3) 40 [.int .i64 og, .slice pA4 pn4 pc4, .int .u32 shopa, .bool hm1, .int .i64 med1, .bool hp1, .int .i64 pref1, .bool atm, .bool ha, .int .i64 aas, .int .u32 aad, .slice cA4 cn4 cc4, .bool ho, .int .u32 ori, .slice kA4 kn4 kc4, .slice uA4 un4 uc4]) := by show Blk _ _ _ _; rw [← hwz]; exact HZ9.out.row _
          have HBZ : Hid (Below w.heap.size w wz) := HB9.out.trans (hsz.below (by omega) HB9.out.size)
          have HLZ := Lib.hid ((HL9.out.keep (Keep.of_save hsz (fun h => h.2 rfl) (Nat.le_refl _))).more hsz.size)
          go_wp2_with (first | (refine wpList_load_blk rfl 40 _ rfl M rfl HA9.out _ Try.underlying40 rfl (by kernel_rfl) ?_) | (refine wpList_store_blk rfl 40 _ _ rfl (w.heap.size + 3) rfl rfl HZ9.out (by kernel_rfl) rfl (by kernel_rfl) ?_))
          try rw [hwz]
          refine bodyPost_ret (results_cell_row2 rfl _ (w.heap.size + 3) _ rfl HKZZ.out Try.underlying40 rfl (by kernel_rfl)) rfl ?_
          rw [HF.out]
          exact ⟨pA4, cA4, kA4, uA4, pn4, pc4, cn4, cc4, kn4, kc4, un4, uc4, rfl, HLZ.out.lists, HBZ.out⟩
end Go.Proofs.Ytojgohgeagbkbaa
