/- Parse: the reference's. -/
import Derived.Test.YteohdanlcaoaiaaDoorNums
import Derived.Test.YteohdanlcaoaiaaDoorRefText
namespace Go.Proofs.YteohdanlcaoaiaaDoor
open Go.RowKit

theorem RB.new (w : World) (s : ByteArray) : RB (w.alloc (.cells #[.string s, .int .i64 0] 64)) w.heap.size s 0 := by
  unfold RB
  show (w.heap.push _)[w.heap.size]? = _
  simp
theorem numsF_count (sep : UInt8) : ∀ (f : Nat) (l : List UInt8), (numsF sep f l).1.length + (numsF sep f l).2.length ≤ l.length
  | 0, l => by simp [numsF]
  | f + 1, l => by
    have h1 := digF_len l 0
    rw [numsF]
    split
    · simp
    · rename_i hne
      split
      · rename_i c d t he
        rw [he] at h1 hne
        simp only [List.length_cons] at h1 hne
        split
        · have h2 := numsF_count sep f (d :: t)
          simp only [List.length_cons] at h2 ⊢
          omega
        · rw [he]
          simp only [List.length_cons, List.length_nil]
          omega
      · simp only [List.length_cons, List.length_nil]
        omega
theorem seqs_size (k : Int) (l : List Int) : (seqs k l).length + (flat (seqs k l)).length ≤ 2 * l.length := by
  have h1 := seqs_len k _ l (Nat.le_refl _)
  rw [seqs_flat k _ l (Nat.le_refl _)]
  omega
theorem refParse_ok {s : ByteArray} {p : Path} (h : lenF (s.size + 1) (bsL s) [] = some p) (ht : textR p = (bsL s, 0)) : refParseR s = (p, 0) := by
  unfold refParseR
  rw [show lenF (s.size + 1) s.data.toList [] = some p from h]
  exact if_pos ht
theorem refParse_no {s : ByteArray} {p : Path} (h : lenF (s.size + 1) (bsL s) [] = some p) (ht : textR p ≠ (bsL s, 0)) : refParseR s = ([], 2) := by
  unfold refParseR
  rw [show lenF (s.size + 1) s.data.toList [] = some p from h]
  exact if_neg ht
theorem refParse_none {s : ByteArray} (h : lenF (s.size + 1) (bsL s) [] = none) : refParseR s = ([], 2) := by
  unfold refParseR
  rw [show lenF (s.size + 1) s.data.toList [] = none from h]
/-- the loop's state: the box g, the path so far, the cursor; what is still to be read gives the answer -/
def PRInv (w : World) (g : Nat) (s : ByteArray) (pv : Value) (wr : World) : Prop :=
  ∃ (m cur : Nat) (A : Option Addr) (c : Nat) (p : Path), pv = .slice A m c ∧ (m ≤ 2 * cur ∧ cur ≤ s.size) ∧ Hid (SOut wr (g + 1) (g + 1) (.slice A m c) m p) ∧ Hid (RB wr g s cur) ∧ Hid (Save g w wr) ∧
    Hid (p.length + (flat p).length ≤ 3 * cur) ∧ Hid (∃ f, ((bsL s).drop cur).length < f ∧ lenF (s.size + 1) (bsL s) [] = lenF f ((bsL s).drop cur) p)
set_option linter.unusedSimpArgs false in
set_option maxRecDepth 100000 in
set_option maxHeartbeats 8000000 in
theorem refParse_any (s : ByteArray) (w : World) (hs : s.size ≤ 200000) :
    Calls Tryd.prog 36 #[.string s] w (GivesPathErr (refParseR s) w) := by
  have HB0 : Hid (Below w.heap.size w (w.alloc (.cells #[.string s, .int .i64 0] 64))) := belowA _ _
  have HR0 : Hid (RB (w.alloc (.cells #[.string s, .int .i64 0] 64)) w.heap.size s 0) := RB.new w s
  go_enter Tryd.func36, Tryd.ntmps36
  go_wp2
  obtain ⟨g, hg⟩ : ∃ g, w.heap.size = g := ⟨_, rfl⟩
  obtain ⟨w1, hw1⟩ : ∃ w1, w.alloc (.cells #[.string s, .int .i64 0] 64) = w1 := ⟨_, rfl⟩
  rw [hw1] at HB0 HR0 ⊢
  rw [hg] at HR0 ⊢
  have HG := Lib.hid hg
  have HW1 := Lib.hid hw1
  clear hg hw1
  go_loopw [5] (fun pv wr => PRInv w1 g s pv wr) (fun _ wr => s.size - posOf g wr)
  case atStart => exact ⟨0, 0, none, 0, [], rfl, ⟨Nat.zero_le _, Nat.zero_le _⟩, SOut.nil _ _ _, HR0, Save.refl _ _, (by show _ ≤ _; simp [flat]), s.size + 1, by simp [bsL_len], rfl⟩
  case round =>
    obtain ⟨m, cur, A, c, p, rfl, ⟨hm, hcs⟩, hso, hrb, hsv, hwt, hle⟩ := hrel
    obtain ⟨c0, c1, f1, hg1⟩ := hrb.out.parts
    by_cases hlt : cur < s.size
    case neg =>
      have HLN : Hid (lenF (s.size + 1) (bsL s) [] = some p) := by
        obtain ⟨f, h1, h2⟩ := hle.out
        rw [bsL_end hlt] at h1 h2
        obtain ⟨f', rfl⟩ : ∃ f', f = f' + 1 := ⟨f - 1, by simp at h1; omega⟩
        exact h2
      have HSM : Hid (Sm p) := by have := hwt.out; show Sm p; unfold Sm; omega
      have HSG := Lib.hid hso.out.segs
      clear hle
      go_wp2_with fail
      refine (refText_any A m c p wr HSG.out HSM.out).mono ?_
      rintro e w2 ⟨rfl, hb2⟩
      have HB2 : Hid (Below w.heap.size w w2) := HB0.out.trans ((hsv.out.below (by rw [← HG.out]; exact HB0.out.size)).mono (Nat.le_of_eq HG.out) |>.trans (hb2.mono (by have := hsv.out.size; have := HB0.out.size; omega)))
      have HSO2 : Hid (SOut w2 w.heap.size w.heap.size (.slice A m c) m p) := (hso.out.below hb2).mono (by have := HG.out; omega) (by have := HG.out; omega)
      obtain ⟨⟨t, x⟩, ht⟩ : ∃ r, textR p = r := ⟨_, rfl⟩
      have HT := Lib.hid ht
      rw [ht]
      dsimp only
      clear ht hb2 hso hsv hrb c0 c1 f1
      by_cases hx : x = 0
      case neg =>
        have HF : Hid (refParseR s = ([], 2)) := refParse_no HLN.out (by rw [HT.out]; intro e; exact hx (congrArg Prod.snd e))
        have dx : (x != 0) = true := by simp [hx]
        clear hx
        go_wp2
        go_ret2
        rw [HF.out]
        exact ⟨_, _, _, rfl, SOut.nil _ _ _, HB2.out⟩
      subst hx
      obtain ⟨sb, hsb⟩ : ∃ b, strB t = b := ⟨_, rfl⟩
      rw [hsb]
      by_cases hss : sb = s
      case pos =>
        subst hss
        have HF : Hid (refParseR sb = (p, 0)) := refParse_ok HLN.out (by rw [HT.out, ← hsb]; show _ = ((strB t).data.toList, _); rw [strB_list])
        clear hsb
        go_wp2
        go_ret2
        rw [HF.out]
        exact ⟨A, m, c, rfl, HSO2.out, HB2.out⟩
      have HF : Hid (refParseR s = ([], 2)) := refParse_no HLN.out (by rw [HT.out]; intro e; exact hss (by rw [← hsb]; exact (strB_of (congrArg Prod.fst e).symm).symm))
      have ds : (sb.toList == s.toList) = false := beq_eq_false_iff_ne.2 (fun e => hss (bytes_ext (by rw [← Lib.toList_data, ← Lib.toList_data]; exact e)))
      clear hsb
      go_wp2
      go_ret2
      rw [HF.out]
      exact ⟨_, _, _, rfl, SOut.nil _ _ _, HB2.out⟩
    have hks : (cur : Int) < (s.size : Int) := by omega
    have hE := bsL_at hlt
    obtain ⟨d, hd⟩ : ∃ d, s[cur] = d := ⟨_, rfl⟩
    rw [hd] at hE
    obtain ⟨l1, hl1⟩ : ∃ l, (bsL s).drop (cur + 1) = l := ⟨_, rfl⟩
    rw [hl1] at hE
    have HE := Lib.hid hE
    have HL1 := Lib.hid hl1
    obtain ⟨w0, hw0⟩ : ∃ w0 : World, w0 = wr := ⟨_, rfl⟩
    subst hw0
    clear hd hE hl1
    have HPO : Hid (posOf g w0 = cur) := hrb.out.pos
    go_wp2_with fail
    refine (next_any g cur s 123 123 rfl w0 hrb.out (by omega) hcs).mono ?_
    rintro e wa ⟨ka, rfl, hra, hka, ⟨hka1, hka2⟩, hsa⟩
    rw [HE.out] at hka ⊢
    by_cases h123 : d = 123
    case pos =>
      subst h123
      rw [skipF_hit, ← HL1.out] at hka
      rw [show hitL 123 (123 :: l1) = true from rfl]
      have HRA := Lib.hid hra
      have HKA := Lib.hid hka
      have HSA := Lib.hid hsa
      clear hra hka hsa
      go_wp2_with fail
      refine (numbers_any g ka (l1.length + 1) s 44 44 rfl wa HRA.out (by omega) hka2 (by rw [HKA.out, HL1.out]; omega)).mono ?_
      rintro e wb ⟨A1, n1, c1', k1, rfl, ho1, hr1, hd1, ⟨hk1, hk2⟩, hn1, hs1⟩
      rw [HKA.out, HL1.out] at ho1 hd1
      obtain ⟨ns, hns⟩ : ∃ l, (numsF 44 (l1.length + 1) l1).1 = l := ⟨_, rfl⟩
      obtain ⟨rs, hrs⟩ : ∃ l, (numsF 44 (l1.length + 1) l1).2 = l := ⟨_, rfl⟩
      have hcnt := numsF_count 44 (l1.length + 1) l1
      rw [hns, hrs] at hcnt
      rw [hns] at ho1
      rw [hrs] at hd1
      have hsw : w1.heap.size = g + 1 := by rw [← HW1.out, ← HG.out]; simp
      have hgw : g + 1 ≤ w0.heap.size := by have := hsv.out.size; omega
      have hso1 := sout_save (sout_save hso.out HSA.out (by omega) (by omega)) hs1 (by omega) (by omega)
      have hga : g + 1 ≤ wa.heap.size := Nat.le_trans hgw HSA.out.size
      have hgb : g + 1 ≤ wb.heap.size := Nat.le_trans hga hs1.size
      obtain ⟨A2, c2, wc, hr2, ho2, hb2⟩ := hso1.push 1 ho1.ints (free_int hso1 ho1 hga) rfl hgb (by omega)
      have HR2 := Lib.hid hr2
      have HRC : Hid (RB wc g s k1) := hr1.keepB hb2 (by omega)
      have HSC : Hid (Save g w1 wc) := ((hsv.out.trans HSA.out).trans hs1).then (by rw [hsw]; exact hb2)
      have HOC := Lib.hid ho2
      have HSEG0 : Hid (segF (123 :: l1) = ([(1, ns)], skipF 125 rs)) := by
        show _ = _
        rw [segF, if_pos rfl, hns, hrs]
      have HD1 := Lib.hid hd1
      have hnl : ns.length = n1 := ho1.len
      have hll : l1.length = s.size - (cur + 1) := by rw [← HL1.out, List.length_drop, bsL_len]
      have hrl : rs.length = s.size - k1 := by rw [← HD1.out, List.length_drop, bsL_len]
      clear ho1 hr1 hd1 hs1 hns hrs hr2 ho2 hb2 hso1
      go_wp2_with (at_builtin; refine wpList_append_run rfl _ _ _ rfl rfl rfl HR2.out ?_)
      clear HR2
      go_wp2_with fail
      refine (next_any g k1 s 125 125 rfl wc HRC.out (by omega) hk2).mono ?_
      rintro e wt ⟨kt, rfl, hrt, hdt, ⟨hkt1, hkt2⟩, hst⟩
      rw [HD1.out] at hdt ⊢
      obtain ⟨m2, hm2⟩ : ∃ n, m + 1 = n := ⟨_, rfl⟩
      obtain ⟨rg, hrg⟩ : ∃ r, skipF 125 rs = r := ⟨_, rfl⟩
      rw [hrg] at hdt HSEG0
      obtain ⟨sg, hsg⟩ : ∃ q : Path, [(1, ns)] = q := ⟨_, rfl⟩
      have HWT : Hid (sg.length + (flat sg).length ≤ 3 * (kt - cur)) := by
        show _ ≤ _
        rw [← hsg]
        simp [flat]
        omega
      rw [hsg] at HSEG0 HOC
      have HSEG := HSEG0
      have HRT := Lib.hid hrt
      have HDK := Lib.hid hdt
      have HST : Hid (Save g w1 wt) := HSC.out.trans hst
      have HSO2 : Hid (SOut wt (g + 1) (g + 1) (.slice A2 (m + 1) c2) (m + 1) (p ++ sg)) := sout_save HOC.out hst (by omega) (by omega)
      rw [hm2] at HSO2 ⊢
      clear hrt hdt hst HSEG0 HOC HSC HRC HD1 hrg hsg

      go_wp2_with fail
      refine (next_any g kt s 32 32 rfl wt HRT.out (by omega) hkt2).mono ?_
      rintro e wz ⟨kz, rfl, hrz, hdz, ⟨hkz1, hkz2⟩, hsz⟩
      have HRZ := Lib.hid hrz
      have HSZ : Hid (Save g w1 wz) := HST.out.trans hsz
      have HOZ : Hid (SOut wz (g + 1) (g + 1) (.slice A2 m2 c2) m2 (p ++ sg)) := sout_save HSO2.out hsz (by omega) (by omega)
      rw [HDK.out] at hdz
      have HDZ := Lib.hid hdz
      obtain ⟨z0, z1, z2, z3⟩ := HRZ.out.parts
      clear hrz hdz hsz
      have hlz : (skipF 32 rg).length = s.size - kz := by rw [← HDZ.out, List.length_drop, bsL_len]
      have hlc : (123 :: l1).length = s.size - cur := by rw [← HE.out, List.length_drop, bsL_len]
      by_cases hzc : kz = cur
      case pos =>
        have HF : Hid (refParseR s = ([], 2)) := by
          refine refParse_none ?_
          obtain ⟨f, h1, h2⟩ := hle.out
          obtain ⟨f', rfl⟩ : ∃ f', f = f' + 1 := ⟨f - 1, by omega⟩
          rw [h2, HE.out, lenF, HSEG.out, if_pos (by dsimp only; omega)]
        have HBZ : Hid (Below w.heap.size w wz) := HB0.out.trans ((HSZ.out.below (by rw [← HG.out]; exact HB0.out.size)).mono (Nat.le_of_eq HG.out))
        have dz : ((kz : Int) == (cur : Int)) = true := by simp [hzc]
        clear hle hlz hlc hzc
        go_wp2_with fail
        go_ret2
        rw [HF.out]
        exact ⟨_, _, _, rfl, SOut.nil _ _ _, HBZ.out⟩
      have dz : ((kz : Int) == (cur : Int)) = false := by simp; omega
      have HNX : Hid (∃ f, ((bsL s).drop kz).length < f ∧ lenF (s.size + 1) (bsL s) [] = lenF f ((bsL s).drop kz) (p ++ sg)) := by
        obtain ⟨f, h1, h2⟩ := hle.out
        obtain ⟨f', rfl⟩ : ∃ f', f = f' + 1 := ⟨f - 1, by omega⟩
        rw [HE.out] at h1
        rw [HE.out, lenF, HSEG.out, if_neg (by dsimp only; omega)] at h2
        refine ⟨f', by rw [HDZ.out]; omega, by rw [HDZ.out]; exact h2⟩
      have HPZ : Hid (posOf g wz = kz) := HRZ.out.pos
      have HWZ : Hid ((p ++ sg).length + (flat (p ++ sg)).length ≤ 3 * kz) := by
        have h1 := HWT.out
        show _ ≤ _
        rw [flat_app, List.length_append, List.length_append]
        have h2 := hwt.out
        omega
      clear hle hlz hlc
      go_wp2_with fail
      go_roundw
      case rel => exact ⟨m2, kz, A2, c2, p ++ sg, rfl, ⟨by omega, hkz2⟩, HOZ, HRZ, HSZ, HWZ, HNX⟩
      case measure =>
        rw [HPZ.out, HPO.out]
        omega
    rw [skipF, if_neg h123] at hka
    obtain rfl : cur = ka := by
      have h1 := congrArg List.length (hka.trans HE.out.symm)
      rw [List.length_drop, List.length_drop, bsL_len] at h1
      omega
    rw [show hitL 123 (d :: l1) = false from decide_eq_false h123]
    have hso' := Lib.hid (sout_save hso.out hsa (by omega) (by omega))
    have hsv' := Lib.hid (hsv.out.trans hsa)
    have hrb' := Lib.hid hra
    clear hso hsv hrb
    obtain ⟨hso, hsv, hrb⟩ : _ ∧ _ ∧ _ := ⟨hso', hsv', hrb'⟩
    clear hso' hsv' hrb' hka hsa hra hka1 hka2
    go_wp2_with fail
    refine (next_any g cur s 91 91 rfl wa hrb.out (by omega) hcs).mono ?_
    rintro e wa2 ⟨ka, rfl, hra, hka, ⟨hka1, hka2⟩, hsa⟩
    rw [HE.out] at hka ⊢
    by_cases h91 : d = 91
    case pos =>
      subst h91
      rw [skipF_hit, ← HL1.out] at hka
      rw [show hitL 91 (91 :: l1) = true from rfl]
      have HRA := Lib.hid hra
      have HKA := Lib.hid hka
      have HSA := Lib.hid hsa
      clear hra hka hsa
      go_wp2_with fail
      refine (numbers_any g ka (l1.length + 1) s 44 44 rfl wa2 HRA.out (by omega) hka2 (by rw [HKA.out, HL1.out]; omega)).mono ?_
      rintro e wb ⟨A1, n1, c1', k1, rfl, ho1, hr1, hd1, ⟨hk1, hk2⟩, hn1, hs1⟩
      rw [HKA.out, HL1.out] at ho1 hd1
      obtain ⟨ns, hns⟩ : ∃ l, (numsF 44 (l1.length + 1) l1).1 = l := ⟨_, rfl⟩
      obtain ⟨rs, hrs⟩ : ∃ l, (numsF 44 (l1.length + 1) l1).2 = l := ⟨_, rfl⟩
      have hcnt := numsF_count 44 (l1.length + 1) l1
      rw [hns, hrs] at hcnt
      rw [hns] at ho1
      rw [hrs] at hd1
      have hsw : w1.heap.size = g + 1 := by rw [← HW1.out, ← HG.out]; simp
      have hgw : g + 1 ≤ wa.heap.size := by have := hsv.out.size; omega
      have hso1 := sout_save (sout_save hso.out HSA.out (by omega) (by omega)) hs1 (by omega) (by omega)
      have hga : g + 1 ≤ wa2.heap.size := Nat.le_trans hgw HSA.out.size
      have hgb : g + 1 ≤ wb.heap.size := Nat.le_trans hga hs1.size
      obtain ⟨A2, c2, wc, hr2, ho2, hb2⟩ := hso1.push 4 ho1.ints (free_int hso1 ho1 hga) rfl hgb (by omega)
      have HR2 := Lib.hid hr2
      have HRC : Hid (RB wc g s k1) := hr1.keepB hb2 (by omega)
      have HSC : Hid (Save g w1 wc) := ((hsv.out.trans HSA.out).trans hs1).then (by rw [hsw]; exact hb2)
      have HOC := Lib.hid ho2
      have HSEG0 : Hid (segF (91 :: l1) = ([(4, ns)], skipF 93 rs)) := by
        show _ = _
        rw [segF, if_neg (by decide), if_pos rfl, hns, hrs]
      have HD1 := Lib.hid hd1
      have hnl : ns.length = n1 := ho1.len
      have hll : l1.length = s.size - (cur + 1) := by rw [← HL1.out, List.length_drop, bsL_len]
      have hrl : rs.length = s.size - k1 := by rw [← HD1.out, List.length_drop, bsL_len]
      clear ho1 hr1 hd1 hs1 hns hrs hr2 ho2 hb2 hso1
      go_wp2_with (at_builtin; refine wpList_append_run rfl _ _ _ rfl rfl rfl HR2.out ?_)
      clear HR2
      go_wp2_with fail
      refine (next_any g k1 s 93 93 rfl wc HRC.out (by omega) hk2).mono ?_
      rintro e wt ⟨kt, rfl, hrt, hdt, ⟨hkt1, hkt2⟩, hst⟩
      rw [HD1.out] at hdt ⊢
      obtain ⟨m2, hm2⟩ : ∃ n, m + 1 = n := ⟨_, rfl⟩
      obtain ⟨rg, hrg⟩ : ∃ r, skipF 93 rs = r := ⟨_, rfl⟩
      rw [hrg] at hdt HSEG0
      obtain ⟨sg, hsg⟩ : ∃ q : Path, [(4, ns)] = q := ⟨_, rfl⟩
      have HWT : Hid (sg.length + (flat sg).length ≤ 3 * (kt - cur)) := by
        show _ ≤ _
        rw [← hsg]
        simp [flat]
        omega
      rw [hsg] at HSEG0 HOC
      have HSEG := HSEG0
      have HRT := Lib.hid hrt
      have HDK := Lib.hid hdt
      have HST : Hid (Save g w1 wt) := HSC.out.trans hst
      have HSO2 : Hid (SOut wt (g + 1) (g + 1) (.slice A2 (m + 1) c2) (m + 1) (p ++ sg)) := sout_save HOC.out hst (by omega) (by omega)
      rw [hm2] at HSO2 ⊢
      clear hrt hdt hst HSEG0 HOC HSC HRC HD1 hrg hsg

      go_wp2_with fail
      refine (next_any g kt s 32 32 rfl wt HRT.out (by omega) hkt2).mono ?_
      rintro e wz ⟨kz, rfl, hrz, hdz, ⟨hkz1, hkz2⟩, hsz⟩
      have HRZ := Lib.hid hrz
      have HSZ : Hid (Save g w1 wz) := HST.out.trans hsz
      have HOZ : Hid (SOut wz (g + 1) (g + 1) (.slice A2 m2 c2) m2 (p ++ sg)) := sout_save HSO2.out hsz (by omega) (by omega)
      rw [HDK.out] at hdz
      have HDZ := Lib.hid hdz
      obtain ⟨z0, z1, z2, z3⟩ := HRZ.out.parts
      clear hrz hdz hsz
      have hlz : (skipF 32 rg).length = s.size - kz := by rw [← HDZ.out, List.length_drop, bsL_len]
      have hlc : (91 :: l1).length = s.size - cur := by rw [← HE.out, List.length_drop, bsL_len]
      by_cases hzc : kz = cur
      case pos =>
        have HF : Hid (refParseR s = ([], 2)) := by
          refine refParse_none ?_
          obtain ⟨f, h1, h2⟩ := hle.out
          obtain ⟨f', rfl⟩ : ∃ f', f = f' + 1 := ⟨f - 1, by omega⟩
          rw [h2, HE.out, lenF, HSEG.out, if_pos (by dsimp only; omega)]
        have HBZ : Hid (Below w.heap.size w wz) := HB0.out.trans ((HSZ.out.below (by rw [← HG.out]; exact HB0.out.size)).mono (Nat.le_of_eq HG.out))
        have dz : ((kz : Int) == (cur : Int)) = true := by simp [hzc]
        clear hle hlz hlc hzc
        go_wp2_with fail
        go_ret2
        rw [HF.out]
        exact ⟨_, _, _, rfl, SOut.nil _ _ _, HBZ.out⟩
      have dz : ((kz : Int) == (cur : Int)) = false := by simp; omega
      have HNX : Hid (∃ f, ((bsL s).drop kz).length < f ∧ lenF (s.size + 1) (bsL s) [] = lenF f ((bsL s).drop kz) (p ++ sg)) := by
        obtain ⟨f, h1, h2⟩ := hle.out
        obtain ⟨f', rfl⟩ : ∃ f', f = f' + 1 := ⟨f - 1, by omega⟩
        rw [HE.out] at h1
        rw [HE.out, lenF, HSEG.out, if_neg (by dsimp only; omega)] at h2
        refine ⟨f', by rw [HDZ.out]; omega, by rw [HDZ.out]; exact h2⟩
      have HPZ : Hid (posOf g wz = kz) := HRZ.out.pos
      have HWZ : Hid ((p ++ sg).length + (flat (p ++ sg)).length ≤ 3 * kz) := by
        have h1 := HWT.out
        show _ ≤ _
        rw [flat_app, List.length_append, List.length_append]
        have h2 := hwt.out
        omega
      clear hle hlz hlc
      go_wp2_with fail
      go_roundw
      case rel => exact ⟨m2, kz, A2, c2, p ++ sg, rfl, ⟨by omega, hkz2⟩, HOZ, HRZ, HSZ, HWZ, HNX⟩
      case measure =>
        rw [HPZ.out, HPO.out]
        omega
    rw [skipF, if_neg h91] at hka
    obtain rfl : cur = ka := by
      have h1 := congrArg List.length (hka.trans HE.out.symm)
      rw [List.length_drop, List.length_drop, bsL_len] at h1
      omega
    rw [show hitL 91 (d :: l1) = false from decide_eq_false h91]
    have hso' := Lib.hid (sout_save hso.out hsa (by omega) (by omega))
    have hsv' := Lib.hid (hsv.out.trans hsa)
    have hrb' := Lib.hid hra
    clear hso hsv hrb
    obtain ⟨hso, hsv, hrb⟩ : _ ∧ _ ∧ _ := ⟨hso', hsv', hrb'⟩
    clear hso' hsv' hrb' hka hsa hra hka1 hka2
    go_wp2_with fail
    refine (next_any g cur s 40 40 rfl wa2 hrb.out (by omega) hcs).mono ?_
    rintro e wa3 ⟨ka, rfl, hra, hka, ⟨hka1, hka2⟩, hsa⟩
    rw [HE.out] at hka ⊢
    by_cases h40 : d = 40
    case pos =>
      subst h40
      rw [skipF_hit, ← HL1.out] at hka
      rw [show hitL 40 (40 :: l1) = true from rfl]
      have HRA := Lib.hid hra
      have HKA := Lib.hid hka
      have HSA := Lib.hid hsa
      clear hra hka hsa
      go_wp2_with fail
      refine (numbers_any g ka (l1.length + 1) s 32 32 rfl wa3 HRA.out (by omega) hka2 (by rw [HKA.out, HL1.out]; omega)).mono ?_
      rintro e wb ⟨A1, n1, c1', k1, rfl, ho1, hr1, hd1, ⟨hk1, hk2⟩, hn1, hs1⟩
      rw [HKA.out, HL1.out] at ho1 hd1
      obtain ⟨ns, hns⟩ : ∃ l, (numsF 32 (l1.length + 1) l1).1 = l := ⟨_, rfl⟩
      obtain ⟨rs, hrs⟩ : ∃ l, (numsF 32 (l1.length + 1) l1).2 = l := ⟨_, rfl⟩
      have hcnt := numsF_count 32 (l1.length + 1) l1
      rw [hns, hrs] at hcnt
      rw [hns] at ho1
      rw [hrs] at hd1
      have hsw : w1.heap.size = g + 1 := by rw [← HW1.out, ← HG.out]; simp
      have hgw : g + 1 ≤ wa2.heap.size := by have := hsv.out.size; omega
      have hso1 := sout_save (sout_save hso.out HSA.out (by omega) (by omega)) hs1 (by omega) (by omega)
      have hga : g + 1 ≤ wa3.heap.size := Nat.le_trans hgw HSA.out.size
      have hgb : g + 1 ≤ wb.heap.size := Nat.le_trans hga hs1.size
      have HNI := Lib.hid ho1.ints
      have HSO1 := Lib.hid hso1
      have hn12 : n1 ≤ 1000000000 := by omega
      have hnl0 : ns.length = n1 := ho1.len
      have HSC1 : Hid (Save g w1 wb) := (hsv.out.trans HSA.out).trans hs1
      have HRB1 := Lib.hid hr1
      have HD1' := Lib.hid hd1
      clear ho1 hr1 hd1 hs1 hso1
      go_wp2_with fail
      refine (refSequences_any 3 A1 n1 c1' _ ns wb HNI.out (Nat.le_refl _) (by omega)).mono ?_
      rintro e wq ⟨A3, m3, c3, rfl, ho3, hb3⟩
      have hm3 := ho3.len
      have hm3q := seqs_len 3 _ ns (Nat.le_refl _)
      have hgq : g + 1 ≤ wq.heap.size := Nat.le_trans hgb hb3.size
      obtain ⟨A2, c2, wc, hr2, ho2, hb2, _⟩ := (HSO1.out.below hb3).appendK hgq (by omega) (fsegs_new ho3 (fun k hk => (HSO1.out.block k hk).2) hgb)
      have hr1 := HRB1.out.keep hb3
      have hs1 := HSC1.out.trans (Save.of hb3)
      have hd1 := HD1'.out
      have HR2 := Lib.hid hr2
      have HRC : Hid (RB wc g s k1) := hr1.keepB hb2 (by omega)
      have HSC : Hid (Save g w1 wc) := hs1.then (by rw [hsw]; exact hb2)
      have HOC := Lib.hid ho2
      have HSEG0 : Hid (segF (40 :: l1) = (seqs 3 ns, skipF 41 rs)) := by
        show _ = _
        rw [segF, if_neg (by decide), if_neg (by decide), if_pos rfl, hns, hrs]
      have HD1 := Lib.hid hd1
      have hnl := hnl0
      have hll : l1.length = s.size - (cur + 1) := by rw [← HL1.out, List.length_drop, bsL_len]
      have hrl : rs.length = s.size - k1 := by rw [← HD1.out, List.length_drop, bsL_len]
      clear hr1 hd1 hs1 hns hrs hr2 ho2 hb2 ho3 hb3
      go_wp2_with (at_builtin; refine wpList_append_run rfl _ _ _ rfl rfl rfl HR2.out ?_)
      clear HR2
      go_wp2_with fail
      refine (next_any g k1 s 41 41 rfl wc HRC.out (by omega) hk2).mono ?_
      rintro e wt ⟨kt, rfl, hrt, hdt, ⟨hkt1, hkt2⟩, hst⟩
      rw [HD1.out] at hdt ⊢
      obtain ⟨m2, hm2⟩ : ∃ n, m + m3 = n := ⟨_, rfl⟩
      obtain ⟨rg, hrg⟩ : ∃ r, skipF 41 rs = r := ⟨_, rfl⟩
      rw [hrg] at hdt HSEG0
      obtain ⟨sg, hsg⟩ : ∃ q : Path, seqs 3 ns = q := ⟨_, rfl⟩
      have HWT : Hid (sg.length + (flat sg).length ≤ 3 * (kt - cur)) := by
        show _ ≤ _
        rw [← hsg]
        have := seqs_size 3 ns
        omega
      rw [hsg] at HSEG0 HOC
      have HSEG := HSEG0
      have HRT := Lib.hid hrt
      have HDK := Lib.hid hdt
      have HST : Hid (Save g w1 wt) := HSC.out.trans hst
      have HSO2 : Hid (SOut wt (g + 1) (g + 1) (.slice A2 (m + m3) c2) (m + m3) (p ++ sg)) := sout_save HOC.out hst (by omega) (by omega)
      rw [hm2] at HSO2 ⊢
      clear hrt hdt hst HSEG0 HOC HSC HRC HD1 hrg hsg

      go_wp2_with fail
      refine (next_any g kt s 32 32 rfl wt HRT.out (by omega) hkt2).mono ?_
      rintro e wz ⟨kz, rfl, hrz, hdz, ⟨hkz1, hkz2⟩, hsz⟩
      have HRZ := Lib.hid hrz
      have HSZ : Hid (Save g w1 wz) := HST.out.trans hsz
      have HOZ : Hid (SOut wz (g + 1) (g + 1) (.slice A2 m2 c2) m2 (p ++ sg)) := sout_save HSO2.out hsz (by omega) (by omega)
      rw [HDK.out] at hdz
      have HDZ := Lib.hid hdz
      obtain ⟨z0, z1, z2, z3⟩ := HRZ.out.parts
      clear hrz hdz hsz
      have hlz : (skipF 32 rg).length = s.size - kz := by rw [← HDZ.out, List.length_drop, bsL_len]
      have hlc : (40 :: l1).length = s.size - cur := by rw [← HE.out, List.length_drop, bsL_len]
      by_cases hzc : kz = cur
      case pos =>
        have HF : Hid (refParseR s = ([], 2)) := by
          refine refParse_none ?_
          obtain ⟨f, h1, h2⟩ := hle.out
          obtain ⟨f', rfl⟩ : ∃ f', f = f' + 1 := ⟨f - 1, by omega⟩
          rw [h2, HE.out, lenF, HSEG.out, if_pos (by dsimp only; omega)]
        have HBZ : Hid (Below w.heap.size w wz) := HB0.out.trans ((HSZ.out.below (by rw [← HG.out]; exact HB0.out.size)).mono (Nat.le_of_eq HG.out))
        have dz : ((kz : Int) == (cur : Int)) = true := by simp [hzc]
        clear hle hlz hlc hzc
        go_wp2_with fail
        go_ret2
        rw [HF.out]
        exact ⟨_, _, _, rfl, SOut.nil _ _ _, HBZ.out⟩
      have dz : ((kz : Int) == (cur : Int)) = false := by simp; omega
      have HNX : Hid (∃ f, ((bsL s).drop kz).length < f ∧ lenF (s.size + 1) (bsL s) [] = lenF f ((bsL s).drop kz) (p ++ sg)) := by
        obtain ⟨f, h1, h2⟩ := hle.out
        obtain ⟨f', rfl⟩ : ∃ f', f = f' + 1 := ⟨f - 1, by omega⟩
        rw [HE.out] at h1
        rw [HE.out, lenF, HSEG.out, if_neg (by dsimp only; omega)] at h2
        refine ⟨f', by rw [HDZ.out]; omega, by rw [HDZ.out]; exact h2⟩
      have HPZ : Hid (posOf g wz = kz) := HRZ.out.pos
      have HWZ : Hid ((p ++ sg).length + (flat (p ++ sg)).length ≤ 3 * kz) := by
        have h1 := HWT.out
        show _ ≤ _
        rw [flat_app, List.length_append, List.length_append]
        have h2 := hwt.out
        omega
      clear hle hlz hlc
      go_wp2_with fail
      go_roundw
      case rel => exact ⟨m2, kz, A2, c2, p ++ sg, rfl, ⟨by omega, hkz2⟩, HOZ, HRZ, HSZ, HWZ, HNX⟩
      case measure =>
        rw [HPZ.out, HPO.out]
        omega
    rw [skipF, if_neg h40] at hka
    obtain rfl : cur = ka := by
      have h1 := congrArg List.length (hka.trans HE.out.symm)
      rw [List.length_drop, List.length_drop, bsL_len] at h1
      omega
    rw [show hitL 40 (d :: l1) = false from decide_eq_false h40]
    have hso' := Lib.hid (sout_save hso.out hsa (by omega) (by omega))
    have hsv' := Lib.hid (hsv.out.trans hsa)
    have hrb' := Lib.hid hra
    clear hso hsv hrb
    obtain ⟨hso, hsv, hrb⟩ : _ ∧ _ ∧ _ := ⟨hso', hsv', hrb'⟩
    clear hso' hsv' hrb' hka hsa hra hka1 hka2
    go_wp2_with fail
    refine (numbers_any g cur ((d :: l1).length + 1) s 32 32 rfl wa3 hrb.out (by omega) hcs (by rw [HE.out]; omega)).mono ?_
    rintro e wb ⟨A1, n1, c1', k1, rfl, ho1, hr1, hd1, ⟨hk1, hk2⟩, hn1, hs1⟩
    rw [HE.out] at ho1 hd1
    obtain ⟨ns, hns⟩ : ∃ l, (numsF 32 ((d :: l1).length + 1) (d :: l1)).1 = l := ⟨_, rfl⟩
    obtain ⟨rs, hrs⟩ : ∃ l, (numsF 32 ((d :: l1).length + 1) (d :: l1)).2 = l := ⟨_, rfl⟩
    have hcnt := numsF_count 32 ((d :: l1).length + 1) (d :: l1)
    rw [hns, hrs] at hcnt
    rw [hns] at ho1
    rw [hrs] at hd1
    have hsw : w1.heap.size = g + 1 := by rw [← HW1.out, ← HG.out]; simp
    have hgw : g + 1 ≤ wa3.heap.size := by have := hsv.out.size; omega
    have hso1 := sout_save hso.out hs1 (by omega) (by omega)
    have hga : g + 1 ≤ wa3.heap.size := hgw
    have hgb : g + 1 ≤ wb.heap.size := Nat.le_trans hga hs1.size
    have HNI := Lib.hid ho1.ints
    have HSO1 := Lib.hid hso1
    have hn12 : n1 ≤ 1000000000 := by omega
    have hnl0 : ns.length = n1 := ho1.len
    have HSC1 : Hid (Save g w1 wb) := hsv.out.trans hs1
    have HRB1 := Lib.hid hr1
    have HD1' := Lib.hid hd1
    clear ho1 hr1 hd1 hs1 hso1
    go_wp2_with fail
    refine (refSequences_any 2 A1 n1 c1' _ ns wb HNI.out (Nat.le_refl _) (by omega)).mono ?_
    rintro e wq ⟨A3, m3, c3, rfl, ho3, hb3⟩
    have hm3 := ho3.len
    have hm3q := seqs_len 2 _ ns (Nat.le_refl _)
    have hgq : g + 1 ≤ wq.heap.size := Nat.le_trans hgb hb3.size
    obtain ⟨A2, c2, wc, hr2, ho2, hb2, _⟩ := (HSO1.out.below hb3).appendK hgq (by omega) (fsegs_new ho3 (fun k hk => (HSO1.out.block k hk).2) hgb)
    have hr1 := HRB1.out.keep hb3
    have hs1 := HSC1.out.trans (Save.of hb3)
    have hd1 := HD1'.out
    have HR2 := Lib.hid hr2
    have HRC : Hid (RB wc g s k1) := hr1.keepB hb2 (by omega)
    have HSC : Hid (Save g w1 wc) := hs1.then (by rw [hsw]; exact hb2)
    have HOC := Lib.hid ho2
    have HSEG0 : Hid (segF (d :: l1) = (seqs 2 ns, rs)) := by
      show _ = _
      rw [segF, if_neg h123, if_neg h91, if_neg h40, hns, hrs]
    have HD1 := Lib.hid hd1
    have hnl := hnl0
    have hll : l1.length = s.size - (cur + 1) := by rw [← HL1.out, List.length_drop, bsL_len]
    have hrl : rs.length = s.size - k1 := by rw [← HD1.out, List.length_drop, bsL_len]
    clear hr1 hd1 hs1 hns hrs hr2 ho2 hb2 ho3 hb3
    go_wp2_with (at_builtin; refine wpList_append_run rfl _ _ _ rfl rfl rfl HR2.out ?_)
    clear HR2
    have hdt := HD1.out
    have hrt := HRC.out
    have hkt1 : cur ≤ k1 := hk1
    have hkt2 := hk2
    have hlcc : (d :: l1).length = l1.length + 1 := List.length_cons
    obtain ⟨m2, hm2⟩ : ∃ n, m + m3 = n := ⟨_, rfl⟩
    obtain ⟨rg, hrg⟩ : ∃ r, rs = r := ⟨_, rfl⟩
    rw [hrg] at hdt HSEG0
    obtain ⟨sg, hsg⟩ : ∃ q : Path, seqs 2 ns = q := ⟨_, rfl⟩
    have HWT : Hid (sg.length + (flat sg).length ≤ 3 * (k1 - cur)) := by
      show _ ≤ _
      rw [← hsg]
      have := seqs_size 2 ns
      omega
    rw [hsg] at HSEG0 HOC
    have HSEG := HSEG0
    have HRT := Lib.hid hrt
    have HDK := Lib.hid hdt
    have HST := HSC
    have HSO2 : Hid (SOut wc (g + 1) (g + 1) (.slice A2 (m + m3) c2) (m + m3) (p ++ sg)) := HOC.out
    rw [hm2] at HSO2 ⊢
    clear hrt hdt HSEG0 HOC HSC HRC HD1 hrg hsg

    go_wp2_with fail
    refine (next_any g k1 s 32 32 rfl wc HRT.out (by omega) hkt2).mono ?_
    rintro e wz ⟨kz, rfl, hrz, hdz, ⟨hkz1, hkz2⟩, hsz⟩
    have HRZ := Lib.hid hrz
    have HSZ : Hid (Save g w1 wz) := HST.out.trans hsz
    have HOZ : Hid (SOut wz (g + 1) (g + 1) (.slice A2 m2 c2) m2 (p ++ sg)) := sout_save HSO2.out hsz (by omega) (by omega)
    rw [HDK.out] at hdz
    have HDZ := Lib.hid hdz
    obtain ⟨z0, z1, z2, z3⟩ := HRZ.out.parts
    clear hrz hdz hsz
    have hlz : (skipF 32 rg).length = s.size - kz := by rw [← HDZ.out, List.length_drop, bsL_len]
    have hlc : (d :: l1).length = s.size - cur := by rw [← HE.out, List.length_drop, bsL_len]
    by_cases hzc : kz = cur
    case pos =>
      have HF : Hid (refParseR s = ([], 2)) := by
        refine refParse_none ?_
        obtain ⟨f, h1, h2⟩ := hle.out
        obtain ⟨f', rfl⟩ : ∃ f', f = f' + 1 := ⟨f - 1, by omega⟩
        rw [h2, HE.out, lenF, HSEG.out, if_pos (by dsimp only; omega)]
      have HBZ : Hid (Below w.heap.size w wz) := HB0.out.trans ((HSZ.out.below (by rw [← HG.out]; exact HB0.out.size)).mono (Nat.le_of_eq HG.out))
      have dz : ((kz : Int) == (cur : Int)) = true := by simp [hzc]
      clear hle hlz hlc hzc
      go_wp2_with fail
      go_ret2
      rw [HF.out]
      exact ⟨_, _, _, rfl, SOut.nil _ _ _, HBZ.out⟩
    have dz : ((kz : Int) == (cur : Int)) = false := by simp; omega
    have HNX : Hid (∃ f, ((bsL s).drop kz).length < f ∧ lenF (s.size + 1) (bsL s) [] = lenF f ((bsL s).drop kz) (p ++ sg)) := by
      obtain ⟨f, h1, h2⟩ := hle.out
      obtain ⟨f', rfl⟩ : ∃ f', f = f' + 1 := ⟨f - 1, by omega⟩
      rw [HE.out] at h1
      rw [HE.out, lenF, HSEG.out, if_neg (by dsimp only; omega)] at h2
      refine ⟨f', by rw [HDZ.out]; omega, by rw [HDZ.out]; exact h2⟩
    have HPZ : Hid (posOf g wz = kz) := HRZ.out.pos
    have HWZ : Hid ((p ++ sg).length + (flat (p ++ sg)).length ≤ 3 * kz) := by
      have h1 := HWT.out
      show _ ≤ _
      rw [flat_app, List.length_append, List.length_append]
      have h2 := hwt.out
      omega
    clear hle hlz hlc
    go_wp2_with fail
    go_roundw
    case rel => exact ⟨m2, kz, A2, c2, p ++ sg, rfl, ⟨by omega, hkz2⟩, HOZ, HRZ, HSZ, HWZ, HNX⟩
    case measure =>
      rw [HPZ.out, HPO.out]
      omega
end Go.Proofs.YteohdanlcaoaiaaDoor
