/- Parse: the program's. -/
import Derived.Test.YteohdanlcaoaiaaDoorWordWalk
namespace Go.Proofs.YteohdanlcaoaiaaDoor
open Go.RowKit

theorem jl_mem_le {p : List UInt8} : ∀ {l : List (List UInt8)}, p ∈ l → p.length ≤ (jl l).length
  | [], h => by cases h
  | [x], h => by
    obtain rfl : p = x := by simpa using h
    exact Nat.le_refl _
  | x :: y :: r, h => by
    rw [jl, List.length_append, List.length_cons]
    rcases List.mem_cons.1 h with rfl | h
    · omega
    · have := jl_mem_le h
      omega
theorem jl_count : ∀ l : List (List UInt8), l.length ≤ (jl l).length + 1
  | [] => by simp
  | [x] => by simp
  | x :: y :: r => by
    have := jl_count (y :: r)
    rw [jl]
    simp only [List.length_append, List.length_cons] at this ⊢
    omega
theorem words_full {s : ByteArray} {ps : List ByteArray} {e : Int} (h : wordsR s = (ps, e)) : ∀ p ∈ ps, ¬ p.size = 0 := by
  by_cases h0 : s.size = 0
  · rw [wordsR_nil h0] at h
    obtain rfl := (congrArg Prod.fst h).symm
    intro p hp
    cases hp
  · by_cases h1 : 0 ≤ Lib.indexByte s.data.toList 10
    · rw [wordsR_lf h0 h1] at h
      obtain rfl := (congrArg Prod.fst h).symm
      intro p hp
      cases hp
    · by_cases h2 : ∀ p ∈ pieces s, ¬ p.size = 0
      · rw [wordsR_ok h0 h1 h2] at h
        obtain rfl := (congrArg Prod.fst h).symm
        exact h2
      · simp only [Classical.not_forall, Classical.not_not] at h2
        obtain ⟨p, hp, hz⟩ := h2
        rw [wordsR_gap h0 h1 hp hz] at h
        obtain rfl := (congrArg Prod.fst h).symm
        intro p hp
        cases hp
theorem take_word {ps : List ByteArray} {k : Nat} {p : ByteArray} (h : ps[k]? = some p) : dB (ps.take (k + 1)) = dB (ps.take k) ++ [p.data.toList] := by
  obtain ⟨hk, rfl⟩ := List.getElem?_eq_some_iff.1 h
  rw [List.take_succ_eq_append_getElem hk]
  unfold dB
  rw [List.map_append]
  rfl
/-- one more word -/
theorem fold_next {ps : List ByteArray} {k : Nat} {p : ByteArray} {st st' : PStt} (h : ps[k]? = some p) (hf : foldW ([], [], false) (dB (ps.take k)) = some st) (hs : wordStep st p.data.toList = some st') : foldW ([], [], false) (dB (ps.take (k + 1))) = some st' := by
  rw [take_word h, foldW_app, hf]
  simp only [foldW, hs]
theorem fold_stop {ps : List ByteArray} {k : Nat} {p : ByteArray} {st : PStt} (h : ps[k]? = some p) (hf : foldW ([], [], false) (dB (ps.take k)) = some st) (hs : wordStep st p.data.toList = none) : foldW ([], [], false) (dB ps) = none := by
  have e : ps = ps.take (k + 1) ++ ps.drop (k + 1) := (List.take_append_drop _ _).symm
  have e2 : dB ps = dB (ps.take (k + 1)) ++ dB (ps.drop (k + 1)) := by
    conv => lhs; rw [e]
    unfold dB
    rw [List.map_append]
  have e3 : foldW ([], [], false) (dB (ps.take (k + 1))) = none := by
    rw [take_word h, foldW_app, hf]
    simp only [foldW, hs]
  rw [e2, foldW_app, e3]
theorem fold_wt {s : ByteArray} {ps : List ByteArray} {e : Int} {st : PStt} {k : Nat} (h : wordsR s = (ps, e)) (hj : (jl (dB ps)).length ≤ s.size) (hf : foldW ([], [], false) (dB (ps.take k)) = some st) : wt st ≤ s.size + 1 := by
  have h1 := wt_fold (fun w hw => by
    obtain ⟨p, hp, rfl⟩ := List.mem_map.1 hw
    have := words_full h p (List.mem_of_mem_take hp)
    intro hh
    exact this (by rw [size_list, hh]; rfl)) hf
  have h2 := jl_take_le (dB ps) k
  have h3 : dB (ps.take k) = (dB ps).take k := by unfold dB; rw [List.map_take]
  rw [h3] at h1
  have h0 : wt ([], [], false) = 0 := rfl
  omega
theorem wt_parts (st : PStt) : st.1.length + st.2.1.length ≤ wt st ∧ st.1.length + (flat st.1).length ≤ wt st := by unfold wt; omega
section
variable {s : ByteArray} {ps : List ByteArray}
theorem parseR_words {e : Int} (h : wordsR s = (ps, e)) (he : e ≠ 0) : parseR s = ([], 2) := by
  unfold parseR
  rw [h, if_pos he]
theorem parseR_none (h : wordsR s = (ps, 0)) (hf : foldW ([], [], false) (dB ps) = none) : parseR s = ([], 2) := by
  unfold parseR
  rw [h, if_neg (fun g => g rfl), hf]
theorem parseR_open (h : wordsR s = (ps, 0)) {p : Path} {run : List Int} (hf : foldW ([], [], false) (dB ps) = some (p, run, true)) : parseR s = ([], 2) := by
  unfold parseR
  rw [h, if_neg (fun g => g rfl), hf]
  simp
theorem parseR_text (h : wordsR s = (ps, 0)) {p : Path} {run : List Int} (hf : foldW ([], [], false) (dB ps) = some (p, run, false)) {t : List UInt8} {e : Int} (ht : textR (p ++ seqs 2 run) = (t, e)) :
    parseR s = if e = 0 ∧ strB t = s then (p ++ seqs 2 run, 0) else ([], 2) := by
  unfold parseR
  rw [h, if_neg (fun g => g rfl), hf]
  simp only
  rw [if_neg (by simp), ht]
  by_cases hc : e = 0 ∧ strB t = s
  · rw [if_pos hc, if_pos]
    rw [← hc.2, strB_list, hc.1]
  · rw [if_neg hc, if_neg]
    intro h1
    simp only [Prod.mk.injEq] at h1
    exact hc ⟨h1.2, (strB_of h1.1.symm).symm⟩
end
set_option linter.unusedSimpArgs false in
set_option maxRecDepth 100000 in
set_option maxHeartbeats 4000000 in
theorem parse_any (s : ByteArray) (w : World) (hs : s.size ≤ 200000) (henv : Env w) :
    Calls Tryd.prog 35 #[.string s] w (GivesPathErr (parseR s) w) := by
  have HENV := Lib.hid henv
  clear henv
  go_enter Tryd.func35, Tryd.ntmps35
  go_wp2_with fail
  refine (words_any s w (by omega) HENV.out).mono ?_
  rintro e w1 ⟨A1, n1, c1, rfl, hst1, hb1⟩
  obtain ⟨⟨ps, er⟩, hws⟩ : ∃ q, wordsR s = q := ⟨_, rfl⟩
  rw [hws] at hst1 ⊢
  dsimp only at hst1 ⊢
  have HWS := Lib.hid hws
  have HST := Lib.hid hst1
  have HB1 := Lib.hid hb1
  clear hst1 hb1
  by_cases he : er = 0
  case neg =>
    have HF := Lib.hid (parseR_words hws he)
    have d : (er != 0) = true := by simp [he]
    clear he hws
    go_wp2
    go_ret2
    rw [HF.out]
    exact ⟨_, _, _, rfl, SOut.nil _ _ _, HB1.out⟩
  subst he
  have hjl : (jl (dB ps)).length ≤ s.size := by rw [words_joined hws, size_list]; exact Nat.le_refl _
  have HJL := Lib.hid hjl
  have hnl : ps.length = n1 := HST.out.len
  have HNL := Lib.hid hnl
  have hn1 : n1 ≤ 200001 := by
    have h1 := jl_count (dB ps)
    have h2 : (dB ps).length = ps.length := List.length_map _
    omega
  obtain ⟨g, hg⟩ : ∃ g, w1.heap.size = g := ⟨_, rfl⟩
  have HP0 : Hid (PS (w1.alloc (.cells #[.slice none 0 0, .slice none 0 0, .bool false] 60)) g ([], [], false)) := by rw [← hg]; exact PS.new w1
  have HB2 : Hid (Below g w1 (w1.alloc (.cells #[.slice none 0 0, .slice none 0 0, .bool false] 60))) := by rw [← hg]; exact belowA _ _
  have hgw : w.heap.size ≤ g := by rw [← hg]; exact HB1.out.size
  have HG := Lib.hid hg
  clear hws hjl hnl
  go_wp2
  clear hg
  go_loopw [22] (fun iv wr => ∃ (k : Nat) (st : PStt), k ≤ n1 ∧ iv = .int .i64 k ∧ Hid (foldW ([], [], false) (dB (ps.take k)) = some st) ∧ Hid (PS wr g st) ∧ Hid (Below g w1 wr)) (fun iv _ => n1 - (intOf iv).toNat)
  case atStart => exact ⟨0, _, Nat.zero_le _, rfl, rfl, HP0, HB2⟩
  case round =>
    obtain ⟨k, st, hk, rfl, hf, hp, hbw⟩ := hrel
    have hwt := fold_wt HWS.out HJL.out hf.out
    have hwp := wt_parts st
    by_cases hlt : k < n1
    · obtain ⟨b, o, pw, rfl, hbB, g0, hpw⟩ := HST.out.cell hlt
      have hbg : b < g := by rw [← HG.out]; exact hbB
      have r0 : wr.cell? ⟨b, o + k, none⟩ = some (.string pw) := (hbw.out.cell (p := ⟨b, o + k, none⟩) hbg).trans g0
      have hmem := List.mem_of_getElem? hpw.out
      have hpz := words_full HWS.out pw hmem
      have hps : pw.size ≤ 1000000 := by
        have h1 := jl_mem_le (p := pw.data.toList) (l := dB ps) (List.mem_map.2 ⟨pw, hmem, rfl⟩)
        have h2 := HJL.out
        rw [size_list]
        omega
      have HW := Lib.hid (parserWord_any g st pw wr hp.out hpz hps (by omega))
      obtain ⟨r, hr⟩ : ∃ r, wordStep st pw.data.toList = r := ⟨_, rfl⟩
      rw [hr] at HW
      cases r with
      | none =>
        have HF := Lib.hid (parseR_none HWS.out (fold_stop hpw.out hf.out hr))
        clear g0 hpz hps hr hmem hpw hf hp hwt hwp
        go_wp2_with fail
        refine HW.out.mono ?_
        rintro e w3 ⟨rfl, hb3⟩
        have HB3 := Lib.hid (HB1.out.trans ((hbw.out.trans hb3).mono hgw))
        clear hb3
        go_wp2
        go_ret2
        rw [HF.out]
        exact ⟨_, _, _, rfl, SOut.nil _ _ _, HB3.out⟩
      | some st' =>
        have HN := Lib.hid (fold_next hpw.out hf.out hr)
        clear g0 hpz hps hr hmem hpw hf hp hwt hwp
        go_wp2_with fail
        refine HW.out.mono ?_
        rintro e w3 ⟨rfl, hp3, hb3⟩
        have HP3 := Lib.hid hp3
        have HB3 := Lib.hid (hbw.out.trans hb3)
        clear hp3 hb3
        go_wp2
        go_roundw
        case rel => exact ⟨k + 1, st', by omega, by go_num, HN, HP3, HB3⟩
        case measure => simp [intOf]; omega
    · obtain rfl : k = n1 := by omega
      have htk : ps.take k = ps := List.take_of_length_le (Nat.le_of_eq HNL.out)
      rw [htk] at hf
      obtain ⟨P, R, op⟩ := st
      dsimp only at hwp
      obtain ⟨Ap, pm, cp, Ar, cr, _, _, _, v0, v1, v2, v3, v4, v5, v6, _⟩ := hp.out.parts
      dsimp only at v1 v2
      have HBW := Lib.hid (HB1.out.trans (hbw.out.mono hgw))
      clear htk
      cases op with
      | true =>
        have HF := Lib.hid (parseR_open HWS.out hf.out)
        clear hf hp hwt hwp
        go_wp2
        go_ret2
        rw [HF.out]
        exact ⟨_, _, _, rfl, SOut.nil _ _ _, HBW.out⟩
      | false =>
      go_wp2_with fail
      refine (flush_any g 2 _ _ hp.out (by dsimp only; omega)).mono ?_
      rintro e w4 ⟨rfl, hp4, hb4, _⟩
      dsimp only at hp4
      have hfl := wt_flush P R 2 false
      obtain ⟨Q, hQ⟩ : ∃ Q, P ++ seqs 2 R = Q := ⟨_, rfl⟩
      have hsmq : Sm Q := by
        rw [hQ] at hfl
        have h1 := (wt_parts (Q, ([] : List Int), false)).2
        dsimp only at h1
        unfold wt at hwt
        dsimp only at hwt
        unfold Sm
        omega
      obtain ⟨⟨tx, te⟩, htx⟩ : ∃ q, textR Q = q := ⟨_, rfl⟩
      have HPT := Lib.hid (parseR_text HWS.out hf.out (t := tx) (e := te) (by rw [hQ]; exact htx))
      rw [hQ] at HPT hp4
      obtain ⟨Bp, bm, bp, Br, br, _, hso4, _, z0, z1, z2, z3, z4, z5, z6, _⟩ := hp4.parts
      dsimp only at z1 z2 hso4
      have HSO4 := Lib.hid hso4
      have HB4 := Lib.hid (HB1.out.trans ((hbw.out.trans hb4).mono hgw))
      have HTX := Lib.hid (text_any Bp bm bp Q w4 hso4.segs hsmq (HENV.out.below HB4.out))
      rw [htx] at HTX
      clear hf hp hwt hwp hfl hQ hsmq htx hp4 hso4 hb4 v0 v1 v2 v3 v4 v5 v6
      go_wp2_with fail
      refine HTX.out.mono ?_
      rintro e w5 ⟨rfl, hb5⟩
      dsimp only
      have q0 : w5.cell? ⟨g, 0, none⟩ = some (.slice Bp bm bp) := (hb5.cell (p := ⟨g, 0, none⟩) z6).trans z0
      have HSO5 : Hid (SOut w5 w.heap.size w.heap.size (.slice Bp bm bp) bm Q) := (HSO4.out.below hb5).mono (by omega) (by omega)
      have HB5 := Lib.hid (below3 HB4.out hb5)
      have q6 : g < w5.heap.size := Nat.lt_of_lt_of_le z6 hb5.size
      obtain ⟨tb, htb⟩ : ∃ b, strB tx = b := ⟨_, rfl⟩
      rw [htb] at HPT ⊢
      clear hb5 htb z0 z1 z2 z3 z4 z5 z6
      by_cases h0 : te = 0
      case neg =>
        have d : (te != 0) = true := by simp [h0]
        have HF : Hid (parseR s = ([], 2)) := by show _ = _; rw [HPT.out, if_neg (fun h => h0 h.1)]
        clear h0
        go_wp2
        go_ret2
        rw [HF.out]
        exact ⟨_, _, _, rfl, SOut.nil _ _ _, HB5.out⟩
      subst h0
      by_cases hts : tb = s
      · have HF : Hid (parseR s = (Q, 0)) := by show _ = _; rw [HPT.out, if_pos ⟨rfl, hts⟩]
        subst hts
        go_wp2
        go_ret2
        rw [HF.out]
        exact ⟨_, _, _, rfl, HSO5.out, HB5.out⟩
      · have HF : Hid (parseR s = ([], 2)) := by show _ = _; rw [HPT.out, if_neg (fun h => hts h.2)]
        have d3 : ¬ tb.toList = s.toList := fun h => hts (bytes_ext (by rw [← Lib.toList_data, ← Lib.toList_data, h]))
        have d4 : (tb.toList != s.toList) = true := by simp [d3]
        have d5 : (tb.toList == s.toList) = false := by simp [d3]
        go_wp2
        go_ret2
        rw [HF.out]
        exact ⟨_, _, _, rfl, SOut.nil _ _ _, HB5.out⟩
end Go.Proofs.YteohdanlcaoaiaaDoor
