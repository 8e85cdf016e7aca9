/- word: one word of a text. -/
import Derived.Test.YteohdanlcaoaiaaDoorFlush
namespace Go.Proofs.YteohdanlcaoaiaaDoor
open Go.RowKit

def WPost (g : Nat) (r : Option PStt) (w : World) (e : Ending) (w' : World) : Prop := match r with
  | none => e = .returned (.bool false) ∧ Below g w w'
  | some st' => e = .returned (.bool true) ∧ PS w' g st' ∧ Below g w w'
theorem WPost.no {g : Nat} {r : Option PStt} {w w' : World} (hr : r = none) (hb : Below g w w') : WPost g r w (.returned (.bool false)) w' := by rw [hr]; exact ⟨rfl, hb⟩
theorem WPost.yes {g : Nat} {r : Option PStt} {st : PStt} {w w' : World} (hr : r = some st) (hp : PS w' g st) (hb : Below g w w') : WPost g r w (.returned (.bool true)) w' := by rw [hr]; exact ⟨rfl, hp, hb⟩
theorem u8_int (c : UInt8) (k : UInt8) : c = k ↔ (c.toNat : Int) = (k.toNat : Int) := by
  constructor
  · intro h; rw [h]
  · intro h; exact UInt8.toNat_inj.1 (by omega)
theorem head_at {s : ByteArray} (h : 0 < s.size) : s.data.toList.head? = some s[0] := by rw [List.head?_eq_getElem?]; exact at_toList h
theorem last_at {s : ByteArray} (h : s.size - 1 < s.size) : s.data.toList.getLast? = some s[s.size - 1] := by
  rw [List.getLast?_eq_getElem?, ← size_list]
  exact at_toList h
theorem opt_u8 {c : UInt8} {y : Int} (h : (c.toNat : Int) = y) (k : UInt8) : (some c = some k) ↔ y = (k.toNat : Int) := by
  rw [Option.some.injEq, u8_int, h]
theorem isSetW_int {s : ByteArray} {c0 cl : UInt8} {y0 yl : Int} (h0 : s.data.toList.head? = some c0) (hl : s.data.toList.getLast? = some cl) (e0 : (c0.toNat : Int) = y0) (el : (cl.toNat : Int) = yl) : isSetW s.data.toList = decide ((y0 = 123 ∧ yl = 125) ∨ (y0 = 91 ∧ yl = 93)) := by
  unfold isSetW
  rw [h0, hl]
  congr 1
  rw [opt_u8 e0, opt_u8 e0, opt_u8 el, opt_u8 el]
  rfl
theorem mid_list (s : ByteArray) : (s.extract 1 (s.size - 1)).data.toList = (s.data.toList.drop 1).dropLast := by
  rw [ext_list, List.dropLast_eq_take, List.length_drop, ← size_list]
theorem tail_list (s : ByteArray) : (s.extract 1 s.size).data.toList = s.data.toList.drop 1 := by
  rw [ext_list, List.take_of_length_le (by rw [List.length_drop, size_list]; exact Nat.le_refl _)]
theorem init_list (s : ByteArray) : (s.extract 0 (s.size - 1)).data.toList = s.data.toList.dropLast := by
  rw [ext_list, List.drop_zero, List.dropLast_eq_take, ← size_list]
  rfl
theorem ext_tail_size (s : ByteArray) : (s.extract 1 s.size).size = s.size - 1 := by rw [size_list, tail_list, List.length_drop, ← size_list]
/-- own numbers may be appended to the path -/
theorem free_int {w : World} {base base2 pm n c lo : Nat} {pv : Value} {ts : Path} {A : Option Addr} {xs : List Int} (h : SOut w base lo pv pm ts) (ho : Own w base2 3 .i64 (.slice A n c) n xs) (hl : lo ≤ base2) : Free lo pv A n := by
  obtain ⟨fs, h1, _⟩ := h
  intro hn ad ha
  have h2 := World.ownsRow.lt ho ad.block (by rw [ha]; rfl)
  refine ⟨by omega, fun hk => ?_⟩
  rcases rows_apart h1 ho (by decide) with h3 | h3
  · rw [h3] at hk; cases hk
  · exact h3 (by rw [hk, ha]; rfl)
theorem PS.lt {w : World} {g : Nat} {st : PStt} (h : PS w g st) : g < w.heap.size := by
  obtain ⟨_, _, _, _, h1, _⟩ := h
  exact heap_lt h1
set_option linter.unusedSimpArgs false in
set_option maxRecDepth 100000 in
set_option maxHeartbeats 8000000 in
theorem parserWord_any (g : Nat) (st : PStt) (s : ByteArray) (w : World) (h : PS w g st) (h0 : ¬ s.size = 0) (hs : s.size ≤ 1000000) (hl : st.1.length + st.2.1.length ≤ 500000000) :
    Calls Tryd.prog 54 #[.pointer (some ⟨g, 0, none⟩), .string s] w (WPost g (wordStep st s.data.toList) w) := by
  obtain ⟨p, run, op⟩ := st
  dsimp only at hl
  have HW0 := Lib.hid h
  have h00 : 0 < s.size := by omega
  have h0I : (0 : Int) < (s.size : Int) := by omega
  have hn1 : s.size - 1 < s.size := by omega
  obtain ⟨c0, hc0⟩ : ∃ c, s[0] = c := ⟨_, rfl⟩
  obtain ⟨cz, hcz⟩ : ∃ c, s[s.size - 1] = c := ⟨_, rfl⟩
  obtain ⟨y0, hy0⟩ : ∃ y, (c0.toNat : Int) = y := ⟨_, rfl⟩
  obtain ⟨yl, hyl⟩ : ∃ y, (cz.toNat : Int) = y := ⟨_, rfl⟩
  have HH0 : Hid (s.data.toList.head? = some c0) := by show _ = _; rw [head_at h00, hc0]
  have HHL : Hid (s.data.toList.getLast? = some cz) := by show _ = _; rw [last_at hn1, hcz]
  have HY0 := Lib.hid hy0
  have HYL := Lib.hid hyl
  have HIS := Lib.hid (isSetW_int HH0.out HHL.out hy0 hyl)
  have hwn : IntKind.i64.wrap ((s.size : Int) - 1) = ((s.size - 1 : Nat) : Int) := by rw [show (s.size : Int) - 1 = ((s.size - 1 : Nat) : Int) by omega]; exact IntWalk.i64_in _ (by omega)
  have hni : ((s.size - 1 : Nat) : Int) < (s.size : Int) := by omega
  have hni0 : (0 : Int) ≤ ((s.size - 1 : Nat) : Int) := by omega
  clear h
  go_enter Tryd.func54, Tryd.ntmps54
  go_upto_region 2 with fail
  obtain ⟨isS, hisS⟩ : ∃ b, decide ((y0 = 123 ∧ yl = 125) ∨ (y0 = 91 ∧ yl = 93)) = b := ⟨_, rfl⟩
  have HISS := Lib.hid hisS
  go_cut [17] (fun b wx => b = .bool isS ∧ w = wx)
  case first =>
    clear hisS
    by_cases a1 : y0 = 123
    · have d1 : (y0 == 123) = true := by simp [a1]
      by_cases a2 : yl = 125
      · have d2 : (yl == 125) = true := by simp [a2]
        have hb : Hid (isS = true) := by show _ = _; rw [← HISS.out]; simp [a1, a2]
        clear a1 a2
        go_wp2
        go_meet
        exact ⟨bool_eq hb.out.symm, rfl⟩
      · have d2 : (yl == 125) = false := by simp [a2]
        have d3 : (y0 == 91) = false := by simp [a1]
        have hb : Hid (isS = false) := by show _ = _; rw [← HISS.out]; simp [a1, a2]
        clear a1 a2
        go_wp2
        go_meet
        exact ⟨bool_eq hb.out.symm, rfl⟩
    · have d1 : (y0 == 123) = false := by simp [a1]
      by_cases a3 : y0 = 91
      · have d3 : (y0 == 91) = true := by simp [a3]
        by_cases a2 : yl = 93
        · have d2 : (yl == 93) = true := by simp [a2]
          have hb : Hid (isS = true) := by show _ = _; rw [← HISS.out]; simp [a3, a2]
          clear a1 a2 a3
          go_wp2
          go_meet
          exact ⟨bool_eq hb.out.symm, rfl⟩
        · have d2 : (yl == 93) = false := by simp [a2]
          have hb : Hid (isS = false) := by show _ = _; rw [← HISS.out]; simp [a3, a2]
          clear a1 a2 a3
          go_wp2
          go_meet
          exact ⟨bool_eq hb.out.symm, rfl⟩
      · have d3 : (y0 == 91) = false := by simp [a3]
        have hb : Hid (isS = false) := by show _ = _; rw [← HISS.out]; simp [a1, a3]
        clear a1 a3
        go_wp2
        go_meet
        exact ⟨bool_eq hb.out.symm, rfl⟩
  obtain ⟨rfl, hwc⟩ := hcut
  subst hwc
  cases isS with
  | true =>
    have hset : (y0 = 123 ∧ yl = 125) ∨ (y0 = 91 ∧ yl = 93) := of_decide_eq_true hisS
    have HIST : Hid (isSetW s.data.toList = true) := by show _ = _; rw [HIS.out, hisS]
    have h2 : 2 ≤ s.size := by
      rcases Nat.lt_or_ge s.size 2 with h2 | h2
      · have e2 : s.data.toList.length = 1 := by rw [← size_list]; omega
        obtain ⟨c, hc⟩ := List.length_eq_one_iff.1 e2
        have q0 := HH0.out
        have q1 := HHL.out
        rw [hc] at q0 q1
        simp only [List.head?_cons, Option.some.injEq, List.getLast?_singleton] at q0 q1
        have q2 : y0 = yl := by rw [← HY0.out, ← HYL.out, ← q0, ← q1]
        omega
      · exact h2
    have h12 : (1 : Int) ≤ ((s.size - 1 : Nat) : Int) := by omega
    have h12' : 1 ≤ s.size - 1 := by omega
    have hnle : ((s.size - 1 : Nat) : Int) ≤ (s.size : Int) := by omega
    have hnle' : s.size - 1 ≤ s.size := by omega
    have HSA := Lib.hid (set_any (s.extract 1 (s.size - 1)) w (Nat.le_trans (ext_size_le _ _ _) hs))
    rw [mid_list] at HSA
    have HSTEP : Hid (wordStep (p, run, op) s.data.toList = match setF ((s.data.toList.drop 1).dropLast) [] with
        | none => none
        | some l => if op = true ∨ 255 < l.length then none else some (p ++ seqs 2 run ++ [(if y0 = 91 then 4 else 1, l)], [], false)) := by
      show _ = _
      unfold wordStep
      rw [if_pos HIST.out]
      have e : (if s.data.toList.head? = some 91 then (4 : Int) else 1) = if y0 = 91 then 4 else 1 := by
        rw [HH0.out]
        by_cases h : y0 = 91
        · rw [if_pos h, if_pos ((opt_u8 HY0.out 91).2 (by rw [h]; rfl))]
        · rw [if_neg h, if_neg (fun e => h ((opt_u8 HY0.out 91).1 e))]
      rw [e]
      cases setF ((s.data.toList.drop 1).dropLast) [] <;> rfl
    obtain ⟨sr, hsr⟩ : ∃ r, setF ((s.data.toList.drop 1).dropLast) [] = r := ⟨_, rfl⟩
    rw [hsr] at HSA HSTEP
    clear hisS hsr
    go_wp2_with fail
    refine HSA.out.mono ?_
    rintro e w2 ⟨A2, n2, c2, rfl, ho2, hb2⟩
    cases sr with
    | none =>
      have HF : Hid (wordStep (p, run, op) s.data.toList = none) := HSTEP.out
      have HB2 : Hid (Below g w w2) := hb2.mono (Nat.le_of_lt (HW0.out.lt))
      clear ho2 hb2 hset
      dsimp only [Option.isSome]
      go_wp2
      go_ret
      exact WPost.no HF.out HB2.out
    | some l =>
    dsimp only [Option.isSome, Option.getD] at ho2 ⊢
    have HP2 := Lib.hid (HW0.out.below hb2)
    obtain ⟨Ap, pm, cp, Ar, cr, _, _, _, v0, v1, v2, v3, v4, v5, v6, _⟩ := HP2.out.parts
    dsimp only at v1 v2
    have hgw : g < w.heap.size := HW0.out.lt
    have HB2 : Hid (Below g w w2) := hb2.mono (Nat.le_of_lt hgw)
    have hll : l.length = n2 := ho2.len
    cases op with
    | true =>
      have HF : Hid (wordStep (p, run, true) s.data.toList = none) := HSTEP.out
      clear ho2 hb2 hset hll
      go_wp2
      go_ret
      exact WPost.no HF.out HB2.out
    | false =>
    by_cases h255 : 255 < n2
    · have d5 : decide ((n2 : Int) > 255) = true := by simp; omega
      have HF : Hid (wordStep (p, run, false) s.data.toList = none) := by
        show _ = _
        rw [HSTEP.out]
        simp only
        rw [if_pos (.inr (by rw [hll]; exact h255))]
      clear ho2 hb2 hset hll h255
      go_wp2
      go_ret
      exact WPost.no HF.out HB2.out
    have d5 : decide ((n2 : Int) > 255) = false := by simp; omega
    have HF : Hid (wordStep (p, run, false) s.data.toList = some (p ++ seqs 2 run ++ [(if y0 = 91 then 4 else 1, l)], [], false)) := by
      show _ = _
      rw [HSTEP.out]
      simp only
      rw [if_neg (by simp; omega)]
    have HO2 := Lib.hid ho2
    clear ho2 hb2 hll h255 HSA HSTEP
    go_wp2_with fail
    refine (flush_any g 2 _ _ HP2.out (by dsimp only; omega)).mono ?_
    rintro e w3 ⟨rfl, hp3, hb3, hk3⟩
    dsimp only at hp3
    have ho3 := own_keep HO2.out hk3
    obtain ⟨A3, m3, c3, A3', c3', hh3, hso3, _, n0, n1, _, nf0, _, _, n6, hnil⟩ := hp3.parts
    dsimp only at hh3 n1 hnil hso3
    rw [hnil rfl] at hh3
    have hml := hso3.len
    have hPl := seqs_len 2 _ run (Nat.le_refl _)
    rw [List.length_append] at hml
    have hf3 := free_int hso3 ho3 (Nat.succ_le_of_lt hgw)
    obtain ⟨KD, hKD⟩ : ∃ k : Int, (if y0 = 91 then (4 : Int) else 1) = k := ⟨_, rfl⟩
    rw [hKD] at HF
    obtain ⟨A5, c5, w5, hr5, ho5, hb5⟩ := hso3.push KD ho3.ints hf3 rfl (Nat.succ_le_of_lt n6) (by omega)
    have HP5 := Lib.hid (PS.pushed hh3 ho5 hb5)
    have HR5 := Lib.hid hr5
    have q0 : w5.cell? ⟨g, 0, none⟩ = some (.slice A3 m3 c3) := (hb5.cell (p := ⟨g, 0, none⟩) (Nat.lt_succ_self _)).trans n0
    have qf : w5.frozen? ⟨g, 0, none⟩ = false := (hb5.frozen (p := ⟨g, 0, none⟩) (Nat.lt_succ_self _)).trans nf0
    have q6 : g < w5.heap.size := Nat.lt_of_lt_of_le n6 hb5.size
    have HB5 : Hid (Below g w (w5.setCell ⟨g, 0, none⟩ (.slice A5 (m3 + 1) c5))) := ((HB2.out.trans hb3).trans (hb5.mono (Nat.le_succ _))).setCell (p := ⟨g, 0, none⟩) (Nat.le_refl _) _
    clear hp3 hb3 hk3 ho3 hh3 hso3 hml hPl hf3 hr5 ho5 hb5 hnil v0 v1 v2 v3 v4 v5 v6
    by_cases h91 : y0 = 91
    · have d9 : (y0 == 91) = true := by simp [h91]
      rw [if_pos h91] at hKD
      subst hKD
      clear h91 hset
      go_wp2_with (at_builtin; refine wpList_append_run rfl _ _ _ rfl rfl rfl HR5.out ?_)
      go_ret
      exact WPost.yes HF.out HP5.out HB5.out
    · have d9 : (y0 == 91) = false := by simp [h91]
      rw [if_neg h91] at hKD
      subst hKD
      clear h91 hset
      go_wp2_with (at_builtin; refine wpList_append_run rfl _ _ _ rfl rfl rfl HR5.out ?_)
      go_ret
      exact WPost.yes HF.out HP5.out HB5.out
  | false =>
    have HISF : Hid (¬ isSetW s.data.toList = true) := by show ¬ _; rw [HIS.out, hisS]; simp
    clear hisS
    by_cases a4 : y0 = 40
    · have d4 : (y0 == 40) = true := by simp [a4]
      have HH40 : Hid (s.data.toList.head? = some 40) := by show _ = _; rw [HH0.out]; exact (opt_u8 HY0.out 40).2 (by rw [a4]; rfl)
      cases op with
      | true =>
        have HF : Hid (wordStep (p, run, true) s.data.toList = none) := by
          show _ = _
          unfold wordStep
          rw [if_neg HISF.out, if_pos HH40.out, if_pos rfl]
        obtain ⟨Ap, pm, cp, Ar, cr, _, _, _, v0, v1, v2, v3, v4, v5, v6, _⟩ := HW0.out.parts
        dsimp only at v1 v2
        clear a4
        go_wp2
        go_ret
        exact WPost.no HF.out (Below.refl _ _)
      | false =>
        obtain ⟨Bp, bm, bp, Br, br, _, _, _, z0, z1, z2, z3, z4, z5, z6, _⟩ := HW0.out.parts
        dsimp only at z1 z2
        have htz : (s.extract 1 s.size).size = s.size - 1 := ext_tail_size s
        obtain ⟨t, ht⟩ : ∃ t, s.extract 1 s.size = t := ⟨_, rfl⟩
        have HTL : Hid (t.data.toList = s.data.toList.drop 1) := by show _ = _; rw [← ht]; exact tail_list s
        rw [ht] at htz
        have HTZ := Lib.hid htz
        have hts : t.size ≤ 1000000 := by omega
        have HT1 : Hid (yl = 41 → 1 ≤ t.size) := fun h => by
          rw [htz]
          rcases Nat.lt_or_ge s.size 2 with h2 | h2
          · have e1 : s.size - 1 = 0 := by omega
            have e2 : s.data.toList.length = 1 := by rw [← size_list]; omega
            obtain ⟨c, hc⟩ := List.length_eq_one_iff.1 e2
            have q0 := HH0.out
            have q1 := HHL.out
            rw [hc] at q0 q1
            simp only [List.head?_cons, Option.some.injEq, List.getLast?_singleton] at q0 q1
            have q2 : y0 = yl := by rw [← HY0.out, ← HYL.out, ← q0, ← q1]
            omega
          · omega
        have h1I : (1 : Int) ≤ (s.size : Int) := by omega
        have HST : Hid (yl = 41 → wordStep (p, run, false) s.data.toList = wordNum (p ++ seqs 2 run, [], true) t.data.toList true) := fun h => by
          unfold wordStep
          rw [if_neg HISF.out, if_pos HH40.out, if_neg (by simp), HHL.out, decide_eq_true ((opt_u8 HYL.out 41).2 (by rw [h]; rfl)), HTL.out]
        have HSTN : Hid (¬ yl = 41 → wordStep (p, run, false) s.data.toList = wordNum (p ++ seqs 2 run, [], true) t.data.toList false) := fun h => by
          unfold wordStep
          rw [if_neg HISF.out, if_pos HH40.out, if_neg (by simp), HHL.out, decide_eq_false (fun e => h ((opt_u8 HYL.out 41).1 e)), HTL.out]
        have hPl := seqs_len 2 _ run (Nat.le_refl _)
        obtain ⟨P, hP⟩ : ∃ P, p ++ seqs 2 run = P := ⟨_, rfl⟩
        have hPb : P.length + ([] : List Int).length ≤ 500000000 := by rw [← hP, List.length_append, List.length_nil]; omega
        rw [hP] at HST HSTN
        obtain ⟨R, hR⟩ : ∃ R : List Int, [] = R := ⟨_, rfl⟩
        rw [hR] at HST HSTN hPb
        have HPE := Lib.hid hP
        have HRE := Lib.hid hR
        clear a4 htz hR hP hPl
        go_wp2_with fail
        refine (flush_any g 2 _ _ HW0.out (by dsimp only; omega)).mono ?_
        rintro e w3 ⟨rfl, hp3, hb3, _⟩
        dsimp only at hp3
        rw [HPE.out, HRE.out] at hp3
        obtain ⟨A3, m3, c3, A3', c3', _, _, _, _, _, n2, _, _, nf2, n6, _⟩ := hp3.parts
        dsimp only at n2
        have HV : Hid (PS (w3.setCell ⟨g, 2, none⟩ (.bool true)) g (P, R, true)) := hp3.setOpen true
        have HBV : Hid (Below g w (w3.setCell ⟨g, 2, none⟩ (.bool true))) := hb3.setCell (p := ⟨g, 2, none⟩) (Nat.le_refl _) _
        clear hp3 hb3 z0 z1 z2 z3 z4 z5 z6
        go_upto_region 18 with fail
        obtain ⟨V, hV⟩ : ∃ V, w3.setCell ⟨g, 2, none⟩ (.bool true) = V := ⟨_, rfl⟩
        rw [hV] at HV HBV ⊢
        clear hV n2 nf2 n6 ht
        obtain ⟨Ap, pm, cp, Ar, cr, _, _, _, v0, v1, v2, v3, v4, v5, v6, _⟩ := HV.out.parts
        dsimp only at v1 v2
        by_cases hcl : yl = 41
        · have dcl : (yl == 41) = true := by simp [hcl]
          have ht1 := HT1.out hcl
          have htI : (1 : Int) ≤ (t.size : Int) := by omega
          have ht0 : decide ((t.size : Int) > 0) = true := by simp; omega
          have ht0' : 0 < t.size := by omega
          have hwt : IntKind.i64.wrap ((t.size : Int) - 1) = ((t.size - 1 : Nat) : Int) := by rw [show (t.size : Int) - 1 = ((t.size - 1 : Nat) : Int) by omega]; exact IntWalk.i64_in _ (by omega)
          have hwt2 : ((t.size - 1 : Nat) : Int) ≤ (t.size : Int) := by omega
          have hwt3 : (0 : Int) ≤ ((t.size - 1 : Nat) : Int) := by omega
          have hwt4 : t.size - 1 ≤ t.size := by omega
          have hne : t.data.toList ≠ [] := fun h => by rw [size_list, h] at ht0'; simp at ht0'
          have HQ : Hid ((t.extract 0 (t.size - 1)).data.toList = t.data.toList.dropLast) := init_list t
          have hqz : (t.extract 0 (t.size - 1)).size ≤ 140737488355328 := Nat.le_trans (ext_size_le _ _ _) (by omega)
          have HST2 : Hid (wordStep (p, run, false) s.data.toList = wordNum (P, R, true) t.data.toList true) := HST.out hcl
          have HNW := Lib.hid (number_walk (t.extract 0 (t.size - 1)) 4294967295 V hqz (by omega))
          obtain ⟨⟨x, er⟩, hnr⟩ : ∃ q, numR (byts (t.extract 0 (t.size - 1))) 4294967295 = q := ⟨_, rfl⟩
          have HNR : Hid (numR (bl t.data.toList.dropLast) 4294967295 = (x, er)) := by show _ = _; rw [← HQ.out]; exact hnr
          rw [hnr] at HNW
          dsimp only at HNW
          clear hnr hcl HQ
          by_cases h0 : er = 0
          case neg =>
            have de : (er != 0) = true := by simp [h0]
            have HF : Hid (wordStep (p, run, false) s.data.toList = none) := by
              show _ = _
              rw [HST2.out]
              unfold wordNum
              rw [if_pos ⟨rfl, hne⟩, numL_none HNR.out h0]
            clear h0 hne
            go_wp2_with fail
            refine HNW.out.mono ?_
            rintro e w1 ⟨rfl, rfl⟩
            go_wp2
            go_ret
            exact WPost.no HF.out HBV.out
          subst h0
          have HF : Hid (wordStep (p, run, false) s.data.toList = some (P ++ seqs 3 (R ++ [x]), [], false)) := by
            show _ = _
            rw [HST2.out]
            unfold wordNum
            rw [if_pos ⟨rfl, hne⟩, numL_of HNR.out]
            simp
          clear hne
          obtain ⟨A5, c5, w5, hr5, hp5, hb5⟩ := HV.out.number x (by omega) rfl v1
          have HR5 := Lib.hid hr5
          have HP5 := Lib.hid hp5
          have hV5 : g < w5.heap.size := Nat.lt_of_lt_of_le v6 hb5.size
          have k1 : w5.cell? ⟨g, 1, none⟩ = some (.slice Ar R.length cr) := (hb5.cell (p := ⟨g, 1, none⟩) (Nat.lt_succ_self _)).trans v1
          have kf : w5.frozen? ⟨g, 1, none⟩ = false := (hb5.frozen (p := ⟨g, 1, none⟩) (Nat.lt_succ_self _)).trans v4
          have HB5 : Hid (Below g w (w5.setCell ⟨g, 1, none⟩ (.slice A5 (R.length + 1) c5))) := (HBV.out.trans (hb5.mono (Nat.le_succ _))).setCell (p := ⟨g, 1, none⟩) (Nat.le_refl _) _
          clear hr5 hp5 hb5
          go_wp2_with fail
          refine HNW.out.mono ?_
          rintro e w1 ⟨rfl, rfl⟩
          go_wp2_with (at_builtin; refine wpList_append_run rfl _ _ _ rfl rfl rfl HR5.out ?_)
          refine (flush_any g 3 _ _ HP5.out (by show P.length + (R ++ [x]).length ≤ _; rw [List.length_append, List.length_singleton]; omega)).mono ?_
          rintro e w6 ⟨rfl, hp6, hb6, _⟩
          dsimp only at hp6
          obtain ⟨A6, m6, c6, A6', c6', _, _, _, _, _, n2, _, _, nf2, n6, _⟩ := hp6.parts
          have HP7 := Lib.hid (hp6.setOpen false)
          have HB7 : Hid (Below g w (w6.setCell ⟨g, 2, none⟩ (.bool false))) := (HB5.out.trans hb6).setCell (p := ⟨g, 2, none⟩) (Nat.le_refl _) _
          clear hp6 hb6
          go_wp2
          go_ret
          exact WPost.yes HF.out HP7.out HB7.out
        · have dcl : (yl == 41) = false := by simp [hcl]
          have hqz : t.size ≤ 140737488355328 := by omega
          have HST2 : Hid (wordStep (p, run, false) s.data.toList = wordNum (P, R, true) t.data.toList false) := HSTN.out hcl
          have HNW := Lib.hid (number_walk t 4294967295 V hqz (by omega))
          obtain ⟨⟨x, er⟩, hnr⟩ : ∃ q, numR (byts t) 4294967295 = q := ⟨_, rfl⟩
          have HNR : Hid (numR (bl t.data.toList) 4294967295 = (x, er)) := hnr
          rw [hnr] at HNW
          dsimp only at HNW
          clear hnr hcl
          by_cases h0 : er = 0
          case neg =>
            have de : (er != 0) = true := by simp [h0]
            have HF : Hid (wordStep (p, run, false) s.data.toList = none) := by
              show _ = _
              rw [HST2.out]
              unfold wordNum
              rw [if_neg (by simp), numL_none HNR.out h0]
            clear h0
            go_wp2_with fail
            refine HNW.out.mono ?_
            rintro e w1 ⟨rfl, rfl⟩
            go_wp2
            go_ret
            exact WPost.no HF.out HBV.out
          subst h0
          have HF : Hid (wordStep (p, run, false) s.data.toList = some (P, R ++ [x], true)) := by
            show _ = _
            rw [HST2.out]
            unfold wordNum
            rw [if_neg (by simp), numL_of HNR.out]
            simp
          obtain ⟨A5, c5, w5, hr5, hp5, hb5⟩ := HV.out.number x (by omega) rfl v1
          have HR5 := Lib.hid hr5
          have HP5 := Lib.hid hp5
          have hV5 : g < w5.heap.size := Nat.lt_of_lt_of_le v6 hb5.size
          have k1 : w5.cell? ⟨g, 1, none⟩ = some (.slice Ar R.length cr) := (hb5.cell (p := ⟨g, 1, none⟩) (Nat.lt_succ_self _)).trans v1
          have kf : w5.frozen? ⟨g, 1, none⟩ = false := (hb5.frozen (p := ⟨g, 1, none⟩) (Nat.lt_succ_self _)).trans v4
          have HB5 : Hid (Below g w (w5.setCell ⟨g, 1, none⟩ (.slice A5 (R.length + 1) c5))) := (HBV.out.trans (hb5.mono (Nat.le_succ _))).setCell (p := ⟨g, 1, none⟩) (Nat.le_refl _) _
          clear hr5 hp5 hb5
          go_wp2_with fail
          refine HNW.out.mono ?_
          rintro e w1 ⟨rfl, rfl⟩
          go_wp2_with (at_builtin; refine wpList_append_run rfl _ _ _ rfl rfl rfl HR5.out ?_)
          go_ret
          exact WPost.yes HF.out HP5.out HB5.out
    · have d4 : (y0 == 40) = false := by simp [a4]
      have HH40 : Hid (¬ s.data.toList.head? = some 40) := by show ¬ _; rw [HH0.out]; exact fun e => a4 ((opt_u8 HY0.out 40).1 e)
      have HT1 : Hid (yl = 41 → 1 ≤ s.size) := fun _ => h00
      have HST : Hid (yl = 41 → wordStep (p, run, op) s.data.toList = wordNum (p, run, op) s.data.toList true) := fun h => by
        conv => lhs; unfold wordStep
        rw [if_neg HISF.out, if_neg HH40.out, HHL.out, decide_eq_true ((opt_u8 HYL.out 41).2 (by rw [h]; rfl))]
      have HSTN : Hid (¬ yl = 41 → wordStep (p, run, op) s.data.toList = wordNum (p, run, op) s.data.toList false) := fun h => by
        conv => lhs; unfold wordStep
        rw [if_neg HISF.out, if_neg HH40.out, HHL.out, decide_eq_false (fun e => h ((opt_u8 HYL.out 41).1 e))]
      have HV := HW0
      have HBV : Hid (Below g w w) := Below.refl _ _
      clear a4
      obtain ⟨Ap, pm, cp, Ar, cr, _, _, _, v0, v1, v2, v3, v4, v5, v6, _⟩ := HV.out.parts
      dsimp only at v1 v2
      by_cases hcl : yl = 41
      · have dcl : (yl == 41) = true := by simp [hcl]
        have ht1 := HT1.out hcl
        have htI : (1 : Int) ≤ (s.size : Int) := by omega
        have ht0 : decide ((s.size : Int) > 0) = true := by simp; omega
        have ht0' : 0 < s.size := by omega
        have hwt : IntKind.i64.wrap ((s.size : Int) - 1) = ((s.size - 1 : Nat) : Int) := by rw [show (s.size : Int) - 1 = ((s.size - 1 : Nat) : Int) by omega]; exact IntWalk.i64_in _ (by omega)
        have hwt2 : ((s.size - 1 : Nat) : Int) ≤ (s.size : Int) := by omega
        have hwt3 : (0 : Int) ≤ ((s.size - 1 : Nat) : Int) := by omega
        have hwt4 : s.size - 1 ≤ s.size := by omega
        have hne : s.data.toList ≠ [] := fun h => by rw [size_list, h] at ht0'; simp at ht0'
        have HQ : Hid ((s.extract 0 (s.size - 1)).data.toList = s.data.toList.dropLast) := init_list s
        have hqz : (s.extract 0 (s.size - 1)).size ≤ 140737488355328 := Nat.le_trans (ext_size_le _ _ _) (by omega)
        have HST2 : Hid (wordStep (p, run, op) s.data.toList = wordNum (p, run, op) s.data.toList true) := HST.out hcl
        have HNW := Lib.hid (number_walk (s.extract 0 (s.size - 1)) 4294967295 w hqz (by omega))
        obtain ⟨⟨x, er⟩, hnr⟩ : ∃ q, numR (byts (s.extract 0 (s.size - 1))) 4294967295 = q := ⟨_, rfl⟩
        have HNR : Hid (numR (bl s.data.toList.dropLast) 4294967295 = (x, er)) := by show _ = _; rw [← HQ.out]; exact hnr
        rw [hnr] at HNW
        dsimp only at HNW
        clear hnr hcl HQ
        by_cases h0 : er = 0
        case neg =>
          have de : (er != 0) = true := by simp [h0]
          have HF : Hid (wordStep (p, run, op) s.data.toList = none) := by
            show _ = _
            rw [HST2.out]
            unfold wordNum
            rw [if_pos ⟨rfl, hne⟩, numL_none HNR.out h0]
          clear h0 hne
          go_wp2_with fail
          refine HNW.out.mono ?_
          rintro e w1 ⟨rfl, rfl⟩
          go_wp2
          go_ret
          exact WPost.no HF.out HBV.out
        subst h0
        cases hop : op with
        | false =>
          have HF : Hid (wordStep (p, run, op) s.data.toList = none) := by
            show _ = _
            rw [HST2.out]
            unfold wordNum
            rw [if_pos ⟨rfl, hne⟩, numL_of HNR.out]
            simp [hop]
          rw [hop] at v2
          clear hop hne
          go_wp2_with fail
          refine HNW.out.mono ?_
          rintro e w1 ⟨rfl, rfl⟩
          go_wp2
          go_ret
          exact WPost.no HF.out HBV.out
        | true =>
        rw [hop] at v2
        have HOP := Lib.hid hop
        clear hop
        have HF : Hid (wordStep (p, run, op) s.data.toList = some (p ++ seqs 3 (run ++ [x]), [], false)) := by
          show _ = _
          rw [HST2.out]
          unfold wordNum
          rw [if_pos ⟨rfl, hne⟩, numL_of HNR.out]
          simp [HOP.out]
        clear hne
        obtain ⟨A5, c5, w5, hr5, hp5, hb5⟩ := HV.out.number x (by omega) rfl v1
        have HR5 := Lib.hid hr5
        have HP5 := Lib.hid hp5
        have hV5 : g < w5.heap.size := Nat.lt_of_lt_of_le v6 hb5.size
        have k1 : w5.cell? ⟨g, 1, none⟩ = some (.slice Ar run.length cr) := (hb5.cell (p := ⟨g, 1, none⟩) (Nat.lt_succ_self _)).trans v1
        have kf : w5.frozen? ⟨g, 1, none⟩ = false := (hb5.frozen (p := ⟨g, 1, none⟩) (Nat.lt_succ_self _)).trans v4
        have HB5 : Hid (Below g w (w5.setCell ⟨g, 1, none⟩ (.slice A5 (run.length + 1) c5))) := (HBV.out.trans (hb5.mono (Nat.le_succ _))).setCell (p := ⟨g, 1, none⟩) (Nat.le_refl _) _
        clear hr5 hp5 hb5
        go_wp2_with fail
        refine HNW.out.mono ?_
        rintro e w1 ⟨rfl, rfl⟩
        go_wp2_with (at_builtin; refine wpList_append_run rfl _ _ _ rfl rfl rfl HR5.out ?_)
        refine (flush_any g 3 _ _ HP5.out (by show p.length + (run ++ [x]).length ≤ _; rw [List.length_append, List.length_singleton]; omega)).mono ?_
        rintro e w6 ⟨rfl, hp6, hb6, _⟩
        dsimp only at hp6
        obtain ⟨A6, m6, c6, A6', c6', _, _, _, _, _, n2, _, _, nf2, n6, _⟩ := hp6.parts
        have HP7 := Lib.hid (hp6.setOpen false)
        have HB7 : Hid (Below g w (w6.setCell ⟨g, 2, none⟩ (.bool false))) := (HB5.out.trans hb6).setCell (p := ⟨g, 2, none⟩) (Nat.le_refl _) _
        clear hp6 hb6
        go_wp2
        go_ret
        exact WPost.yes HF.out HP7.out HB7.out
      · have dcl : (yl == 41) = false := by simp [hcl]
        have hqz : s.size ≤ 140737488355328 := by omega
        have HST2 : Hid (wordStep (p, run, op) s.data.toList = wordNum (p, run, op) s.data.toList false) := HSTN.out hcl
        have HNW := Lib.hid (number_walk s 4294967295 w hqz (by omega))
        obtain ⟨⟨x, er⟩, hnr⟩ : ∃ q, numR (byts s) 4294967295 = q := ⟨_, rfl⟩
        have HNR : Hid (numR (bl s.data.toList) 4294967295 = (x, er)) := hnr
        rw [hnr] at HNW
        dsimp only at HNW
        clear hnr hcl
        by_cases h0 : er = 0
        case neg =>
          have de : (er != 0) = true := by simp [h0]
          have HF : Hid (wordStep (p, run, op) s.data.toList = none) := by
            show _ = _
            rw [HST2.out]
            unfold wordNum
            rw [if_neg (by simp), numL_none HNR.out h0]
          clear h0
          go_wp2_with fail
          refine HNW.out.mono ?_
          rintro e w1 ⟨rfl, rfl⟩
          go_wp2
          go_ret
          exact WPost.no HF.out HBV.out
        subst h0
        have HF : Hid (wordStep (p, run, op) s.data.toList = some (p, run ++ [x], op)) := by
          show _ = _
          rw [HST2.out]
          unfold wordNum
          rw [if_neg (by simp), numL_of HNR.out]
          simp
        obtain ⟨A5, c5, w5, hr5, hp5, hb5⟩ := HV.out.number x (by omega) rfl v1
        have HR5 := Lib.hid hr5
        have HP5 := Lib.hid hp5
        have hV5 : g < w5.heap.size := Nat.lt_of_lt_of_le v6 hb5.size
        have k1 : w5.cell? ⟨g, 1, none⟩ = some (.slice Ar run.length cr) := (hb5.cell (p := ⟨g, 1, none⟩) (Nat.lt_succ_self _)).trans v1
        have kf : w5.frozen? ⟨g, 1, none⟩ = false := (hb5.frozen (p := ⟨g, 1, none⟩) (Nat.lt_succ_self _)).trans v4
        have HB5 : Hid (Below g w (w5.setCell ⟨g, 1, none⟩ (.slice A5 (run.length + 1) c5))) := (HBV.out.trans (hb5.mono (Nat.le_succ _))).setCell (p := ⟨g, 1, none⟩) (Nat.le_refl _) _
        clear hr5 hp5 hb5
        go_wp2_with fail
        refine HNW.out.mono ?_
        rintro e w1 ⟨rfl, rfl⟩
        go_wp2_with (at_builtin; refine wpList_append_run rfl _ _ _ rfl rfl rfl HR5.out ?_)
        go_ret
        exact WPost.yes HF.out HP5.out HB5.out
end Go.Proofs.YteohdanlcaoaiaaDoor
