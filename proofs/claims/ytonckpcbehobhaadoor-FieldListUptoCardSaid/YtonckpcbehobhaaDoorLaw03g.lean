/- FieldList: the walk. -/
import Derived.Test.YtonckpcbehobhaaDoorEncLaw
import Derived.Test.YtonckpcbehobhaaDoorBList
import Derived.Test.YtonckpcbehobhaaDoorLaw03f
namespace Go.Proofs.YtonckpcbehobhaaDoor
open Go.RowKit

set_option maxHeartbeats 1000000 in
theorem indexInt_any (T : Option Addr) (tn tc B : Nat) (xs : List Int) (x : Int) (w : World) (ht : Ints w B .i64 T tn tc xs) (htn : tn ≤ 140737488355328) :
    Calls Tryd.prog 37 #[.slice T tn tc, .int .i64 x] w fun e w' => (∃ i : Int, e = .returned (.int .i64 i) ∧ (0 ≤ i ↔ x ∈ xs)) ∧ w = w' := by
  have HT := Lib.hid ht
  have hl := Lib.hid ht.len
  clear ht
  go_enter Tryd.func37, Tryd.ntmps37
  go_wp2
  go_loop [9] (fun i => ∃ k : Nat, k ≤ tn ∧ i = .int .i64 k ∧ Hid (∀ j, j < k → xs.getD j 0 ≠ x)) (fun i => tn - (intOf i).toNat)
  case atStart => exact ⟨0, Nat.zero_le _, rfl, fun j hj => absurd hj (by omega)⟩
  case round =>
    obtain ⟨k, hk, rfl, hno⟩ := hrel
    by_cases hlt : k < tn
    · obtain ⟨b, o, y, rfl, hbB, c0, hy⟩ := HT.out.cell hlt
      by_cases hyx : y = x
      · have HL : Hid (x ∈ xs) := by
          show _ ∈ _
          have h1 := hy.out
          rw [List.getD_eq_getElem?_getD, List.getElem?_eq_getElem (by rw [hl.out]; exact hlt)] at h1
          rw [← hyx, ← h1]
          exact List.getElem_mem _
        have d : (y == x) = true := by simp [hyx]
        clear hy hyx
        go_wp2
        go_ret
        exact ⟨⟨(k : Int), rfl, ⟨fun _ => HL.out, fun _ => by omega⟩⟩, rfl⟩
      · have HN : Hid (∀ j, j < k + 1 → xs.getD j 0 ≠ x) := by
          intro j hj
          rcases Nat.lt_or_ge j k with h | h
          · exact hno.out j h
          · obtain rfl : j = k := by omega
            rw [hy.out]
            exact hyx
        have d : (y == x) = false := by simp [hyx]
        clear hy hyx
        go_wp2
        go_round
        case rel => exact ⟨k + 1, by omega, by go_num, HN⟩
        case measure => simp [intOf]; omega
    · obtain rfl : k = tn := by omega
      have HL : Hid (x ∉ xs) := by
        intro hm
        obtain ⟨j, hj, he⟩ := List.mem_iff_getElem.1 hm
        refine hno.out j (by rw [← hl.out]; exact hj) ?_
        rw [List.getD_eq_getElem?_getD, List.getElem?_eq_getElem hj]
        exact he
      go_wp2
      go_ret
      exact ⟨⟨-1, rfl, ⟨fun h => absurd h (by omega), fun h => absurd h HL.out⟩⟩, rfl⟩
theorem hasInt_any (T : Option Addr) (tn tc B : Nat) (xs : List Int) (x : Int) (w : World) (ht : Ints w B .i64 T tn tc xs) (htn : tn ≤ 140737488355328) :
    Calls Tryd.prog 29 #[.slice T tn tc, .int .i64 x] w fun e w' => e = .returned (.bool (decide (x ∈ xs))) ∧ w = w' := by
  have HC := Lib.hid (indexInt_any T tn tc B xs x w ht htn)
  clear ht
  go_enter Tryd.func29, Tryd.ntmps29
  go_wp2_with fail
  refine HC.out.mono ?_
  rintro e w1 ⟨⟨i, rfl, hi⟩, rfl⟩
  have e1 : decide (x ∈ xs) = decide (i ≥ 0) := by
    by_cases h : x ∈ xs
    · rw [decide_eq_true h, decide_eq_true (hi.2 h)]
    · rw [decide_eq_false h, decide_eq_false fun h2 => h (hi.1 h2)]
  have E1 := Lib.hid e1
  clear e1 hi
  go_wp2
  go_ret
  exact ⟨by rw [E1.out]; rfl, rfl⟩
/-- append of a number; a row of bytes stays as it is -/
theorem push_int {w : World} {base l m N : Nat} {ev bv : Value} {xs ys : List Int} (he : Own w base 3 .i64 ev l xs) (ho : Own w base 5 .u8 bv m ys) (y : Int) (hN : N = w.heap.size) (hbase : base ≤ w.heap.size) (hl : l ≤ 2000000000000) :
    ∃ A' c' w', (Builtin.append_ #[51, 51] 51 #[ev, .slice (some ⟨N, 0, none⟩) 1 1]).run Tryd.prog (w.alloc (.cells #[.int .i64 y] 3)) = .ok (.slice A' (l + 1) c') w' ∧ Own w' base 3 .i64 (.slice A' (l + 1) c') (l + 1) (xs ++ [y]) ∧ Own w' base 5 .u8 bv m ys ∧ Below base w w' := by
  subst hN
  obtain ⟨W, hW⟩ : ∃ W, w.alloc (.cells #[.int .i64 y] 3) = W := ⟨_, rfl⟩
  have hbel : Below w.heap.size w W := by rw [← hW]; exact belowA _ _
  have hlit : Ints W W.heap.size .i64 (some ⟨w.heap.size, 0, none⟩) 1 1 [y] := by
    rw [← hW]
    exact ints_lit w 3 .i64 1 [y] rfl (by simp [maxLen]) _ (by simp)
  have hr1 : Own W base 3 .i64 ev l xs := row_below he hbel
  obtain ⟨v', w', k1, k2, k3, _⟩ := Ints.append (P := Tryd.prog) (t := 51) (ty := 51) (e := 3) (z := .int .i64 0) (bytes := 8) Tryd.underlying51 (by kernel_rfl) rfl hr1 hlit (by simp only [maxLen]; omega) (by omega) (by have := hbel.size; omega)
  obtain ⟨A', c', rfl⟩ := own_form k2
  rw [hW]
  have hb2 : Below base w w' := (hbel.mono hbase).grown k3 (by have := hbel.size; omega) (fun k hk => (World.ownsRow.lt hr1 k hk).1)
  refine ⟨A', c', w', k1, k2, ?_, hb2⟩
  have hne : (5 : TypeId) ≠ 3 := by decide
  have ho1 : Own W base 5 .u8 bv m ys := row_below ho hbel
  exact World.ownsRow.kept ho1 k3 (rows_apart ho1 hr1 hne)
/-- the cut of a slice where the lower end is left out -/
theorem Ints.sliceToU {P : Program} {T E : TypeId} (hT : P.underlying T = some (.slice E)) (hE : (P.info? E).map (fun i => i.size) = some 1) {w : World} {B n c : Nat} {k : IntKind} {A : Option Addr} {xs : List Int}
    (h : Ints w B k A n c xs) {hi : Nat} (h2 : hi ≤ n) :
    ∃ A' c', (∀ w' : World, (Instr.slice T (.slice A n c) none (some (.int .i64 hi)) none).run P w' = .ok (.slice A' hi c') w') ∧ Ints w B k A' hi c' (xs.take hi) := by
  obtain ⟨A', c', hs, hy⟩ := h.slice hT hE (lo := 0) (hi := hi) (Nat.zero_le _) h2
  refine ⟨A', c', fun w' => ?_, hy⟩
  have := hs w'
  rw [Nat.sub_zero] at this
  rw [← this]
  rfl
/-- the loop -/
def FLInv (w : World) (ts : List (Int × List Int)) (n : Nat) (bv ev iv : Value) (W : World) : Prop :=
  ∃ (k m c : Nat) (A : Option Addr), k ≤ n ∧ iv = .int .i64 k ∧ bv = .slice A m c ∧ Own W w.heap.size 5 .u8 (.slice A m c) m (enc (ts.take k)) ∧ Own W w.heap.size 3 .i64 ev k (starts 0 (ts.take k)) ∧ (∀ t ∈ ts.take k, okT t) ∧ Below w.heap.size w W
set_option maxRecDepth 100000 in
set_option maxHeartbeats 4000000 in
theorem fieldList_walk (v0 : Value) (cut : Int) (w : World) (hw : (Lit.int .i64 cut).wf = true) (hin : ListIn w v0 1048576) (henv : Env w) :
    Calls Tryd.prog 9 #[v0, .int .i64 cut] w fun e w' => e = .returned (.bool true) ∧ Below w.heap.size w w' := by
  obtain ⟨A, n, c, ts, rfl, hx, hn, hts⟩ := hin
  have HENV := Lib.hid henv
  have HX := Lib.hid hx
  have HTS := Lib.hid hts
  have HCUT := Lib.hid (bounds_i64 hw)
  have HLEN := Lib.hid hx.len
  clear hx hts hw henv
  go_enter Tryd.func9, Tryd.ntmps9
  go_wp2
  go_loopw [5, 6, 17] (fun b e i wr => FLInv w ts n b e i wr) (fun _ _ i _ => n - (intOf i).toNat)
  case atStart => exact ⟨0, 0, 0, none, Nat.zero_le _, rfl, rfl, Own.nil _ _ _ _, Own.nil _ _ _ _, by simp, Below.refl _ _⟩
  case round =>
    obtain ⟨k, m, c1, A1, hk, rfl, rfl, hob, hoe, hok, hbw⟩ := hrel
    have hml : (enc (ts.take k)).length = m := hob.len
    have hmb := enc_len _ hok
    rw [hml, List.length_take] at hmb
    have hmm : m ≤ 1048576 * 65538 := Nat.le_trans hmb (Nat.mul_le_mul_right _ (by omega))
    have HOB := Lib.hid hob
    have HOE := Lib.hid hoe
    have HOK := Lib.hid hok
    have HBW := Lib.hid hbw
    obtain ⟨Ae, ce, rfl⟩ := own_form hoe
    clear hob hoe hok hbw hmb hml
    by_cases hlt : k < n
    · obtain ⟨b, o, f, rfl, hbB, hf, g0, g1, hi⟩ := (HX.out.below HBW.out).get hlt
      obtain ⟨y, fA, fn, fc, xs⟩ := f
      dsimp only at g0 g1 hi
      have hbw1 : b < wr.heap.size := Nat.lt_of_lt_of_le hbB HBW.out.size
      have HF : Hid (ts[k]? = some (y, xs)) := hf
      have HB1 := Lib.hid (belowA wr (.cells #[.int .i64 y, .slice fA fn fc] 43))
      have HP : Hid (∀ W, Below wr.heap.size wr W → Calls Tryd.prog 24 #[.slice A1 m c1, .agg #[.int .i64 y, .slice fA fn fc]] W (GivesPB (putR (enc (ts.take k)) y xs) W)) := fun W h =>
        putTlv_any A1 fA m c1 fn fc y _ xs W ((HOB.out.ints.below h).more h.size) (by omega) ((hi.out.below (h.mono HBW.out.size)).more (Nat.le_trans HBW.out.size h.size))
      have HTK : Hid (ts.take (k + 1) = ts.take k ++ [(y, xs)]) := by
        show _ = _
        rw [List.take_add_one, HF.out]
        rfl
      clear hf hi
      by_cases hgood : okT (y, xs)
      · have hpr := putR_ok (xs := enc (ts.take k)) hgood
        dsimp only at hpr
        rw [hpr] at HP
        have HG := Lib.hid hgood
        clear hpr hgood
        go_wp2_with fail
        refine (HP.out _ HB1.out).mono ?_
        rintro e w2 ⟨A2, n2, c2, rfl, ho2, hb2⟩
        have hb12 := below3 HB1.out hb2
        have hbw2 := below3 HBW.out hb12
        obtain ⟨A3, c3, w3, hrun, hoe3, hob3, hb3⟩ := push_int (row_below HOE.out hb12) (own_mono ho2 (Nat.le_trans HBW.out.size HB1.out.size)) (m : Int) rfl hbw2.size (by omega)
        have HR := Lib.hid hrun
        have HOE3 := Lib.hid hoe3
        have HOB3 := Lib.hid hob3
        have HBW3 := Lib.hid (hbw2.trans hb3)
        clear ho2 hb2 hb12 hbw2 hrun hoe3 hob3 hb3 g0 g1
        go_wp2_with (at_builtin; refine wpList_append_run rfl _ _ _ rfl rfl rfl HR.out ?_)
        go_roundw
        case rel =>
          have hml : (enc (ts.take k)).length = m := HOB.out.len
          refine ⟨k + 1, n2, c2, A2, by omega, by go_num, rfl, ?_, ?_, ?_, HBW3.out⟩
          · rw [HTK.out, enc_snoc]; exact HOB3.out
          · rw [HTK.out, starts_snoc, Nat.zero_add, hml]; exact HOE3.out
          · rw [HTK.out]
            intro t ht
            rcases List.mem_append.1 ht with ht | ht
            · exact HOK.out t ht
            · obtain rfl : t = (y, xs) := by simpa using ht
              exact HG.out
        case measure => simp [intOf]; omega
      · obtain ⟨er, hpr, hne⟩ := putR_bad (xs := enc (ts.take k)) hgood
        dsimp only at hpr
        rw [hpr] at HP
        have d : (er != 0) = true := by simp [hne]
        clear hpr hgood hne
        go_wp2_with fail
        refine (HP.out _ HB1.out).mono ?_
        rintro e w2 ⟨A2, n2, c2, rfl, ho2, hb2⟩
        have HB2 := Lib.hid (below3 HBW.out (below3 HB1.out hb2))
        clear ho2 hb2 g0 g1
        go_wp2_with fail
        refine (awake_any _ (HENV.out.below HB2.out)).mono ?_
        rintro e w3 ⟨rfl, hb3⟩
        have HB3 := Lib.hid (below3 HB2.out hb3)
        clear hb3
        go_wp2
        go_ret
        exact ⟨rfl, HB3.out⟩
    · obtain rfl : k = n := by omega
      have htk : ts.take k = ts := List.take_of_length_le (Nat.le_of_eq HLEN.out)
      rw [htk] at HOB HOE HOK
      have HT := Lib.hid (tlvs_any A1 m c1 (enc ts) wr HOB.out.ints (enc_bytes HOK.out fun t ht => (HTS.out t ht).1) (by omega))
      rw [enc_tlR HOK.out] at HT
      have HIB := Lib.hid HOB.out.ints
      have HIE := Lib.hid HOE.out.ints
      have hml : Hid ((enc ts).length = m) := HOB.out.len
      clear htk HOB HOE
      go_wp2_with fail
      refine HT.out.mono ?_
      rintro e w2 ⟨A2, n2, c2, rfl, ht2, hb2⟩
      have HB2 := Lib.hid (below3 HBW.out hb2)
      have HS := Lib.hid (same_true A A2 k c n2 c2 _ _ ts w2 ((HX.out.below HB2.out).more HB2.out.size) ht2 (Nat.le_refl _) (Nat.le_refl _) (by omega) (fun t h => by have := (HTS.out t h).2; omega))
      have HIB2 := Lib.hid (HIB.out.below hb2)
      have HIE2 := Lib.hid (HIE.out.below hb2)
      have hwr := hb2.size
      clear ht2 hb2 HIB HIE
      go_wp2_with fail
      refine HS.out.mono ?_
      rintro e w3 ⟨rfl, hb3⟩
      have HB3 := Lib.hid (below3 HB2.out hb3)
      have HIB3 := Lib.hid (HIB2.out.below (hb3.mono hwr))
      have HIE3 := Lib.hid (HIE2.out.below (hb3.mono hwr))
      have hwr3 := Nat.le_trans hwr hb3.size
      clear hb3 HIB2 HIE2 HS HT
      have HAW : Hid (∀ W, Below w.heap.size w W → Calls Tryd.prog 12 #[] W fun e w' => e = .returned (.bool true) ∧ Below W.heap.size W w') := fun W h => awake_any _ (HENV.out.below h)
      by_cases h0 : cut < 0
      · have d : decide (cut ≥ 0) = false := by simp; omega
        clear h0
        go_wp2_with fail
        refine (HAW.out _ HB3.out).mono ?_
        rintro e w4 ⟨rfl, hb4⟩
        have HB4 := Lib.hid (below3 HB3.out hb4)
        clear hb4
        go_wp2
        go_ret
        exact ⟨rfl, HB4.out⟩
      obtain ⟨cn, rfl⟩ : ∃ cn : Nat, cut = (cn : Int) := ⟨cut.toNat, by omega⟩
      have d0 : decide ((cn : Int) ≥ 0) = true := by simp
      by_cases h1 : m ≤ cn
      · have d : decide ((cn : Int) < (m : Int)) = false := by simp; omega
        have hnm : ¬ cn < m := by omega
        clear h0 h1
        go_wp2_with fail
        refine (HAW.out _ HB3.out).mono ?_
        rintro e w4 ⟨rfl, hb4⟩
        have HB4 := Lib.hid (below3 HB3.out hb4)
        clear hb4
        go_wp2
        go_ret
        exact ⟨rfl, HB4.out⟩
      have d1 : decide ((cn : Int) < (m : Int)) = true := by simp; omega
      have hnm : cn < m := by omega
      have HH := Lib.hid (hasInt_any Ae k ce _ _ (cn : Int) w3 HIE3.out (by omega))
      by_cases h2 : (cn : Int) ∈ starts 0 ts
      · have d2 : decide ((cn : Int) ∈ starts 0 ts) = true := decide_eq_true h2
        rw [d2] at HH
        clear h0 h1 h2 d2
        go_wp2_with fail
        refine HH.out.mono ?_
        rintro e w4 ⟨rfl, rfl⟩
        go_wp2_with fail
        refine (HAW.out _ HB3.out).mono ?_
        rintro e w4 ⟨rfl, hb4⟩
        have HB4 := Lib.hid (below3 HB3.out hb4)
        clear hb4
        go_wp2
        go_ret
        exact ⟨rfl, HB4.out⟩
      have d2 : decide ((cn : Int) ∈ starts 0 ts) = false := decide_eq_false h2
      rw [d2] at HH
      obtain ⟨A5, c5, hsl, hi5⟩ := HIB3.out.sliceToU (P := Tryd.prog) (T := 22) (E := 5) Tryd.underlying22 (by kernel_rfl) (hi := cn) (by omega)
      have HT5 := Lib.hid (tlvs_any A5 cn c5 _ w3 (hi5.more hwr3) (bytes_all fun x hx => all_bytes (enc_bytes HOK.out fun t ht => (HTS.out t ht).1) x (List.mem_of_mem_take hx)) (by omega))
      rw [cut_tlR HOK.out (by rw [hml.out]; omega) (fun x hx he => h2 (he ▸ hx))] at HT5
      clear h0 h1 h2 d2 hi5
      go_wp2_with fail
      refine HH.out.mono ?_
      rintro e w4 ⟨rfl, rfl⟩
      go_wp2_with fail
      refine HT5.out.mono ?_
      rintro e w5 ⟨A6, n6, c6, rfl, ht6, hb6⟩
      have HB6 := Lib.hid (below3 HB3.out hb6)
      clear ht6 hb6
      go_wp2_with fail
      refine (HAW.out _ HB6.out).mono ?_
      rintro e w7 ⟨rfl, hb7⟩
      have HB7 := Lib.hid (below3 HB6.out hb7)
      clear hb7
      go_wp2
      go_ret
      exact ⟨rfl, HB7.out⟩
end Go.Proofs.YtonckpcbehobhaaDoor
