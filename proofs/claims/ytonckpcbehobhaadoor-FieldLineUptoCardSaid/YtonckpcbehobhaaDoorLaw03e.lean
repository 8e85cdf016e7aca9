/- FieldLine: the walk. -/
import Derived.Test.YtonckpcbehobhaaDoorAwake03
import Derived.Test.YtonckpcbehobhaaDoorLineLaw
import Derived.Test.YtonckpcbehobhaaDoorLaw03c
import Derived.Test.YtonckpcbehobhaaDoorOpen
namespace Go.Proofs.YtonckpcbehobhaaDoor
open Go.RowKit

set_option maxHeartbeats 1000000 in
theorem plain_any (s : ByteArray) (w : World) (hs : s.size ≤ 140737488355328) :
    Calls Tryd.prog 23 #[.string s] w fun e w' => e = .returned (.bool (plainB s)) ∧ w = w' := by
  go_enter Tryd.func23, Tryd.ntmps23
  go_wp2
  go_loop [3] (fun i => ∃ k : Nat, k ≤ s.size ∧ i = .int .i64 k ∧ Hid (∀ j c, j < k → s.data.toList[j]? = some c → c ≠ 32 ∧ c ≠ 10)) (fun i => s.size - (intOf i).toNat)
  case atStart => exact ⟨0, Nat.zero_le _, rfl, fun j c hj => absurd hj (by omega)⟩
  case round =>
    obtain ⟨k, hk, rfl, hd⟩ := hrel
    by_cases hlt : k < s.size
    · have hks : (k : Int) < (s.size : Int) := by omega
      obtain ⟨u, hu⟩ : ∃ u, s[k] = u := ⟨_, rfl⟩
      have HAT : Hid (s.data.toList[k]? = some u) := by show _ = _; rw [at_toList hlt, hu]
      obtain ⟨y, hy⟩ : ∃ y, (u.toNat : Int) = y := ⟨_, rfl⟩
      have hy10 : u = 10 ↔ y = 10 := by
        rw [← hy]
        constructor
        · intro h; rw [h]; rfl
        · intro h; exact UInt8.toNat_inj.1 (by show u.toNat = 10; omega)
      have hy32 : u = 32 ↔ y = 32 := by
        rw [← hy]
        constructor
        · intro h; rw [h]; rfl
        · intro h; exact UInt8.toNat_inj.1 (by show u.toNat = 32; omega)
      have HBAD : Hid (u = 32 ∨ u = 10 → plainB s = false) := fun h => by
        unfold plainB
        rw [List.all_eq_false]
        refine ⟨u, List.mem_of_getElem? HAT.out, ?_⟩
        rcases h with rfl | rfl <;> decide
      by_cases h32 : y = 32
      · have HF := Lib.hid (HBAD.out (.inl (hy32.2 h32)))
        have e1 : (y == 32) = true := by simp [h32]
        clear hy10 hy32 h32
        go_wp2
        go_ret
        exact ⟨ret_bool HF.out.symm, rfl⟩
      by_cases h10 : y = 10
      · have HF := Lib.hid (HBAD.out (.inr (hy10.2 h10)))
        have e1 : (y == 32) = false := by simp [h32]
        have e2 : (y == 10) = true := by simp [h10]
        clear hy10 hy32 h32 h10
        go_wp2
        go_ret
        exact ⟨ret_bool HF.out.symm, rfl⟩
      have e1 : (y == 32) = false := by simp [h32]
      have e2 : (y == 10) = false := by simp [h10]
      have HN : Hid (∀ j c, j < k + 1 → s.data.toList[j]? = some c → c ≠ 32 ∧ c ≠ 10) := by
        intro j c hj hc
        rcases Nat.lt_or_ge j k with h | h
        · exact hd.out j c h hc
        · obtain rfl : j = k := by omega
          rw [HAT.out] at hc
          injection hc with hc
          subst hc
          exact ⟨fun h => h32 (hy32.1 h), fun h => h10 (hy10.1 h)⟩
      clear hy10 hy32 h32 h10
      go_wp2
      go_round
      case rel => exact ⟨k + 1, by omega, by go_num, HN⟩
      case measure => simp [intOf] <;> omega
    · obtain rfl : k = s.size := by omega
      have HF : Hid (plainB s = true) := by
        show _ = _
        unfold plainB
        rw [List.all_eq_true]
        intro c hc
        obtain ⟨j, hj⟩ := List.getElem?_of_mem hc
        have hjl : j < s.size := by
          have := (List.getElem?_eq_some_iff.1 hj).1
          rwa [Array.length_toList] at this
        obtain ⟨h1, h2⟩ := hd.out j c hjl hj
        simp [h1, h2]
      go_wp2
      go_ret
      exact ⟨ret_bool HF.out.symm, rfl⟩
theorem dB_take (ps : List ByteArray) (k : Nat) : dB (ps.take k) = (dB ps).take k := by unfold dB; rw [List.map_take]
theorem take_next {ps : List ByteArray} {k : Nat} {p : ByteArray} (h : ps[k]? = some p) : ps.take (k + 1) = ps.take k ++ [p] := by
  obtain ⟨hk, rfl⟩ := List.getElem?_eq_some_iff.1 h
  rw [List.take_succ_eq_append_getElem hk]
/-- the next word joined -/
theorem join_next {ps : List ByteArray} {k : Nat} {p b b' : ByteArray} (h : ps[k]? = some p) (hb : b.data.toList = jl (dB (ps.take k)))
    (hb' : b'.data.toList = if k = 0 then b.data.toList ++ p.data.toList else b.data.toList ++ 32 :: p.data.toList) : b'.data.toList = jl (dB (ps.take (k + 1))) := by
  rw [hb', take_next h]
  have e : dB (ps.take k ++ [p]) = dB (ps.take k) ++ [p.data.toList] := by unfold dB; rw [List.map_append]; rfl
  rw [e, hb]
  by_cases h0 : k = 0
  · subst h0
    simp [dB, jl]
  · rw [if_neg h0, jl_snoc]
    have hk := (List.getElem?_eq_some_iff.1 h).1
    intro hh
    have := congrArg List.length hh
    unfold dB at this
    rw [List.length_map, List.length_take, List.length_nil] at this
    omega
theorem mem_le {p : List UInt8} : ∀ {l : List (List UInt8)}, p ∈ l → p.length ≤ (jl l).length
  | [], h => by cases h
  | [x], h => by
    obtain rfl : p = x := by simpa using h
    exact Nat.le_refl _
  | x :: y :: r, h => by
    rw [jl, List.length_append, List.length_cons]
    rcases List.mem_cons.1 h with rfl | h
    · omega
    · have := mem_le h
      omega
theorem words_small (s : ByteArray) : (jl (dB (wordsR s).1)).length ≤ s.size := by
  obtain ⟨⟨ps, e⟩, h⟩ : ∃ g, wordsR s = g := ⟨_, rfl⟩
  rw [h]
  by_cases he : e = 0
  · subst he
    rw [words_joined h, Array.length_toList]
    exact Nat.le_refl _
  · have : ps = [] := by
      unfold wordsR at h
      split at h
      · cases h; rfl
      · split at h
        · cases h; rfl
        · split at h
          · cases h; rfl
          · cases h; exact absurd rfl he
    subst this
    simp [dB, jl]
theorem sp_data (b p : ByteArray) : ((b ++ (⟨#[32]⟩ : ByteArray)) ++ p).data.toList = b.data.toList ++ 32 :: p.data.toList := by
  rw [ByteArray.data_append, ByteArray.data_append]
  simp
set_option maxRecDepth 100000 in
set_option maxHeartbeats 4000000 in
theorem fieldLine_walk (v0 : Value) (s : ByteArray) (w : World) (_hr : s.size ≤ 140737488351232) (hb : LineIn w v0 s) (henv : Env w) :
    Calls Tryd.prog 7 #[v0, .string s] w fun e w' => e = .returned (.bool true) ∧ Below w.heap.size w w' := by
  obtain ⟨A, n, c, ps, rfl, hx, htot, hs⟩ := hb
  have HX := Lib.hid hx
  have HPL := Lib.hid hx.len
  have hnb : n ≤ 1048576 := by have := hx.len; omega
  have HENV := Lib.hid henv
  have HT : Hid (∀ k (b : ByteArray), b.data.toList = jl (dB (ps.take k)) → b.size ≤ 1048576) := by
    intro k b h
    have h1 : b.size = b.data.toList.length := by rw [Array.length_toList]; rfl
    have h2 := jl_take_le (dB ps) k
    have h3 := jl_le ps
    rw [← dB_take] at h2
    rw [h1, h]
    omega
  have HPS : Hid (∀ (k : Nat) (p : ByteArray), ps[k]? = some p → p.size ≤ 1048576) := by
    intro k p h
    have : ∀ (l : List ByteArray), p ∈ l → p.size ≤ wsum l := by
      intro l
      induction l with
      | nil => intro h; cases h
      | cons q r ih =>
        intro h
        simp only [wsum]
        rcases List.mem_cons.1 h with rfl | h
        · omega
        · have := ih h; omega
    have := this ps (List.mem_of_getElem? h)
    show p.size ≤ _
    omega
  clear hx henv _hr
  go_enter Tryd.func7, Tryd.ntmps7
  go_wp2
  go_loop [5, 6, 18] (fun j f i => ∃ (k : Nat) (b : ByteArray), k ≤ n ∧ i = .int .i64 k ∧ j = .string b ∧ f = .bool ((ps.take k).all okW) ∧ Hid (b.data.toList = jl (dB (ps.take k)))) (fun _ _ i => n - (intOf i).toNat)
  case atStart => exact ⟨0, ByteArray.empty, Nat.zero_le _, rfl, rfl, by simp, by show _ = _; simp [dB, jl]⟩
  case round =>
    obtain ⟨k, b, hk, rfl, rfl, rfl, hbd⟩ := hrel
    by_cases hlt : k < n
    · obtain ⟨bb, o, p, rfl, hbB, hc, hp⟩ := HX.out.cell hlt
      have hb1 := HT.out k b hbd.out
      have hp1 := HPS.out k p hp.out
      have HALL : Hid ((ps.take (k + 1)).all okW = ((ps.take k).all okW && okW p)) := by
        show _ = _
        rw [take_next hp.out, List.all_append]
        simp
      have HPA := Lib.hid (plain_any p w (by omega))
      obtain ⟨f0, hf0⟩ : ∃ f, (ps.take k).all okW = f := ⟨_, rfl⟩
      rw [hf0] at HALL ⊢
      obtain ⟨pe, hpe⟩ : ∃ e, p.toList.isEmpty = e := ⟨_, rfl⟩
      obtain ⟨pp, hpp⟩ : ∃ e, plainB p = e := ⟨_, rfl⟩
      have HOK : Hid (okW p = (!pe && pp)) := by show _ = _; unfold okW; rw [hpe, hpp]
      rw [hpp] at HPA
      clear hf0 hpp
      by_cases hk0 : k = 0
      · have d : ¬ 0 < k := by omega
        have HN : Hid ((b ++ p).data.toList = jl (dB (ps.take (k + 1)))) := join_next hp.out hbd.out (by rw [if_pos hk0, ByteArray.data_append]; simp)
        have hsz : b.size + p.size ≤ 9223372036854775807 := by omega
        clear hk0 hp
        cases f0 <;> cases pe
        all_goals
          go_wp2_with (go_at_call 23; refine HPA.out.mono ?_; rintro e w1 ⟨rfl, rfl⟩)
          go_round
          case rel => exact ⟨k + 1, b ++ p, by omega, by go_num, rfl, by rw [HALL.out, HOK.out]; simp, HN⟩
          case measure => simp [intOf] <;> omega
      · have d : 0 < k := by omega
        have HN : Hid (((b ++ (⟨#[32]⟩ : ByteArray)) ++ p).data.toList = jl (dB (ps.take (k + 1)))) := join_next hp.out hbd.out (by rw [if_neg hk0, sp_data])
        have hsz : b.size + 1 ≤ 9223372036854775807 := by omega
        have hsz2 : b.size + 1 + p.size ≤ 9223372036854775807 := by omega
        clear hk0 hp
        cases f0 <;> cases pe
        all_goals
          go_wp2_with (go_at_call 23; refine HPA.out.mono ?_; rintro e w1 ⟨rfl, rfl⟩)
          go_round
          case rel => exact ⟨k + 1, (b ++ (⟨#[32]⟩ : ByteArray)) ++ p, by omega, by go_num, rfl, by rw [HALL.out, HOK.out]; simp, HN⟩
          case measure => simp [intOf] <;> omega
    · obtain rfl : k = n := by omega
      have htk : ps.take k = ps := List.take_of_length_le (Nat.le_of_eq HPL.out)
      have hb1 := HT.out k b hbd.out
      have hbd2 := hbd.out
      rw [htk] at hbd2 ⊢
      have HJ : Hid (ps.all okW = true → wordsR b = (ps, 0)) := joined_words hbd2
      obtain ⟨fb, hfb⟩ : ∃ f, ps.all okW = f := ⟨_, rfl⟩
      rw [hfb] at HJ ⊢
      clear hfb hbd2 hbd htk
      go_wp2_with fail
      refine (words_any b w (by omega) HENV.out).mono ?_
      rintro e w1 ⟨A1, n1, c1, rfl, hs1, hb1'⟩
      obtain ⟨⟨l1, e1⟩, hw1⟩ : ∃ g, wordsR b = g := ⟨_, rfl⟩
      rw [hw1] at HJ hs1 ⊢
      have HS1 := Lib.hid hs1
      have HB1 := Lib.hid hb1'
      have HX1 := Lib.hid (HX.out.below hb1')
      clear hs1 hb1' hw1
      dsimp only
      cases fb
      case' false =>
        go_wp2_with fail
      case' true =>
        have hj := HJ.out rfl
        simp only [Prod.mk.injEq] at hj
        obtain ⟨rfl, rfl⟩ := hj
        go_wp2_with fail
        refine (sameStrs_true A1 A n1 c1 k c _ _ l1 w1 HS1.out HX1.out (by have h1 : l1.length = n1 := HS1.out.len; have h2 : l1.length = k := HPL.out; omega)).mono ?_
        rintro e w2 ⟨rfl, rfl⟩
        go_wp2_with fail
      all_goals
        clear HS1 HX1 HJ HT HPS HX
        refine (words_any s w1 (by omega) (HENV.out.below HB1.out)).mono ?_
        rintro e w2 ⟨A2, n2, c2, rfl, hs2, hb2⟩
        have hsm := words_small s
        have hln := wordsR_len s
        obtain ⟨⟨qs, e0⟩, hq⟩ : ∃ g, wordsR s = g := ⟨_, rfl⟩
        rw [hq] at hs2 hsm hln ⊢
        have HJL : Hid (e0 = 0 → jl (dB qs) = s.data.toList) := fun h => words_joined (by rw [hq, h])
        have HQ := Lib.hid hs2
        have HB2 := Lib.hid (below3 HB1.out hb2)
        have hqn : qs.length = n2 := hs2.len
        have hqn2 : n2 ≤ 1048577 := by dsimp only at hln; omega
        have HQL := Lib.hid hqn
        have HT2 : Hid (∀ k (b : ByteArray), b.data.toList = jl (dB (qs.take k)) → b.size ≤ 1048576) := by
          intro k b h
          have h1 : b.size = b.data.toList.length := by rw [Array.length_toList]; rfl
          have h2 := jl_take_le (dB qs) k
          rw [← dB_take] at h2
          dsimp only at hsm
          rw [h1, h]
          omega
        have HPS2 : Hid (∀ (k : Nat) (p : ByteArray), qs[k]? = some p → p.size ≤ 1048576) := by
          intro k p h
          have h1 : p.size = p.data.toList.length := by rw [Array.length_toList]; rfl
          have h2 : p.data.toList ∈ dB qs := List.mem_map.2 ⟨p, List.mem_of_getElem? h, rfl⟩
          have h3 := mem_le h2
          dsimp only at hsm
          omega
        clear hs2 hb2 hq hsm hln hqn
        dsimp only
        go_wp2
        go_loop [13, 63] (fun j i => ∃ (k : Nat) (b : ByteArray), k ≤ n2 ∧ i = .int .i64 k ∧ j = .string b ∧ Hid (b.data.toList = jl (dB (qs.take k)))) (fun _ i => n2 - (intOf i).toNat)
        case atStart => exact ⟨0, ByteArray.empty, Nat.zero_le _, rfl, rfl, by show _ = _; simp [dB, jl]⟩
        case round =>
          obtain ⟨k, b, hk, rfl, rfl, hbd⟩ := hrel
          by_cases hlt : k < n2
          · obtain ⟨bb, o, p, rfl, hbB, hc, hp⟩ := HQ.out.cell hlt
            have hb1 := HT2.out k b hbd.out
            have hp1 := HPS2.out k p hp.out
            by_cases hk0 : k = 0
            · have d : ¬ 0 < k := by omega
              have HN : Hid ((b ++ p).data.toList = jl (dB (qs.take (k + 1)))) := join_next hp.out hbd.out (by rw [if_pos hk0, ByteArray.data_append]; simp)
              have hsz : b.size + p.size ≤ 9223372036854775807 := by omega
              clear hk0 hp
              go_wp2
              go_round
              case rel => exact ⟨k + 1, b ++ p, by omega, by go_num, rfl, HN⟩
              case measure => simp [intOf] <;> omega
            · have d : 0 < k := by omega
              have HN : Hid (((b ++ (⟨#[32]⟩ : ByteArray)) ++ p).data.toList = jl (dB (qs.take (k + 1)))) := join_next hp.out hbd.out (by rw [if_neg hk0, sp_data])
              have hsz : b.size + 1 ≤ 9223372036854775807 := by omega
              have hsz2 : b.size + 1 + p.size ≤ 9223372036854775807 := by omega
              clear hk0 hp
              go_wp2
              go_round
              case rel => exact ⟨k + 1, (b ++ (⟨#[32]⟩ : ByteArray)) ++ p, by omega, by go_num, rfl, HN⟩
              case measure => simp [intOf] <;> omega
          · obtain rfl : k = n2 := by omega
            have htk : qs.take k = qs := List.take_of_length_le (Nat.le_of_eq HQL.out)
            have hbd2 := hbd.out
            rw [htk] at hbd2
            have HEQ : Hid (e0 = 0 → b = s) := fun h => bytes_ext (by rw [hbd2, HJL.out h])
            clear hbd2 hbd htk HT2 HPS2
            go_wp2_with fail
            refine (awake_any w2 (HENV.out.below HB2.out)).mono ?_
            rintro e w3 ⟨rfl, hb3⟩
            have HB3 := Lib.hid (below3 HB2.out hb3)
            clear hb3
            by_cases he : e0 = 0
            · have hbs := HEQ.out he
              subst he
              subst hbs
              go_wp2
              go_ret
              exact ⟨by simp, HB3.out⟩
            · have d : (e0 != 0) = true := by simp [he]
              clear he
              go_wp2
              go_ret
              exact ⟨rfl, HB3.out⟩
end Go.Proofs.YtonckpcbehobhaaDoor
