/- Words: the reference's; SameStrings. -/
import Derived.Test.YtonckpcbehobhaaDoorSplitLaw
namespace Go.Proofs.YtonckpcbehobhaaDoor
open Go.RowKit

theorem str_info : (Tryd.prog.info? 9).map (fun i => (i.zero, i.size, i.bytes)) = some (some (.string ByteArray.empty), 1, 16) := by kernel_rfl
/-- a slice of strings of the call's own -/
def StrOwn (w : World) (base : Nat) (v : Value) (n : Nat) (ps : List ByteArray) : Prop := w.ownsRow base 9 1 v n (ps.map Value.string)
theorem StrOwn.strs {w : World} {base n c : Nat} {A : Option Addr} {ps : List ByteArray} (h : StrOwn w base (.slice A n c) n ps) : Strs w w.heap.size A n c ps := Cells.of_own h
theorem StrOwn.push {w : World} {base l N : Nat} {v : Value} {ps : List ByteArray} (h : StrOwn w base v l ps) (b : ByteArray) (hN : N = w.heap.size) (hbase : base ≤ w.heap.size) (hl : l ≤ 4294967290) :
    ∃ v' w', (Builtin.append_ #[35, 35] 35 #[v, .slice (some ⟨N, 0, none⟩) 1 1]).run Tryd.prog (w.alloc (.cells #[.string b] 9)) = .ok v' w' ∧ StrOwn w' base v' (l + 1) (ps ++ [b]) ∧ Below base w w' := by
  have hs := strs_new w N hN [b] 1 rfl (by simp [maxLen]) (N + 1) (by omega)
  obtain ⟨v', w', h1, h2, h3, h4⟩ := Cells.append (P := Tryd.prog) (t := 35) (ty := 35) Tryd.underlying35 str_info rfl (by omega) (World.ownsRow.alloc h (.cells #[.string b] 9)) hs (by intro u hu; simp at hu; subst hu; rfl) (by simp only [maxLen]; omega) (by omega) (by simp; omega)
  refine ⟨v', w', h1, ?_, ?_⟩
  · unfold StrOwn
    rw [List.map_append]
    exact h2
  · exact ((Below.refl _ _).alloc hbase _).grown h3 (by simp; omega) (fun k hk => (World.ownsRow.lt h k hk).1)
theorem ext_one {s : ByteArray} {k : Nat} (h : k < s.size) : (s.extract k (k + 1)).data.toList = [s[k]] := by
  have h' : k < s.data.size := h
  have e : (s.extract k (k + 1)).data.toList = (s.data.toList.drop k).take 1 := by
    rw [Lib.extract_data]
    simp
  rw [e, drop_at h]
  rfl
/-- the loop -/
def WLoop (w : World) (s : ByteArray) (o wd i : Value) (wr : World) : Prop :=
  ∃ (k m : Nat) (out : List ByteArray) (b : ByteArray), i = .int .i64 k ∧ wd = .string b ∧ m ≤ k ∧ b.size ≤ k ∧ k ≤ s.size + 1 ∧ StrOwn wr w.heap.size o m out ∧ Below w.heap.size w wr ∧
    ((k ≤ s.size ∧ WInv s k out b) ∨ (k = s.size + 1 ∧ wordsR s = (out, 0)))
set_option maxHeartbeats 2000000 in
theorem refWords_any (s : ByteArray) (w : World) (hs : s.size < 4294967281) :
    Calls Tryd.prog 21 #[.string s] w (GivesStrs (wordsR s) w) := by
  by_cases h0 : s.size = 0
  · have he : s.toList.isEmpty = true := by rw [isEmpty_size]; simp [h0]
    have HF := Lib.hid (wordsR_nil h0)
    clear h0
    go_enter Tryd.func21, Tryd.ntmps21
    go_wp2
    go_ret2
    rw [HF.out]
    exact ⟨_, _, _, rfl, Strs.nil, Below.refl _ _⟩
  have he : s.toList.isEmpty = false := by rw [isEmpty_size]; simp [h0]
  have H0 := Lib.hid h0
  clear h0
  go_enter Tryd.func21, Tryd.ntmps21
  go_wp2
  go_loopw [4, 5, 6] (fun o wd i wr => WLoop w s o wd i wr) (fun _ _ i _ => s.size + 2 - (intOf i).toNat)
  case atStart => exact ⟨0, 0, [], ByteArray.empty, rfl, rfl, Nat.le_refl _, Nat.le_refl _, by omega, World.ownsRow_nil _ _ _ _, Below.refl _ _, .inl ⟨by omega, WInv.start s⟩⟩
  case round =>
    obtain ⟨k, m, out, b, rfl, rfl, hmk, hbk, hk, ho, hb, hor⟩ := hrel
    have HO := Lib.hid ho
    have HB := Lib.hid hb
    clear ho hb
    rcases hor with ⟨hle, hinv⟩ | ⟨rfl, hdone⟩
    case inr =>
      have HF := Lib.hid hdone
      have d1 : decide (((s.size + 1 : Nat) : Int) ≤ (s.size : Int)) = false := by simp; omega
      obtain ⟨A, c, rfl⟩ := own_form HO.out
      clear hdone
      go_wp2
      go_ret2
      rw [HF.out]
      exact ⟨A, m, c, rfl, HO.out.strs, HB.out⟩
    have HI := Lib.hid hinv
    clear hinv
    have d1 : decide ((k : Int) ≤ (s.size : Int)) = true := by simp; omega
    by_cases hlt : k < s.size
    · have hks : (k : Int) < (s.size : Int) := by omega
      obtain ⟨u, hu⟩ : ∃ u, s[k] = u := ⟨_, rfl⟩
      obtain ⟨y, hy⟩ : ∃ y, (u.toNat : Int) = y := ⟨_, rfl⟩
      have hy10 : u = 10 ↔ y = 10 := by
        rw [← hy]
        constructor
        · intro h; rw [h]; rfl
        · intro h; exact UInt8.toNat_inj.1 (by show u.toNat = 10; omega)
      have hy32 : u = 32 ↔ y = 32 := by
        rw [← hy]
        constructor
        · intro h; rw [h]; rfl
        · intro h; exact UInt8.toNat_inj.1 (by show u.toNat = 32; omega)
      by_cases h10 : y = 10
      · have HF := Lib.hid (lf_bad H0.out hlt (hu.trans (hy10.2 h10)))
        have e1 : (y == 10) = true := by simp [h10]
        clear hy10 hy32 h10
        go_wp2
        go_ret2
        rw [HF.out]
        exact ⟨_, _, _, rfl, Strs.nil, HB.out⟩
      have e1 : (y == 10) = false := by simp [h10]
      by_cases h32 : y = 32
      · have e2 : (y != 32) = false := by simp [h32]
        have HU : Hid (s[k] = 32) := hu.trans (hy32.2 h32)
        clear hy10 hy32 h10 h32
        by_cases hb0 : b.size = 0
        · have eb : b.toList.isEmpty = true := by rw [isEmpty_size]; simp [hb0]
          have HF := Lib.hid (HI.out.gap H0.out hlt HU.out hb0)
          clear hb0
          go_wp2
          go_ret2
          rw [HF.out]
          exact ⟨_, _, _, rfl, Strs.nil, HB.out⟩
        · have eb : b.toList.isEmpty = false := by rw [isEmpty_size]; simp [hb0]
          have HN := Lib.hid (HI.out.space hlt HU.out hb0)
          obtain ⟨v2, w2, hrun, ho2, hb2⟩ := HO.out.push b rfl HB.out.size (by omega)
          have HR := Lib.hid hrun
          have HO2 := Lib.hid ho2
          have HB2 := Lib.hid (HB.out.trans hb2)
          clear hb0 hrun ho2 hb2
          go_wp2_with (at_builtin; refine wpList_append_run rfl _ _ _ rfl rfl rfl HR.out ?_)
          go_roundw
          case rel => exact ⟨k + 1, m + 1, out ++ [b], ByteArray.empty, by go_num, rfl, by omega, Nat.zero_le _, by omega, HO2.out, HB2.out, .inl ⟨by omega, HN.out⟩⟩
          case measure => simp [intOf] <;> omega
      · have e2 : (y != 32) = true := by simp [h32]
        clear h10 h32
        have HU10 : Hid (s[k] ≠ 10) := fun h => by
          have := hy10.1 (hu.symm.trans h)
          rw [this] at e1
          cases e1
        have HU32 : Hid (s[k] ≠ 32) := fun h => by
          have := hy32.1 (hu.symm.trans h)
          rw [this] at e2
          cases e2
        have hx := ext_one hlt
        have hxs : (s.extract k (k + 1)).size = 1 := by
          show (s.extract k (k + 1)).data.size = 1
          rw [← Array.length_toList, hx]
          rfl
        have HN : Hid (WInv s (k + 1) out (b ++ s.extract k (k + 1))) := HI.out.char hlt HU10.out HU32.out (by rw [ByteArray.data_append, Array.toList_append, hx])
        have HZ : Hid ((b ++ s.extract k (k + 1)).size ≤ k + 1) := by
          show _ ≤ _
          rw [ByteArray.size_append, hxs]
          omega
        clear hx hxs hy10 hy32
        go_wp2
        go_roundw
        case rel => exact ⟨k + 1, m, out, b ++ s.extract k (k + 1), by go_num, rfl, by omega, HZ.out, by omega, HO.out, HB.out, .inl ⟨by omega, HN.out⟩⟩
        case measure => simp [intOf] <;> omega
    · obtain rfl : k = s.size := by omega
      have d2 : decide ((s.size : Int) < (s.size : Int)) = false := by simp
      by_cases hb0 : b.size = 0
      · have eb : b.toList.isEmpty = true := by rw [isEmpty_size]; simp [hb0]
        have HF := Lib.hid (HI.out.endGap H0.out hb0)
        clear hb0
        go_wp2
        go_ret2
        rw [HF.out]
        exact ⟨_, _, _, rfl, Strs.nil, HB.out⟩
      · have eb : b.toList.isEmpty = false := by rw [isEmpty_size]; simp [hb0]
        have HN := Lib.hid (HI.out.done H0.out hb0)
        obtain ⟨v2, w2, hrun, ho2, hb2⟩ := HO.out.push b rfl HB.out.size (by omega)
        have HR := Lib.hid hrun
        have HO2 := Lib.hid ho2
        have HB2 := Lib.hid (HB.out.trans hb2)
        clear hb0 hrun ho2 hb2
        go_wp2_with (at_builtin; refine wpList_append_run rfl _ _ _ rfl rfl rfl HR.out ?_)
        go_roundw
        case rel => exact ⟨s.size + 1, m + 1, out ++ [b], ByteArray.empty, by go_num, rfl, by omega, Nat.zero_le _, Nat.le_refl _, HO2.out, HB2.out, .inr ⟨rfl, HN.out⟩⟩
        case measure => simp [intOf] <;> omega
set_option maxHeartbeats 1000000 in
theorem sameStrs_true (A B : Option Addr) (n c m d N M : Nat) (ps : List ByteArray) (w : World) (hx : Strs w N A n c ps) (hy : Strs w M B m d ps) (hn : n ≤ 17592186044416) :
    Calls Tryd.prog 22 #[.slice A n c, .slice B m d] w fun e w' => e = .returned (.bool true) ∧ w = w' := by
  obtain rfl : m = n := by rw [← hx.len, ← hy.len]
  have HX := Lib.hid hx
  have HY := Lib.hid hy
  clear hx hy
  go_enter Tryd.func22, Tryd.ntmps22
  go_wp2
  go_loop [14] (fun i => ∃ k : Nat, k ≤ m ∧ i = .int .i64 k) (fun i => m - (intOf i).toNat)
  case atStart => exact ⟨0, Nat.zero_le _, rfl⟩
  case round =>
    obtain ⟨k, hk, rfl⟩ := hrel
    by_cases hlt : k < m
    · obtain ⟨b, o, p, rfl, hb, g0, hp⟩ := HX.out.cell hlt
      obtain ⟨b', o', q, rfl, hb', g1, hq⟩ := HY.out.cell hlt
      obtain rfl : p = q := by
        have h1 := hp.out
        have h2 := hq.out
        rw [h1] at h2
        exact Option.some.inj h2
      clear hp hq
      go_wp2
      go_round
      case rel => exact ⟨k + 1, by omega, by go_num⟩
      case measure => simp [intOf] <;> omega
    · obtain rfl : k = m := by omega
      go_wp2
      go_ret
      exact ⟨rfl, rfl⟩
end Go.Proofs.YtonckpcbehobhaaDoor
