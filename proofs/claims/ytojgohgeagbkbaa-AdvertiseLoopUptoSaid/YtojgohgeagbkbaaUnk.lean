/- Lists of unknown attributes: what they read as, their error. -/
import Derived.Test.YtojgohgeagbkbaaComm
import Derived.Test.YtojgohgeagbkbaaCheck
namespace Go.Proofs.Ytojgohgeagbkbaa
open Go.RowKit

/-- a list of fields that reads -/
def Tlvs (w : World) (B : Nat) (A : Option Addr) (n c : Nat) (ts : Path) : Prop := ∃ fs : List SV, Recs w B 2 A n c SV.vals fs ∧ fs.map SV.key = ts ∧ ∀ t ∈ fs, Ints w B .u8 t.A t.n t.c t.xs
theorem Tlvs.below {w w' : World} {B n c : Nat} {A : Option Addr} {ts : Path} (h : Tlvs w B A n c ts) (hb : Below B w w') : Tlvs w' B A n c ts := by
  obtain ⟨fs, h1, h2, h3⟩ := h
  exact ⟨fs, h1.below hb, h2, fun t ht => (h3 t ht).below hb⟩
theorem Tlvs.more {w : World} {B B' n c : Nat} {A : Option Addr} {ts : Path} (h : Tlvs w B A n c ts) (hB : B ≤ B') : Tlvs w B' A n c ts := by
  obtain ⟨fs, h1, h2, h3⟩ := h
  exact ⟨fs, h1.more hB, h2, fun t ht => (h3 t ht).more hB⟩
theorem Tlvs.grow {w w' : World} {B n c : Nat} {A : Option Addr} {ts : Path} (h : Tlvs w B A n c ts) (hb : Below B w w') (hB : B ≤ w.heap.size) : Tlvs w' w'.heap.size A n c ts := (h.below hb).more (Nat.le_trans hB hb.size)
theorem Tlvs.nil (w : World) (B : Nat) : Tlvs w B none 0 0 [] := ⟨[], ⟨Cells.nil _ _ _, rfl⟩, rfl, fun t h => by cases h⟩
theorem Tlvs.get {w : World} {B n c : Nat} {A : Option Addr} {ts : Path} (h : Tlvs w B A n c ts) {j : Nat} (hj : j < n) :
    ∃ (b o : Nat) (f : SV), A = some ⟨b, o, none⟩ ∧ b < B ∧ Hid (ts[j]? = some f.key) ∧ w.cell? ⟨b, o + j * 2, none⟩ = some (.int .i64 f.kind) ∧ w.cell? ⟨b, o + j * 2 + 1, none⟩ = some (.slice f.A f.n f.c) ∧ Hid (Ints w B .u8 f.A f.n f.c f.xs) := by
  obtain ⟨fs, h1, h2, h3⟩ := h
  obtain ⟨b, o, f, e, hb, hf, hc⟩ := h1.get SV.vals_len hj
  refine ⟨b, o, f, e, hb, ?_, hc 0 (by omega), hc 1 (by omega), h3 f (List.mem_of_getElem? hf)⟩
  rw [← h2]
  show (fs.map SV.key)[j]? = _
  rw [List.getElem?_map, hf]
  rfl
theorem Tlvs.len {w : World} {B n c : Nat} {A : Option Addr} {ts : Path} (h : Tlvs w B A n c ts) : ts.length = n := by
  obtain ⟨fs, h1, h2, _⟩ := h
  rw [← h2, List.length_map]
  exact h1.2
/-- the error of a list of unknown attributes -/
def leK (prev : Option Int) (k : Int) : Bool := match prev with
  | none => false
  | some q => decide (k ≤ q)
def unkF : Option Int → Path → Int
  | _, [] => 0
  | prev, s :: r => if s.1 ≤ 10 ∨ 255 < s.1 then 15 else if leK prev s.1 = true then 16 else if 255 < s.2.length then 4 else unkF (some s.1) r
def unkE (l : Path) : Int := if 64 < l.length then 4 else unkF none l
def prevK (p : Path) (k : Nat) : Option Int := if k = 0 then none else (p[k - 1]?).map (·.1)
section
variable {p : Path} {k : Nat} {s : Int × List Int} {pr : Option Int}
theorem unk_kind (h : p[k]? = some s) (he : s.1 ≤ 10 ∨ 255 < s.1) : unkF pr (p.drop k) = 15 := by rw [drop_get h, unkF, if_pos he]
theorem unk_order (h : p[k]? = some s) (he : ¬ (s.1 ≤ 10 ∨ 255 < s.1)) (hl : leK pr s.1 = true) : unkF pr (p.drop k) = 16 := by rw [drop_get h, unkF, if_neg he, if_pos hl]
theorem unk_long (h : p[k]? = some s) (he : ¬ (s.1 ≤ 10 ∨ 255 < s.1)) (hl : leK pr s.1 = false) (h2 : 255 < s.2.length) : unkF pr (p.drop k) = 4 := by rw [drop_get h, unkF, if_neg he, if_neg (by rw [hl]; simp), if_pos h2]
theorem unk_next (h : p[k]? = some s) (he : ¬ (s.1 ≤ 10 ∨ 255 < s.1)) (hl : leK pr s.1 = false) (h2 : ¬ 255 < s.2.length) : unkF pr (p.drop k) = unkF (prevK p (k + 1)) (p.drop (k + 1)) := by
  rw [drop_get h, unkF, if_neg he, if_neg (by rw [hl]; simp), if_neg h2]
  have e : prevK p (k + 1) = some s.1 := by unfold prevK; rw [if_neg (by omega), Nat.add_sub_cancel, h]; rfl
  rw [e]
end
def UInv (w : World) (p : Path) (n : Nat) (iv : Value) (W : World) : Prop := ∃ k : Nat, k ≤ n ∧ iv = .int .i64 k ∧ Hid (unkE p = unkF (prevK p k) (p.drop k)) ∧ Hid (Below w.heap.size w W)
set_option linter.unusedSimpArgs false in
set_option maxRecDepth 100000 in
set_option maxHeartbeats 4000000 in
theorem unknown_any (A : Option Addr) (n c : Nat) (p : Path) (w : World) (hx : Tlvs w w.heap.size A n c p) (hn : n ≤ 140737488355328) :
    Calls Try.prog 69 #[.slice A n c] w fun e w' => e = .returned (.int .i64 (unkE p)) ∧ Below w.heap.size w w' := by
  have HX := Lib.hid hx
  have HL := Lib.hid hx.len
  clear hx
  by_cases h64 : 64 < n
  · have d : decide ((n : Int) > 64) = true := by simp; omega
    have HF : Hid (unkE p = 4) := if_pos (by rw [HL.out]; exact h64)
    go_enter Try.func69, Try.ntmps69
    go_wp2
    go_ret
    exact ⟨by rw [HF.out]; rfl, Below.refl _ _⟩
  have d64 : decide ((n : Int) > 64) = false := by simp; omega
  have hn64 : n ≤ 64 := by omega
  have HP : Hid (unkE p = unkF (prevK p 0) (p.drop 0)) := if_neg (by rw [HL.out]; exact h64)
  clear h64
  go_enter Try.func69, Try.ntmps69
  go_wp2
  go_loopw [10] (fun iv wr => UInv w p n iv wr) (fun i _ => n - (intOf i).toNat)
  case atStart => exact ⟨0, Nat.zero_le _, rfl, HP, Below.refl _ _⟩
  case round =>
    obtain ⟨k, hk, rfl, hpe, hbw⟩ := hrel
    by_cases hlt : k < n
    case neg =>
      obtain rfl : k = n := by omega
      have HF : Hid (unkE p = 0) := by
        show _ = _
        rw [hpe.out, List.drop_of_length_le (by rw [HL.out]; exact Nat.le_refl _), unkF]
      go_wp2
      go_ret
      exact ⟨by rw [HF.out]; rfl, hbw.out⟩
    have HXR : Hid (Tlvs wr w.heap.size A n c p) := HX.out.below hbw.out
    obtain ⟨b, o, f, rfl, hbB, hf, g0, g1, hi⟩ := HXR.out.get hlt
    obtain ⟨y, fA, fn, fc, xs⟩ := f
    dsimp only at g0 g1 hi
    have hwr := hbw.out.size
    have hbr : b < wr.heap.size := by omega
    have HF : Hid (p[k]? = some (y, xs)) := hf
    have HLX : Hid (xs.length = fn) := hi.out.len
    have HBA : Hid (Below w.heap.size w (wr.alloc (.cells #[.int .i64 y, .slice fA fn fc] 88))) := below3 hbw.out (belowA _ _)
    have hp0 : k = 0 → leK (prevK p k) y = false := fun h => by rw [h]; rfl
    clear hf hi
    by_cases hk1 : y ≤ 10
    · have HF2 : Hid (unkE p = 15) := by show _ = _; rw [hpe.out, unk_kind HF.out (.inl hk1)]
      have d1 : decide (y ≤ 10) = true := by simp [hk1]
      go_wp2
      go_ret
      exact ⟨by rw [HF2.out]; rfl, HBA.out⟩
    have d1 : decide (y ≤ 10) = false := by simp; omega
    by_cases hk2 : 255 < y
    · have HF2 : Hid (unkE p = 15) := by show _ = _; rw [hpe.out, unk_kind HF.out (.inr hk2)]
      have d2 : decide (y > 255) = true := by simp; omega
      go_wp2
      go_ret
      exact ⟨by rw [HF2.out]; rfl, HBA.out⟩
    have d2 : decide (y > 255) = false := by simp; omega
    have HK : Hid (¬ (y ≤ 10 ∨ 255 < y)) := fun h => by omega
    by_cases hk0 : k = 0
    · subst hk0
      have HLE : Hid (leK (prevK p 0) y = false) := rfl
      have d0 : decide (((0 : Nat) : Int) > 0) = false := by simp
      have d0' : decide ((0 : Int) > 0) = false := by simp
      simp only [Nat.zero_mul, Nat.add_zero] at g0 g1
      by_cases hln : 255 < fn
      · have HF2 : Hid (unkE p = 4) := by show _ = _; rw [hpe.out, unk_long HF.out HK.out HLE.out (by dsimp only; rw [HLX.out]; exact hln)]
        have dl : decide ((fn : Int) > 255) = true := by simp; omega
        clear hp0 hpe
        go_wp2
        go_quiet (fail)
        go_wp2
        go_ret
        exact ⟨by rw [HF2.out]; rfl, below_drewN HBA.out _⟩
      · have HN : Hid (unkE p = unkF (prevK p (0 + 1)) (p.drop (0 + 1))) := by show _ = _; rw [hpe.out, unk_next HF.out HK.out HLE.out (by dsimp only; rw [HLX.out]; exact hln)]
        have dl : decide ((fn : Int) > 255) = false := by simp; omega
        clear hp0 hpe
        go_wp2
        go_quiet (fail)
        go_wp2
        go_roundw
        case rel => exact ⟨0 + 1, by omega, by go_num, HN, below_drewN HBA.out _⟩
        case measure => simp [intOf]; omega
    obtain ⟨b', o', f', he', hbB', hf', g0', g1', hi'⟩ := HXR.out.get (j := k - 1) (by omega)
    obtain ⟨rfl, rfl⟩ : b = b' ∧ o = o' := by simpa using he'
    obtain ⟨z, fA', fn', fc', xs'⟩ := f'
    dsimp only at g0' g1' hi'
    have HPK : Hid (prevK p k = some z) := by
      show _ = _
      unfold prevK
      rw [if_neg hk0, hf'.out]
      rfl
    have dk : decide ((k : Int) > 0) = true := by simp; omega
    have hk1 : 0 < k := by omega
    have nz : ((k : Int) - 1).toNat = k - 1 := by omega
    have p1 : 0 ≤ (k : Int) - 1 := by omega
    have p2 : (k : Int) - 1 < (n : Int) := by omega
    clear hf' hi' he' hp0
    by_cases hyz : y ≤ z
    · have HF2 : Hid (unkE p = 16) := by show _ = _; rw [hpe.out, unk_order HF.out HK.out (by rw [HPK.out]; simpa [leK] using hyz)]
      have d : decide (y ≤ z) = true := by simp [hyz]
      clear hpe
      go_wp2
      go_quiet (fail)
      go_wp2
      go_ret
      exact ⟨by rw [HF2.out]; rfl, below_drewN HBA.out _⟩
    have d : decide (y ≤ z) = false := by simp; omega
    have HLE : Hid (leK (prevK p k) y = false) := by show _ = _; rw [HPK.out]; simpa [leK] using hyz
    by_cases hln : 255 < fn
    · have HF2 : Hid (unkE p = 4) := by show _ = _; rw [hpe.out, unk_long HF.out HK.out HLE.out (by dsimp only; rw [HLX.out]; exact hln)]
      have dl : decide ((fn : Int) > 255) = true := by simp; omega
      clear hpe
      go_wp2
      go_quiet (fail)
      go_wp2
      go_ret
      exact ⟨by rw [HF2.out]; rfl, below_drewN HBA.out _⟩
    · have HN : Hid (unkE p = unkF (prevK p (k + 1)) (p.drop (k + 1))) := by show _ = _; rw [hpe.out, unk_next HF.out HK.out HLE.out (by dsimp only; rw [HLX.out]; exact hln)]
      have dl : decide ((fn : Int) > 255) = false := by simp; omega
      clear hpe
      go_wp2
      go_quiet (fail)
      go_wp2
      go_roundw
      case rel => exact ⟨k + 1, by omega, by go_num, HN, below_drewN HBA.out _⟩
      case measure => simp [intOf]; omega
end Go.Proofs.Ytojgohgeagbkbaa
