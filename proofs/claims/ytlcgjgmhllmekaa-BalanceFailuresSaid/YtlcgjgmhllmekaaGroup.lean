/- A group's paths in memory; the error of a path and of a group: the program's and the reference's texts return the same. -/
import Derived.Test.YtlcgjgmhllmekaaBase
namespace Go.Proofs.Ytlcgjgmhllmekaa
open Go.RowKit

/-- a path: its numbers, and its labels as a slice with what it reads as -/
structure PV where
  iface : Int
  addr : Int
  router : Int
  weight : Int
  A : Option Addr
  ln : Nat
  lc : Nat
  ls : List Int
  backup : Int
def PV.vals (p : PV) : List Value := [.int .i64 p.iface, .int .u32 p.addr, .int .u32 p.router, .int .i64 p.weight, .slice p.A p.ln p.lc, .int .i64 p.backup]
theorem PV.vals_len (p : PV) : p.vals.length = 6 := rfl
/-- a slice of paths -/
def Paths (w : World) (B : Nat) (A : Option Addr) (n c : Nat) (ps : List PV) : Prop := Recs w B 6 A n c PV.vals ps ∧ ∀ p ∈ ps, Ints w B .i64 p.A p.ln p.lc p.ls
section
variable {w w' : World} {B B' : Nat} {A : Option Addr} {n c : Nat} {ps : List PV}
theorem Paths.below (h : Paths w B A n c ps) (hb : Below B w w') : Paths w' B A n c ps := ⟨h.1.below hb, fun p hp => (h.2 p hp).below hb⟩
theorem Paths.more (h : Paths w B A n c ps) (hB : B ≤ B') : Paths w B' A n c ps := ⟨h.1.more hB, fun p hp => (h.2 p hp).more hB⟩
theorem Paths.len (h : Paths w B A n c ps) : ps.length = n := h.1.2
theorem Paths.get (h : Paths w B A n c ps) {j : Nat} (hj : j < n) :
    ∃ b o p, A = some ⟨b, o, none⟩ ∧ b < B ∧ ps[j]? = some p ∧ Ints w B .i64 p.A p.ln p.lc p.ls ∧ w.cell? ⟨b, o + j * 6, none⟩ = some (.int .i64 p.iface) ∧ w.cell? ⟨b, o + j * 6 + 1, none⟩ = some (.int .u32 p.addr) ∧
      w.cell? ⟨b, o + j * 6 + 2, none⟩ = some (.int .u32 p.router) ∧ w.cell? ⟨b, o + j * 6 + 3, none⟩ = some (.int .i64 p.weight) ∧ w.cell? ⟨b, o + j * 6 + 4, none⟩ = some (.slice p.A p.ln p.lc) ∧ w.cell? ⟨b, o + j * 6 + 5, none⟩ = some (.int .i64 p.backup) := by
  obtain ⟨b, o, p, e, hb, hp, hc⟩ := h.1.get PV.vals_len hj
  exact ⟨b, o, p, e, hb, hp, h.2 p (List.mem_of_getElem? hp), hc 0 (by omega), hc 1 (by omega), hc 2 (by omega), hc 3 (by omega), hc 4 (by omega), hc 5 (by omega)⟩
end

def labOK (y : Int) : Bool := decide (16 ≤ y) && decide (y ≤ 1048575)
/-- the error of a path at index i of a group with so many active and so many paths -/
def pErr (act : Int) (np i : Nat) (p : PV) : Int :=
  if p.iface < 0 ∨ 16 ≤ p.iface ∨ p.weight < 0 ∨ 65535 < p.weight then 5
  else if 16 < p.ln then 4
  else if ¬ p.ls.all labOK = true then 5
  else if p.backup ≠ -1 ∧ (act ≤ i ∨ p.backup < act ∨ (np : Int) ≤ p.backup) then 5 else 0
section
variable {act : Int} {np i : Nat} {p : PV}
theorem pErr_range (h : p.iface < 0 ∨ 16 ≤ p.iface ∨ p.weight < 0 ∨ 65535 < p.weight) : pErr act np i p = 5 := by rw [pErr, if_pos h]
theorem pErr_long (h : ¬ (p.iface < 0 ∨ 16 ≤ p.iface ∨ p.weight < 0 ∨ 65535 < p.weight)) (h1 : 16 < p.ln) : pErr act np i p = 4 := by rw [pErr, if_neg h, if_pos h1]
theorem pErr_label (h : ¬ (p.iface < 0 ∨ 16 ≤ p.iface ∨ p.weight < 0 ∨ 65535 < p.weight)) (h1 : ¬ 16 < p.ln) {j : Nat} (hj : j < p.ls.length) (h2 : labOK (p.ls.getD j 0) = false) : pErr act np i p = 5 := by
  rw [pErr, if_neg h, if_neg h1, if_pos]
  intro h3
  have := List.all_eq_true.1 h3 _ (List.getElem_mem hj)
  rw [List.getD_eq_getElem?_getD, List.getElem?_eq_getElem hj] at h2
  simp [this] at h2
theorem all_of {ls : List Int} (h : ∀ j, j < ls.length → labOK (ls.getD j 0) = true) : ls.all labOK = true := by
  rw [List.all_eq_true]
  intro y hy
  obtain ⟨j, hj, rfl⟩ := List.getElem_of_mem hy
  have := h j hj
  rw [List.getD_eq_getElem?_getD, List.getElem?_eq_getElem hj] at this
  exact this
theorem pErr_back (h : ¬ (p.iface < 0 ∨ 16 ≤ p.iface ∨ p.weight < 0 ∨ 65535 < p.weight)) (h1 : ¬ 16 < p.ln) (h2 : p.ls.all labOK = true) (h3 : p.backup ≠ -1 ∧ (act ≤ i ∨ p.backup < act ∨ (np : Int) ≤ p.backup)) : pErr act np i p = 5 := by
  rw [pErr, if_neg h, if_neg h1, if_neg (fun hh => hh h2), if_pos h3]
theorem pErr_ok (h : ¬ (p.iface < 0 ∨ 16 ≤ p.iface ∨ p.weight < 0 ∨ 65535 < p.weight)) (h1 : ¬ 16 < p.ln) (h2 : p.ls.all labOK = true) (h3 : ¬ (p.backup ≠ -1 ∧ (act ≤ i ∨ p.backup < act ∨ (np : Int) ≤ p.backup))) : pErr act np i p = 0 := by
  rw [pErr, if_neg h, if_neg h1, if_neg (fun hh => hh h2), if_neg h3]
end

set_option maxHeartbeats 2000000 in
theorem checkPath_any (A : Option Addr) (n c B i : Nat) (act : Int) (ps : List PV) (w : World) (hx : Paths w B A n c ps) (hB : B ≤ w.heap.size) {p : PV} (hp : ps[i]? = some p) :
    Calls Try.prog 26 #[.agg #[.int .i64 act, .slice A n c], .int .i64 i] w fun e w' => e = .returned (.int .i64 (pErr act n i p)) ∧ Below w.heap.size w w' := by
  have hi : i < n := by
    have := (List.getElem?_eq_some_iff.1 hp).1
    have := hx.len
    omega
  obtain ⟨b, o, p', rfl, hbB, hp', hl, c0, c1, c2, c3, c4, c5⟩ := hx.get hi
  rw [hp] at hp'
  simp only [Option.some.injEq] at hp'
  subst hp'
  have hbw : b < w.heap.size := by omega
  have HB := Lib.hid (((Below.refl w.heap.size w).alloc (Nat.le_refl _) (.cells #[.int .i64 act, .slice (some ⟨b, o, none⟩) n c] 24)).alloc (by simp) (.cells #[.int .i64 p.iface, .int .u32 p.addr, .int .u32 p.router, .int .i64 p.weight, .slice p.A p.ln p.lc, .int .i64 p.backup] 38))
  have hll := hl.len
  clear hx
  by_cases h1 : p.iface < 0
  · have HE : Hid (pErr act n i p = 5) := pErr_range (by omega)
    clear hl hll hp
    go_enter Try.func26, Try.ntmps26
    go_wp2
    go_ret
    exact ⟨ret_int HE.out.symm, HB.out⟩
  by_cases h2 : 16 ≤ p.iface
  · have HE : Hid (pErr act n i p = 5) := pErr_range (by omega)
    clear hl hll hp
    go_enter Try.func26, Try.ntmps26
    go_wp2
    go_ret
    exact ⟨ret_int HE.out.symm, HB.out⟩
  by_cases h3 : p.weight < 0
  · have HE : Hid (pErr act n i p = 5) := pErr_range (by omega)
    clear hl hll hp
    go_enter Try.func26, Try.ntmps26
    go_wp2
    go_ret
    exact ⟨ret_int HE.out.symm, HB.out⟩
  by_cases h4 : 65535 < p.weight
  · have HE : Hid (pErr act n i p = 5) := pErr_range (by omega)
    clear hl hll hp
    go_enter Try.func26, Try.ntmps26
    go_wp2
    go_ret
    exact ⟨ret_int HE.out.symm, HB.out⟩
  have h0 : ¬ (p.iface < 0 ∨ 16 ≤ p.iface ∨ p.weight < 0 ∨ 65535 < p.weight) := by omega
  by_cases h5 : 16 < p.ln
  · have HE : Hid (pErr act n i p = 4) := pErr_long h0 h5
    clear hl hll hp h0
    go_enter Try.func26, Try.ntmps26
    go_wp2
    go_ret
    exact ⟨ret_int HE.out.symm, HB.out⟩
  have H0 := Lib.hid h0
  have HL := Lib.hid hll
  have h5' : p.ln ≤ 16 := by omega
  clear hll hp h0
  go_enter Try.func26, Try.ntmps26
  go_wp2
  go_loop [38] (fun k => ∃ q : Nat, q ≤ p.ln ∧ k = .int .i64 q ∧ Hid (∀ j, j < q → labOK (p.ls.getD j 0) = true)) (fun k => p.ln - (intOf k).toNat)
  case atStart => exact ⟨0, Nat.zero_le _, rfl, fun j hj => absurd hj (by omega)⟩
  case round =>
    obtain ⟨q, hq, rfl, hall⟩ := hrel
    by_cases hlt : q < p.ln
    · obtain ⟨b', o', y, hA, hbB', hc, HY⟩ := hl.cell hlt
      rw [hA] at HB ⊢
      have hbw' : b' < w.heap.size := by omega
      clear hA c4
      by_cases y1 : y < 16
      · have HE : Hid (pErr act n i p = 5) := pErr_label H0.out h5 (j := q) (by rw [HL.out]; exact hlt) (by rw [HY.out]; simp [labOK]; omega)
        clear hl
        go_wp2
        go_ret
        exact ⟨ret_int HE.out.symm, HB.out⟩
      · by_cases y2 : 1048575 < y
        · have HE : Hid (pErr act n i p = 5) := pErr_label H0.out h5 (j := q) (by rw [HL.out]; exact hlt) (by rw [HY.out]; simp [labOK]; omega)
          clear hl
          go_wp2
          go_ret
          exact ⟨ret_int HE.out.symm, HB.out⟩
        · have HN : Hid (∀ j, j < q + 1 → labOK (p.ls.getD j 0) = true) := by
            intro j hj
            rcases Nat.lt_or_ge j q with h | h
            · exact hall.out j h
            · obtain rfl : j = q := by omega
              rw [HY.out]
              simp [labOK]
              omega
          clear hl
          go_wp2
          go_round
          case rel => exact ⟨q + 1, by omega, by go_num, HN⟩
          case measure => simp [intOf]; omega
    · obtain rfl : q = p.ln := by omega
      have hA : p.ls.all labOK = true := all_of (fun j hj => hall.out j (by rw [← HL.out]; exact hj))
      clear hl hall
      by_cases k1 : p.backup = -1
      · have HE : Hid (pErr act n i p = 0) := pErr_ok H0.out h5 hA (by omega)
        have d1 : (p.backup != -1) = false := by simp [k1]
        clear hA k1
        go_wp2
        go_ret
        exact ⟨ret_int HE.out.symm, HB.out⟩
      · have d1 : (p.backup != -1) = true := by simp [k1]
        by_cases k2 : act ≤ i
        · have HE : Hid (pErr act n i p = 5) := pErr_back H0.out h5 hA (by omega)
          clear hA k1
          go_wp2
          go_ret
          exact ⟨ret_int HE.out.symm, HB.out⟩
        · by_cases k3 : p.backup < act
          · have HE : Hid (pErr act n i p = 5) := pErr_back H0.out h5 hA (by omega)
            clear hA k1
            go_wp2
            go_ret
            exact ⟨ret_int HE.out.symm, HB.out⟩
          · by_cases k4 : (n : Int) ≤ p.backup
            · have HE : Hid (pErr act n i p = 5) := pErr_back H0.out h5 hA (by omega)
              clear hA k1
              go_wp2
              go_ret
              exact ⟨ret_int HE.out.symm, HB.out⟩
            · have HE : Hid (pErr act n i p = 0) := pErr_ok H0.out h5 hA (by omega)
              clear hA k1
              go_wp2
              go_ret
              exact ⟨ret_int HE.out.symm, HB.out⟩

set_option maxHeartbeats 2000000 in
theorem refPath_any (A : Option Addr) (n c B i : Nat) (act : Int) (ps : List PV) (w : World) (hx : Paths w B A n c ps) (hB : B ≤ w.heap.size) {p : PV} (hp : ps[i]? = some p) :
    Calls Try.prog 27 #[.agg #[.int .i64 act, .slice A n c], .int .i64 i] w fun e w' => e = .returned (.int .i64 (pErr act n i p)) ∧ Below w.heap.size w w' := by
  have hi : i < n := by
    have := (List.getElem?_eq_some_iff.1 hp).1
    have := hx.len
    omega
  obtain ⟨b, o, p', rfl, hbB, hp', hl, c0, c1, c2, c3, c4, c5⟩ := hx.get hi
  rw [hp] at hp'
  simp only [Option.some.injEq] at hp'
  subst hp'
  have hbw : b < w.heap.size := by omega
  have HB := Lib.hid (((Below.refl w.heap.size w).alloc (Nat.le_refl _) (.cells #[.int .i64 act, .slice (some ⟨b, o, none⟩) n c] 24)).alloc (by simp) (.cells #[.int .i64 p.iface, .int .u32 p.addr, .int .u32 p.router, .int .i64 p.weight, .slice p.A p.ln p.lc, .int .i64 p.backup] 38))
  have hll := hl.len
  clear hx
  by_cases h1 : p.iface < 0
  · have HE : Hid (pErr act n i p = 5) := pErr_range (by omega)
    clear hl hll hp
    go_enter Try.func27, Try.ntmps27
    go_wp2
    go_ret
    exact ⟨ret_int HE.out.symm, HB.out⟩
  by_cases h2 : 16 ≤ p.iface
  · have HE : Hid (pErr act n i p = 5) := pErr_range (by omega)
    clear hl hll hp
    go_enter Try.func27, Try.ntmps27
    go_wp2
    go_ret
    exact ⟨ret_int HE.out.symm, HB.out⟩
  by_cases h3 : p.weight < 0
  · have HE : Hid (pErr act n i p = 5) := pErr_range (by omega)
    clear hl hll hp
    go_enter Try.func27, Try.ntmps27
    go_wp2
    go_ret
    exact ⟨ret_int HE.out.symm, HB.out⟩
  by_cases h4 : 65535 < p.weight
  · have HE : Hid (pErr act n i p = 5) := pErr_range (by omega)
    clear hl hll hp
    go_enter Try.func27, Try.ntmps27
    go_wp2
    go_ret
    exact ⟨ret_int HE.out.symm, HB.out⟩
  have h0 : ¬ (p.iface < 0 ∨ 16 ≤ p.iface ∨ p.weight < 0 ∨ 65535 < p.weight) := by omega
  by_cases h5 : 16 < p.ln
  · have HE : Hid (pErr act n i p = 4) := pErr_long h0 h5
    clear hl hll hp h0
    go_enter Try.func27, Try.ntmps27
    go_wp2
    go_ret
    exact ⟨ret_int HE.out.symm, HB.out⟩
  have H0 := Lib.hid h0
  have HL := Lib.hid hll
  have h5' : p.ln ≤ 16 := by omega
  clear hll hp h0
  go_enter Try.func27, Try.ntmps27
  go_wp2
  go_loop [38] (fun k => ∃ q : Nat, q ≤ p.ln ∧ k = .int .i64 q ∧ Hid (∀ j, j < q → labOK (p.ls.getD j 0) = true)) (fun k => p.ln - (intOf k).toNat)
  case atStart => exact ⟨0, Nat.zero_le _, rfl, fun j hj => absurd hj (by omega)⟩
  case round =>
    obtain ⟨q, hq, rfl, hall⟩ := hrel
    by_cases hlt : q < p.ln
    · obtain ⟨b', o', y, hA, hbB', hc, HY⟩ := hl.cell hlt
      rw [hA] at HB ⊢
      have hbw' : b' < w.heap.size := by omega
      clear hA c4
      by_cases y1 : y < 16
      · have HE : Hid (pErr act n i p = 5) := pErr_label H0.out h5 (j := q) (by rw [HL.out]; exact hlt) (by rw [HY.out]; simp [labOK]; omega)
        clear hl
        go_wp2
        go_ret
        exact ⟨ret_int HE.out.symm, HB.out⟩
      · by_cases y2 : 1048575 < y
        · have HE : Hid (pErr act n i p = 5) := pErr_label H0.out h5 (j := q) (by rw [HL.out]; exact hlt) (by rw [HY.out]; simp [labOK]; omega)
          clear hl
          go_wp2
          go_ret
          exact ⟨ret_int HE.out.symm, HB.out⟩
        · have HN : Hid (∀ j, j < q + 1 → labOK (p.ls.getD j 0) = true) := by
            intro j hj
            rcases Nat.lt_or_ge j q with h | h
            · exact hall.out j h
            · obtain rfl : j = q := by omega
              rw [HY.out]
              simp [labOK]
              omega
          clear hl
          go_wp2
          go_round
          case rel => exact ⟨q + 1, by omega, by go_num, HN⟩
          case measure => simp [intOf]; omega
    · obtain rfl : q = p.ln := by omega
      have hA : p.ls.all labOK = true := all_of (fun j hj => hall.out j (by rw [← HL.out]; exact hj))
      clear hl hall
      by_cases k1 : p.backup = -1
      · have HE : Hid (pErr act n i p = 0) := pErr_ok H0.out h5 hA (by omega)
        have d1 : (p.backup != -1) = false := by simp [k1]
        clear hA k1
        go_wp2
        go_ret
        exact ⟨ret_int HE.out.symm, HB.out⟩
      · have d1 : (p.backup != -1) = true := by simp [k1]
        by_cases k2 : act ≤ i
        · have HE : Hid (pErr act n i p = 5) := pErr_back H0.out h5 hA (by omega)
          clear hA k1
          go_wp2
          go_ret
          exact ⟨ret_int HE.out.symm, HB.out⟩
        · by_cases k3 : p.backup < act
          · have HE : Hid (pErr act n i p = 5) := pErr_back H0.out h5 hA (by omega)
            clear hA k1
            go_wp2
            go_ret
            exact ⟨ret_int HE.out.symm, HB.out⟩
          · by_cases k4 : (n : Int) ≤ p.backup
            · have HE : Hid (pErr act n i p = 5) := pErr_back H0.out h5 hA (by omega)
              clear hA k1
              go_wp2
              go_ret
              exact ⟨ret_int HE.out.symm, HB.out⟩
            · have HE : Hid (pErr act n i p = 0) := pErr_ok H0.out h5 hA (by omega)
              clear hA k1
              go_wp2
              go_ret
              exact ⟨ret_int HE.out.symm, HB.out⟩

end Go.Proofs.Ytlcgjgmhllmekaa
