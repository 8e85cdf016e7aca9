/- A group's paths in memory; the error of a path and of a group: the program's and the reference's texts return the same. Check: the program's and the reference's texts return the same error of a group. Pick: the program's and the reference's texts return the same path of a group. The references' functions on lists of numbers, and slices.Clone of a list of numbers. -/
import Derived.Test.YtplppbgkkfjknaaGreatDoorG1
import Derived.Test.YtplppbgkkfjknaaGreatDoorG5
namespace Go.Proofs.YtplppbgkkfjknaaGreatDoor
open Go.RowKit
set_option maxRecDepth 100000

/-- a path: its numbers, and its labels as a slice with what it reads as -/
structure PV where
  iface : Int
  addr : Int
  router : Int
  weight : Int
  A : Option Addr
  ln : Nat
  lc : Nat
  ls : List Int
  backup : Int
def PV.vals (p : PV) : List Value := [.int .i64 p.iface, .int .u32 p.addr, .int .u32 p.router, .int .i64 p.weight, .slice p.A p.ln p.lc, .int .i64 p.backup]
theorem PV.vals_len (p : PV) : p.vals.length = 6 := rfl
/-- a slice of paths -/
def Paths (w : World) (B : Nat) (A : Option Addr) (n c : Nat) (ps : List PV) : Prop := Recs w B 6 A n c PV.vals ps ∧ ∀ p ∈ ps, Ints w B .i64 p.A p.ln p.lc p.ls
section
variable {w w' : World} {B B' : Nat} {A : Option Addr} {n c : Nat} {ps : List PV}
theorem Paths.below (h : Paths w B A n c ps) (hb : Below B w w') : Paths w' B A n c ps := ⟨h.1.below hb, fun p hp => (h.2 p hp).below hb⟩
theorem Paths.more (h : Paths w B A n c ps) (hB : B ≤ B') : Paths w B' A n c ps := ⟨h.1.more hB, fun p hp => (h.2 p hp).more hB⟩
theorem Paths.len (h : Paths w B A n c ps) : ps.length = n := h.1.2
theorem Paths.get (h : Paths w B A n c ps) {j : Nat} (hj : j < n) :
    ∃ b o p, A = some ⟨b, o, none⟩ ∧ b < B ∧ ps[j]? = some p ∧ Ints w B .i64 p.A p.ln p.lc p.ls ∧ w.cell? ⟨b, o + j * 6, none⟩ = some (.int .i64 p.iface) ∧ w.cell? ⟨b, o + j * 6 + 1, none⟩ = some (.int .u32 p.addr) ∧
      w.cell? ⟨b, o + j * 6 + 2, none⟩ = some (.int .u32 p.router) ∧ w.cell? ⟨b, o + j * 6 + 3, none⟩ = some (.int .i64 p.weight) ∧ w.cell? ⟨b, o + j * 6 + 4, none⟩ = some (.slice p.A p.ln p.lc) ∧ w.cell? ⟨b, o + j * 6 + 5, none⟩ = some (.int .i64 p.backup) := by
  obtain ⟨b, o, p, e, hb, hp, hc⟩ := h.1.get PV.vals_len hj
  exact ⟨b, o, p, e, hb, hp, h.2 p (List.mem_of_getElem? hp), hc 0 (by omega), hc 1 (by omega), hc 2 (by omega), hc 3 (by omega), hc 4 (by omega), hc 5 (by omega)⟩
end

def labOK (y : Int) : Bool := decide (16 ≤ y) && decide (y ≤ 1048575)
/-- the error of a path at index i of a group with so many active and so many paths -/
def pErr (act : Int) (np i : Nat) (p : PV) : Int :=
  if p.iface < 0 ∨ 16 ≤ p.iface ∨ p.weight < 0 ∨ 65535 < p.weight then 5
  else if 16 < p.ln then 4
  else if ¬ p.ls.all labOK = true then 5
  else if p.backup ≠ -1 ∧ (act ≤ i ∨ p.backup < act ∨ (np : Int) ≤ p.backup) then 5 else 0
section
variable {act : Int} {np i : Nat} {p : PV}
theorem pErr_range (h : p.iface < 0 ∨ 16 ≤ p.iface ∨ p.weight < 0 ∨ 65535 < p.weight) : pErr act np i p = 5 := by rw [pErr, if_pos h]
theorem pErr_long (h : ¬ (p.iface < 0 ∨ 16 ≤ p.iface ∨ p.weight < 0 ∨ 65535 < p.weight)) (h1 : 16 < p.ln) : pErr act np i p = 4 := by rw [pErr, if_neg h, if_pos h1]
theorem pErr_label (h : ¬ (p.iface < 0 ∨ 16 ≤ p.iface ∨ p.weight < 0 ∨ 65535 < p.weight)) (h1 : ¬ 16 < p.ln) {j : Nat} (hj : j < p.ls.length) (h2 : labOK (p.ls.getD j 0) = false) : pErr act np i p = 5 := by
  rw [pErr, if_neg h, if_neg h1, if_pos]
  intro h3
  have := List.all_eq_true.1 h3 _ (List.getElem_mem hj)
  rw [List.getD_eq_getElem?_getD, List.getElem?_eq_getElem hj] at h2
  simp [this] at h2
theorem all_of {ls : List Int} (h : ∀ j, j < ls.length → labOK (ls.getD j 0) = true) : ls.all labOK = true := by
  rw [List.all_eq_true]
  intro y hy
  obtain ⟨j, hj, rfl⟩ := List.getElem_of_mem hy
  have := h j hj
  rw [List.getD_eq_getElem?_getD, List.getElem?_eq_getElem hj] at this
  exact this
theorem pErr_back (h : ¬ (p.iface < 0 ∨ 16 ≤ p.iface ∨ p.weight < 0 ∨ 65535 < p.weight)) (h1 : ¬ 16 < p.ln) (h2 : p.ls.all labOK = true) (h3 : p.backup ≠ -1 ∧ (act ≤ i ∨ p.backup < act ∨ (np : Int) ≤ p.backup)) : pErr act np i p = 5 := by
  rw [pErr, if_neg h, if_neg h1, if_neg (fun hh => hh h2), if_pos h3]
theorem pErr_ok (h : ¬ (p.iface < 0 ∨ 16 ≤ p.iface ∨ p.weight < 0 ∨ 65535 < p.weight)) (h1 : ¬ 16 < p.ln) (h2 : p.ls.all labOK = true) (h3 : ¬ (p.backup ≠ -1 ∧ (act ≤ i ∨ p.backup < act ∨ (np : Int) ≤ p.backup))) : pErr act np i p = 0 := by
  rw [pErr, if_neg h, if_neg h1, if_neg (fun hh => hh h2), if_neg h3]
end

set_option maxHeartbeats 2000000 in
theorem checkPath_any (A : Option Addr) (n c B i : Nat) (act : Int) (ps : List PV) (w : World) (hx : Paths w B A n c ps) (hB : B ≤ w.heap.size) {p : PV} (hp : ps[i]? = some p) :
    Calls Tryz.prog 119 #[.agg #[.int .i64 act, .slice A n c], .int .i64 i] w fun e w' => e = .returned (.int .i64 (pErr act n i p)) ∧ Below w.heap.size w w' := by
  have hi : i < n := by
    have := (List.getElem?_eq_some_iff.1 hp).1
    have := hx.len
    omega
  obtain ⟨b, o, p', rfl, hbB, hp', hl, c0, c1, c2, c3, c4, c5⟩ := hx.get hi
  rw [hp] at hp'
  simp only [Option.some.injEq] at hp'
  subst hp'
  have hbw : b < w.heap.size := by omega
  have HB := Lib.hid (((Below.refl w.heap.size w).alloc (Nat.le_refl _) (.cells #[.int .i64 act, .slice (some ⟨b, o, none⟩) n c] 47)).alloc (by simp) (.cells #[.int .i64 p.iface, .int .u32 p.addr, .int .u32 p.router, .int .i64 p.weight, .slice p.A p.ln p.lc, .int .i64 p.backup] 57))
  have hll := hl.len
  clear hx
  by_cases h1 : p.iface < 0
  · have HE : Hid (pErr act n i p = 5) := pErr_range (by omega)
    clear hl hll hp
    go_enter Tryz.func119, Tryz.ntmps119
    go_wp2
    go_ret
    exact ⟨ret_int HE.out.symm, HB.out⟩
  by_cases h2 : 16 ≤ p.iface
  · have HE : Hid (pErr act n i p = 5) := pErr_range (by omega)
    clear hl hll hp
    go_enter Tryz.func119, Tryz.ntmps119
    go_wp2
    go_ret
    exact ⟨ret_int HE.out.symm, HB.out⟩
  by_cases h3 : p.weight < 0
  · have HE : Hid (pErr act n i p = 5) := pErr_range (by omega)
    clear hl hll hp
    go_enter Tryz.func119, Tryz.ntmps119
    go_wp2
    go_ret
    exact ⟨ret_int HE.out.symm, HB.out⟩
  by_cases h4 : 65535 < p.weight
  · have HE : Hid (pErr act n i p = 5) := pErr_range (by omega)
    clear hl hll hp
    go_enter Tryz.func119, Tryz.ntmps119
    go_wp2
    go_ret
    exact ⟨ret_int HE.out.symm, HB.out⟩
  have h0 : ¬ (p.iface < 0 ∨ 16 ≤ p.iface ∨ p.weight < 0 ∨ 65535 < p.weight) := by omega
  by_cases h5 : 16 < p.ln
  · have HE : Hid (pErr act n i p = 4) := pErr_long h0 h5
    clear hl hll hp h0
    go_enter Tryz.func119, Tryz.ntmps119
    go_wp2
    go_ret
    exact ⟨ret_int HE.out.symm, HB.out⟩
  have H0 := Lib.hid h0
  have HL := Lib.hid hll
  have h5' : p.ln ≤ 16 := by omega
  clear hll hp h0
  go_enter Tryz.func119, Tryz.ntmps119
  go_wp2
  go_loop [38] (fun k => ∃ q : Nat, q ≤ p.ln ∧ k = .int .i64 q ∧ Hid (∀ j, j < q → labOK (p.ls.getD j 0) = true)) (fun k => p.ln - (intOf k).toNat)
  case atStart => exact ⟨0, Nat.zero_le _, rfl, fun j hj => absurd hj (by omega)⟩
  case round =>
    obtain ⟨q, hq, rfl, hall⟩ := hrel
    by_cases hlt : q < p.ln
    · obtain ⟨b', o', y, hA, hbB', hc, HY⟩ := hl.cell hlt
      rw [hA] at HB ⊢
      have hbw' : b' < w.heap.size := by omega
      clear hA c4
      by_cases y1 : y < 16
      · have HE : Hid (pErr act n i p = 5) := pErr_label H0.out h5 (j := q) (by rw [HL.out]; exact hlt) (by rw [HY.out]; simp [labOK]; omega)
        clear hl
        go_wp2
        go_ret
        exact ⟨ret_int HE.out.symm, HB.out⟩
      · by_cases y2 : 1048575 < y
        · have HE : Hid (pErr act n i p = 5) := pErr_label H0.out h5 (j := q) (by rw [HL.out]; exact hlt) (by rw [HY.out]; simp [labOK]; omega)
          clear hl
          go_wp2
          go_ret
          exact ⟨ret_int HE.out.symm, HB.out⟩
        · have HN : Hid (∀ j, j < q + 1 → labOK (p.ls.getD j 0) = true) := by
            intro j hj
            rcases Nat.lt_or_ge j q with h | h
            · exact hall.out j h
            · obtain rfl : j = q := by omega
              rw [HY.out]
              simp [labOK]
              omega
          clear hl
          go_wp2
          go_round
          case rel => exact ⟨q + 1, by omega, by go_num, HN⟩
          case measure => simp [intOf]; omega
    · obtain rfl : q = p.ln := by omega
      have hA : p.ls.all labOK = true := all_of (fun j hj => hall.out j (by rw [← HL.out]; exact hj))
      clear hl hall
      by_cases k1 : p.backup = -1
      · have HE : Hid (pErr act n i p = 0) := pErr_ok H0.out h5 hA (by omega)
        have d1 : (p.backup != -1) = false := by simp [k1]
        clear hA k1
        go_wp2
        go_ret
        exact ⟨ret_int HE.out.symm, HB.out⟩
      · have d1 : (p.backup != -1) = true := by simp [k1]
        by_cases k2 : act ≤ i
        · have HE : Hid (pErr act n i p = 5) := pErr_back H0.out h5 hA (by omega)
          clear hA k1
          go_wp2
          go_ret
          exact ⟨ret_int HE.out.symm, HB.out⟩
        · by_cases k3 : p.backup < act
          · have HE : Hid (pErr act n i p = 5) := pErr_back H0.out h5 hA (by omega)
            clear hA k1
            go_wp2
            go_ret
            exact ⟨ret_int HE.out.symm, HB.out⟩
          · by_cases k4 : (n : Int) ≤ p.backup
            · have HE : Hid (pErr act n i p = 5) := pErr_back H0.out h5 hA (by omega)
              clear hA k1
              go_wp2
              go_ret
              exact ⟨ret_int HE.out.symm, HB.out⟩
            · have HE : Hid (pErr act n i p = 0) := pErr_ok H0.out h5 hA (by omega)
              clear hA k1
              go_wp2
              go_ret
              exact ⟨ret_int HE.out.symm, HB.out⟩

set_option maxHeartbeats 2000000 in
theorem refPath_any (A : Option Addr) (n c B i : Nat) (act : Int) (ps : List PV) (w : World) (hx : Paths w B A n c ps) (hB : B ≤ w.heap.size) {p : PV} (hp : ps[i]? = some p) :
    Calls Tryz.prog 63 #[.agg #[.int .i64 act, .slice A n c], .int .i64 i] w fun e w' => e = .returned (.int .i64 (pErr act n i p)) ∧ Below w.heap.size w w' := by
  have hi : i < n := by
    have := (List.getElem?_eq_some_iff.1 hp).1
    have := hx.len
    omega
  obtain ⟨b, o, p', rfl, hbB, hp', hl, c0, c1, c2, c3, c4, c5⟩ := hx.get hi
  rw [hp] at hp'
  simp only [Option.some.injEq] at hp'
  subst hp'
  have hbw : b < w.heap.size := by omega
  have HB := Lib.hid (((Below.refl w.heap.size w).alloc (Nat.le_refl _) (.cells #[.int .i64 act, .slice (some ⟨b, o, none⟩) n c] 47)).alloc (by simp) (.cells #[.int .i64 p.iface, .int .u32 p.addr, .int .u32 p.router, .int .i64 p.weight, .slice p.A p.ln p.lc, .int .i64 p.backup] 57))
  have hll := hl.len
  clear hx
  by_cases h1 : p.iface < 0
  · have HE : Hid (pErr act n i p = 5) := pErr_range (by omega)
    clear hl hll hp
    go_enter Tryz.func63, Tryz.ntmps63
    go_wp2
    go_ret
    exact ⟨ret_int HE.out.symm, HB.out⟩
  by_cases h2 : 16 ≤ p.iface
  · have HE : Hid (pErr act n i p = 5) := pErr_range (by omega)
    clear hl hll hp
    go_enter Tryz.func63, Tryz.ntmps63
    go_wp2
    go_ret
    exact ⟨ret_int HE.out.symm, HB.out⟩
  by_cases h3 : p.weight < 0
  · have HE : Hid (pErr act n i p = 5) := pErr_range (by omega)
    clear hl hll hp
    go_enter Tryz.func63, Tryz.ntmps63
    go_wp2
    go_ret
    exact ⟨ret_int HE.out.symm, HB.out⟩
  by_cases h4 : 65535 < p.weight
  · have HE : Hid (pErr act n i p = 5) := pErr_range (by omega)
    clear hl hll hp
    go_enter Tryz.func63, Tryz.ntmps63
    go_wp2
    go_ret
    exact ⟨ret_int HE.out.symm, HB.out⟩
  have h0 : ¬ (p.iface < 0 ∨ 16 ≤ p.iface ∨ p.weight < 0 ∨ 65535 < p.weight) := by omega
  by_cases h5 : 16 < p.ln
  · have HE : Hid (pErr act n i p = 4) := pErr_long h0 h5
    clear hl hll hp h0
    go_enter Tryz.func63, Tryz.ntmps63
    go_wp2
    go_ret
    exact ⟨ret_int HE.out.symm, HB.out⟩
  have H0 := Lib.hid h0
  have HL := Lib.hid hll
  have h5' : p.ln ≤ 16 := by omega
  clear hll hp h0
  go_enter Tryz.func63, Tryz.ntmps63
  go_wp2
  go_loop [38] (fun k => ∃ q : Nat, q ≤ p.ln ∧ k = .int .i64 q ∧ Hid (∀ j, j < q → labOK (p.ls.getD j 0) = true)) (fun k => p.ln - (intOf k).toNat)
  case atStart => exact ⟨0, Nat.zero_le _, rfl, fun j hj => absurd hj (by omega)⟩
  case round =>
    obtain ⟨q, hq, rfl, hall⟩ := hrel
    by_cases hlt : q < p.ln
    · obtain ⟨b', o', y, hA, hbB', hc, HY⟩ := hl.cell hlt
      rw [hA] at HB ⊢
      have hbw' : b' < w.heap.size := by omega
      clear hA c4
      by_cases y1 : y < 16
      · have HE : Hid (pErr act n i p = 5) := pErr_label H0.out h5 (j := q) (by rw [HL.out]; exact hlt) (by rw [HY.out]; simp [labOK]; omega)
        clear hl
        go_wp2
        go_ret
        exact ⟨ret_int HE.out.symm, HB.out⟩
      · by_cases y2 : 1048575 < y
        · have HE : Hid (pErr act n i p = 5) := pErr_label H0.out h5 (j := q) (by rw [HL.out]; exact hlt) (by rw [HY.out]; simp [labOK]; omega)
          clear hl
          go_wp2
          go_ret
          exact ⟨ret_int HE.out.symm, HB.out⟩
        · have HN : Hid (∀ j, j < q + 1 → labOK (p.ls.getD j 0) = true) := by
            intro j hj
            rcases Nat.lt_or_ge j q with h | h
            · exact hall.out j h
            · obtain rfl : j = q := by omega
              rw [HY.out]
              simp [labOK]
              omega
          clear hl
          go_wp2
          go_round
          case rel => exact ⟨q + 1, by omega, by go_num, HN⟩
          case measure => simp [intOf]; omega
    · obtain rfl : q = p.ln := by omega
      have hA : p.ls.all labOK = true := all_of (fun j hj => hall.out j (by rw [← HL.out]; exact hj))
      clear hl hall
      by_cases k1 : p.backup = -1
      · have HE : Hid (pErr act n i p = 0) := pErr_ok H0.out h5 hA (by omega)
        have d1 : (p.backup != -1) = false := by simp [k1]
        clear hA k1
        go_wp2
        go_ret
        exact ⟨ret_int HE.out.symm, HB.out⟩
      · have d1 : (p.backup != -1) = true := by simp [k1]
        by_cases k2 : act ≤ i
        · have HE : Hid (pErr act n i p = 5) := pErr_back H0.out h5 hA (by omega)
          clear hA k1
          go_wp2
          go_ret
          exact ⟨ret_int HE.out.symm, HB.out⟩
        · by_cases k3 : p.backup < act
          · have HE : Hid (pErr act n i p = 5) := pErr_back H0.out h5 hA (by omega)
            clear hA k1
            go_wp2
            go_ret
            exact ⟨ret_int HE.out.symm, HB.out⟩
          · by_cases k4 : (n : Int) ≤ p.backup
            · have HE : Hid (pErr act n i p = 5) := pErr_back H0.out h5 hA (by omega)
              clear hA k1
              go_wp2
              go_ret
              exact ⟨ret_int HE.out.symm, HB.out⟩
            · have HE : Hid (pErr act n i p = 0) := pErr_ok H0.out h5 hA (by omega)
              clear hA k1
              go_wp2
              go_ret
              exact ⟨ret_int HE.out.symm, HB.out⟩

end Go.Proofs.YtplppbgkkfjknaaGreatDoor
namespace Go.Proofs.YtplppbgkkfjknaaGreatDoor
open Go.RowKit
set_option maxRecDepth 100000

/-- the first error of the first k paths, 0 if there is none -/
def chkTo (act : Int) (np : Nat) (ps : List PV) : Nat → Int
  | 0 => 0
  | k + 1 => if chkTo act np ps k ≠ 0 then chkTo act np ps k else match ps[k]? with
    | some p => pErr act np k p
    | none => 0
theorem chkTo_keep {act : Int} {np : Nat} {ps : List PV} {j : Nat} (h : chkTo act np ps j ≠ 0) : ∀ {k : Nat}, j ≤ k → chkTo act np ps k = chkTo act np ps j := by
  intro k hk
  obtain ⟨d, rfl⟩ : ∃ d, k = j + d := ⟨k - j, by omega⟩
  clear hk
  induction d with
  | zero => rfl
  | succ d ih =>
    show chkTo act np ps (j + d + 1) = _
    rw [chkTo, if_pos (by rw [ih]; exact h), ih]
/-- the error of a group -/
def gErr (act : Int) (n : Nat) (ps : List PV) : Int := if 64 < n then 4 else if act < 0 ∨ (n : Int) < act then 5 else chkTo act n ps n

set_option maxHeartbeats 2000000 in
theorem check_any (A : Option Addr) (n c B : Nat) (act : Int) (ps : List PV) (w : World) (hx : Paths w B A n c ps) (hB : B ≤ w.heap.size) (hn : n ≤ 140737488355328) :
    Calls Tryz.prog 94 #[.agg #[.int .i64 act, .slice A n c]] w fun e w' => e = .returned (.int .i64 (gErr act n ps)) ∧ Below w.heap.size w w' := by
  have HB := Lib.hid ((Below.refl w.heap.size w).alloc (Nat.le_refl _) (.cells #[.int .i64 act, .slice A n c] 47))
  by_cases h1 : 64 < n
  · have HE : Hid (gErr act n ps = 4) := by show _ = _; rw [gErr, if_pos h1]
    clear hx
    go_enter Tryz.func94, Tryz.ntmps94
    go_wp2
    go_ret
    exact ⟨ret_int HE.out.symm, HB.out⟩
  by_cases h2 : act < 0
  · have HE : Hid (gErr act n ps = 5) := by show _ = _; rw [gErr, if_neg h1, if_pos (by omega)]
    clear hx
    go_enter Tryz.func94, Tryz.ntmps94
    go_wp2
    go_ret
    exact ⟨ret_int HE.out.symm, HB.out⟩
  by_cases h3 : (n : Int) < act
  · have HE : Hid (gErr act n ps = 5) := by show _ = _; rw [gErr, if_neg h1, if_pos (by omega)]
    clear hx
    go_enter Tryz.func94, Tryz.ntmps94
    go_wp2
    go_ret
    exact ⟨ret_int HE.out.symm, HB.out⟩
  have HE : Hid (gErr act n ps = chkTo act n ps n) := by show _ = _; rw [gErr, if_neg h1, if_neg (by omega)]
  have HL := Lib.hid hx.len
  go_enter Tryz.func94, Tryz.ntmps94
  go_wp2
  go_loopw [23] (fun k wr => ∃ q : Nat, q ≤ n ∧ k = .int .i64 q ∧ Hid (chkTo act n ps q = 0) ∧ Hid (Below (w.heap.size + 1) (w.alloc (.cells #[.int .i64 act, .slice A n c] 47)) wr)) (fun k _ => n - (intOf k).toNat)
  case atStart => exact ⟨0, Nat.zero_le _, rfl, rfl, Below.refl _ _⟩
  case round =>
    obtain ⟨q, hq, rfl, hz, hb⟩ := hrel
    have u0 : wr.cell? ⟨w.heap.size, 0, none⟩ = some (.int .i64 act) := (hb.out.cell (p := ⟨w.heap.size, 0, none⟩) (by simp)).trans (by go_simp)
    have u1 : wr.cell? ⟨w.heap.size, 1, none⟩ = some (.slice A n c) := (hb.out.cell (p := ⟨w.heap.size, 1, none⟩) (by simp)).trans (by go_simp)
    have HBW : Hid (Below w.heap.size w wr) := HB.out.trans (hb.out.mono (by omega))
    by_cases hlt : q < n
    · obtain ⟨p, hp⟩ : ∃ p, ps[q]? = some p := ⟨ps[q]'(by rw [HL.out]; exact hlt), List.getElem?_eq_getElem _⟩
      have HP := Lib.hid hp
      have HX : Hid (Paths wr B A n c ps) := hx.below (HBW.out.mono hB)
      clear hx hp
      go_wp2_with fail
      refine (checkPath_any A n c B q act ps wr HX.out (by have := HBW.out.size; omega) HP.out).mono ?_
      rintro e w2 ⟨rfl, hb2⟩
      have HB2 := Lib.hid hb2
      have hsz : w.heap.size + 1 ≤ wr.heap.size := by have := hb.out.size; simpa using this
      have HB3 : Hid (Below (w.heap.size + 1) (w.alloc (.cells #[.int .i64 act, .slice A n c] 47)) w2) := hb.out.trans (hb2.mono hsz)
      clear hb2
      obtain ⟨e, he⟩ : ∃ e, pErr act n q p = e := ⟨_, rfl⟩
      have HC : Hid (chkTo act n ps (q + 1) = e) := by
        show _ = _
        rw [chkTo, hz.out, HP.out]
        simpa using he
      rw [he]
      clear he
      by_cases h0 : e = 0
      · subst h0
        go_wp2
        go_roundw
        case rel => exact ⟨q + 1, by omega, by go_num, HC, HB3⟩
        case measure => simp [intOf]; omega
      · have d : (e != 0) = true := by simp [h0]
        have HF : Hid (gErr act n ps = e) := by
          show _ = _
          rw [HE.out, ← HC.out]
          exact chkTo_keep (by rw [HC.out]; exact h0) hlt
        clear h0
        go_wp2
        go_ret
        exact ⟨ret_int HF.out.symm, HBW.out.trans (HB2.out.mono HBW.out.size)⟩
    · obtain rfl : q = n := by omega
      clear hx
      go_wp2
      go_ret
      exact ⟨ret_int (by rw [HE.out, hz.out]), HBW.out⟩

set_option maxHeartbeats 2000000 in
theorem refCheck_any (A : Option Addr) (n c B : Nat) (act : Int) (ps : List PV) (w : World) (hx : Paths w B A n c ps) (hB : B ≤ w.heap.size) (hn : n ≤ 140737488355328) :
    Calls Tryz.prog 30 #[.agg #[.int .i64 act, .slice A n c]] w fun e w' => e = .returned (.int .i64 (gErr act n ps)) ∧ Below w.heap.size w w' := by
  have HB := Lib.hid ((Below.refl w.heap.size w).alloc (Nat.le_refl _) (.cells #[.int .i64 act, .slice A n c] 47))
  by_cases h1 : 64 < n
  · have HE : Hid (gErr act n ps = 4) := by show _ = _; rw [gErr, if_pos h1]
    clear hx
    go_enter Tryz.func30, Tryz.ntmps30
    go_wp2
    go_ret
    exact ⟨ret_int HE.out.symm, HB.out⟩
  by_cases h2 : act < 0
  · have HE : Hid (gErr act n ps = 5) := by show _ = _; rw [gErr, if_neg h1, if_pos (by omega)]
    clear hx
    go_enter Tryz.func30, Tryz.ntmps30
    go_wp2
    go_ret
    exact ⟨ret_int HE.out.symm, HB.out⟩
  by_cases h3 : (n : Int) < act
  · have HE : Hid (gErr act n ps = 5) := by show _ = _; rw [gErr, if_neg h1, if_pos (by omega)]
    clear hx
    go_enter Tryz.func30, Tryz.ntmps30
    go_wp2
    go_ret
    exact ⟨ret_int HE.out.symm, HB.out⟩
  have HE : Hid (gErr act n ps = chkTo act n ps n) := by show _ = _; rw [gErr, if_neg h1, if_neg (by omega)]
  have HL := Lib.hid hx.len
  go_enter Tryz.func30, Tryz.ntmps30
  go_wp2
  go_loopw [23] (fun k wr => ∃ q : Nat, q ≤ n ∧ k = .int .i64 q ∧ Hid (chkTo act n ps q = 0) ∧ Hid (Below (w.heap.size + 1) (w.alloc (.cells #[.int .i64 act, .slice A n c] 47)) wr)) (fun k _ => n - (intOf k).toNat)
  case atStart => exact ⟨0, Nat.zero_le _, rfl, rfl, Below.refl _ _⟩
  case round =>
    obtain ⟨q, hq, rfl, hz, hb⟩ := hrel
    have u0 : wr.cell? ⟨w.heap.size, 0, none⟩ = some (.int .i64 act) := (hb.out.cell (p := ⟨w.heap.size, 0, none⟩) (by simp)).trans (by go_simp)
    have u1 : wr.cell? ⟨w.heap.size, 1, none⟩ = some (.slice A n c) := (hb.out.cell (p := ⟨w.heap.size, 1, none⟩) (by simp)).trans (by go_simp)
    have HBW : Hid (Below w.heap.size w wr) := HB.out.trans (hb.out.mono (by omega))
    by_cases hlt : q < n
    · obtain ⟨p, hp⟩ : ∃ p, ps[q]? = some p := ⟨ps[q]'(by rw [HL.out]; exact hlt), List.getElem?_eq_getElem _⟩
      have HP := Lib.hid hp
      have HX : Hid (Paths wr B A n c ps) := hx.below (HBW.out.mono hB)
      clear hx hp
      go_wp2_with fail
      refine (refPath_any A n c B q act ps wr HX.out (by have := HBW.out.size; omega) HP.out).mono ?_
      rintro e w2 ⟨rfl, hb2⟩
      have HB2 := Lib.hid hb2
      have hsz : w.heap.size + 1 ≤ wr.heap.size := by have := hb.out.size; simpa using this
      have HB3 : Hid (Below (w.heap.size + 1) (w.alloc (.cells #[.int .i64 act, .slice A n c] 47)) w2) := hb.out.trans (hb2.mono hsz)
      clear hb2
      obtain ⟨e, he⟩ : ∃ e, pErr act n q p = e := ⟨_, rfl⟩
      have HC : Hid (chkTo act n ps (q + 1) = e) := by
        show _ = _
        rw [chkTo, hz.out, HP.out]
        simpa using he
      rw [he]
      clear he
      by_cases h0 : e = 0
      · subst h0
        go_wp2
        go_roundw
        case rel => exact ⟨q + 1, by omega, by go_num, HC, HB3⟩
        case measure => simp [intOf]; omega
      · have d : (e != 0) = true := by simp [h0]
        have HF : Hid (gErr act n ps = e) := by
          show _ = _
          rw [HE.out, ← HC.out]
          exact chkTo_keep (by rw [HC.out]; exact h0) hlt
        clear h0
        go_wp2
        go_ret
        exact ⟨ret_int HF.out.symm, HBW.out.trans (HB2.out.mono HBW.out.size)⟩
    · obtain rfl : q = n := by omega
      clear hx
      go_wp2
      go_ret
      exact ⟨ret_int (by rw [HE.out, hz.out]), HBW.out⟩

end Go.Proofs.YtplppbgkkfjknaaGreatDoor
namespace Go.Proofs.YtplppbgkkfjknaaGreatDoor
open Go.RowKit
set_option maxRecDepth 100000

theorem int_info : (Tryz.prog.info? 3).map (fun i => (i.zero, i.size, i.bytes)) = some (some (.int .i64 0), 1, 8) := by kernel_rfl
theorem chkTo_zero {act : Int} {n : Nat} {ps : List PV} {k : Nat} (h : chkTo act n ps k = 0) {j : Nat} {p : PV} (hj : j < k) (hp : ps[j]? = some p) : pErr act n j p = 0 := by
  have h1 : chkTo act n ps (j + 1) = 0 := by
    by_cases h2 : chkTo act n ps (j + 1) = 0
    · exact h2
    · exact absurd h (by rw [chkTo_keep h2 hj]; exact h2)
  have h0 : chkTo act n ps j = 0 := by
    by_cases h2 : chkTo act n ps j = 0
    · exact h2
    · exact absurd h1 (by rw [chkTo_keep h2 (Nat.le_succ j)]; exact h2)
  rw [chkTo, h0, hp] at h1
  simpa using h1
/-- what a group without an error is -/
structure Good (act : Int) (n : Nat) (ps : List PV) : Prop where
  n64 : n ≤ 64
  a0 : 0 ≤ act
  a1 : act ≤ n
  each : ∀ (j : Nat) (p : PV), j < n → ps[j]? = some p → pErr act n j p = 0
theorem good_of {act : Int} {n : Nat} {ps : List PV} (h : gErr act n ps = 0) : Good act n ps := by
  unfold gErr at h
  by_cases h1 : 64 < n
  · rw [if_pos h1] at h; omega
  rw [if_neg h1] at h
  by_cases h2 : act < 0 ∨ (n : Int) < act
  · rw [if_pos h2] at h; omega
  rw [if_neg h2] at h
  exact ⟨by omega, by omega, by omega, fun j p hj hp => chkTo_zero h hj hp⟩
theorem gErr_of_good {act : Int} {n : Nat} {ps : List PV} (h : Good act n ps) : gErr act n ps = 0 := by
  have h1 := h.n64
  have h2 := h.a0
  have h3 := h.a1
  have : ∀ k, k ≤ n → chkTo act n ps k = 0 := by
    intro k
    induction k with
    | zero => intro _; rfl
    | succ k ih =>
      intro hk
      rw [chkTo, ih (by omega)]
      cases hp : ps[k]? with
      | none => simp
      | some p => simpa [hp] using h.each k p (by omega) hp
  rw [gErr, if_neg (by omega), if_neg (by omega)]
  exact this n (Nat.le_refl _)
theorem pErr_zero {act : Int} {np i : Nat} {p : PV} (h : pErr act np i p = 0) : (0 ≤ p.iface ∧ p.iface < 16 ∧ 0 ≤ p.weight ∧ p.weight ≤ 65535) ∧ p.ln ≤ 16 ∧ p.ls.all labOK = true ∧ (p.backup = -1 ∨ ((i : Int) < act ∧ act ≤ p.backup ∧ p.backup < np)) := by
  unfold pErr at h
  by_cases h1 : p.iface < 0 ∨ 16 ≤ p.iface ∨ p.weight < 0 ∨ 65535 < p.weight
  · rw [if_pos h1] at h; omega
  rw [if_neg h1] at h
  by_cases h2 : 16 < p.ln
  · rw [if_pos h2] at h; omega
  rw [if_neg h2] at h
  by_cases h3 : p.ls.all labOK = true
  · rw [if_neg (fun hh => hh h3)] at h
    by_cases h4 : p.backup ≠ -1 ∧ (act ≤ i ∨ p.backup < act ∨ (np : Int) ≤ p.backup)
    · rw [if_pos h4] at h; omega
    · exact ⟨by omega, by omega, h3, by omega⟩
  · rw [if_pos h3] at h; omega
/-- the weights of the paths -/
def wts (ps : List PV) : List Int := ps.map (·.weight)
theorem wts_take_succ {ps : List PV} {q : Nat} {p : PV} (h : ps[q]? = some p) : wts (ps.take (q + 1)) = wts (ps.take q) ++ [p.weight] := by
  rw [wts, wts, List.take_add_one, h]
  simp
theorem good_wide {act : Int} {n : Nat} {ps : List PV} (h : Good act n ps) (hl : ps.length = n) (k : Nat) : Wide (wts (ps.take k)) := by
  intro j
  rw [List.getD_eq_getElem?_getD, wts, List.getElem?_map]
  cases hp : (ps.take k)[j]? with
  | none => simp
  | some p =>
    have hm := List.mem_of_mem_take (List.mem_of_getElem? hp)
    obtain ⟨i, hi, rfl⟩ := List.getElem_of_mem hm
    have := pErr_zero (h.each i ps[i] (by omega) (List.getElem?_eq_getElem hi))
    simp
    omega
/-- the path that a group picks for a flow -/
def pick (act : Int) (n : Nat) (ps : List PV) (flow : Int) : Int := if gErr act n ps ≠ 0 then -1 else (ch (wts (ps.take act.toNat)) flow act.toNat : Int) - 1

set_option maxHeartbeats 2000000 in
theorem pick_any (A : Option Addr) (n c B : Nat) (act flow : Int) (ps : List PV) (w : World) (hx : Paths w B A n c ps) (hB : B ≤ w.heap.size) (hn : n ≤ 140737488355328) (hf : 0 ≤ flow ∧ flow < 4294967296) :
    Calls Tryz.prog 76 #[.agg #[.int .i64 act, .slice A n c], .int .u32 flow] w fun e w' => e = .returned (.int .i64 (pick act n ps flow)) ∧ Below w.heap.size w w' := by
  have HB := Lib.hid ((Below.refl w.heap.size w).alloc (Nat.le_refl _) (.cells #[.int .i64 act, .slice A n c] 47))
  have HX : Hid (Paths (w.alloc (.cells #[.int .i64 act, .slice A n c] 47)) B A n c ps) := hx.below (HB.out.mono hB)
  have H1 := Lib.hid (check_any A n c B act ps _ HX.out (by have := HB.out.size; omega) hn)
  by_cases hg : gErr act n ps = 0
  · have G := Lib.hid (good_of hg)
    have HP : Hid (pick act n ps flow = (ch (wts (ps.take act.toNat)) flow act.toNat : Int) - 1) := by show _ = _; rw [pick, hg]; rfl
    rw [hg] at H1
    obtain ⟨a, rfl⟩ := Int.eq_ofNat_of_zero_le G.out.a0
    rw [Int.toNat_natCast] at HP
    have ha : a ≤ n := by have := G.out.a1; omega
    have hn64 := G.out.n64
    have hnc := hx.1.1.1
    have HL := Lib.hid hx.len
    clear hg
    go_enter Tryz.func76, Tryz.ntmps76
    go_wp2_with fail
    refine H1.out.mono ?_
    rintro e w1 ⟨rfl, hb1⟩
    have HB1 := Lib.hid hb1
    have u0 : w1.cell? ⟨w.heap.size, 0, none⟩ = some (.int .i64 a) := (hb1.cell (p := ⟨w.heap.size, 0, none⟩) (by simp)).trans (by go_simp)
    have u1 : w1.cell? ⟨w.heap.size, 1, none⟩ = some (.slice A n c) := (hb1.cell (p := ⟨w.heap.size, 1, none⟩) (by simp)).trans (by go_simp)
    have HBW : Hid (Below w.heap.size w w1) := HB.out.trans (hb1.mono (by simp))
    have hac : (a : Int) ≤ (c : Int) := by omega
    clear hb1
    go_wp2
    go_loopw [5, 17] (fun v k wr => ∃ q : Nat, q ≤ a ∧ k = .int .i64 q ∧ Hid (Own wr w.heap.size 3 .i64 v q (wts (ps.take q))) ∧ Hid (Below w.heap.size w wr)) (fun _ k _ => a - (intOf k).toNat)
    case atStart => exact ⟨0, Nat.zero_le _, rfl, Own.nil _ _ _ _, HBW⟩
    case round =>
      obtain ⟨q, hq, rfl, ho, hb⟩ := hrel
      by_cases hlt : q < a
      · obtain ⟨b, o, p, rfl, hbB, hp, hl, c0, c1, c2, c3, c4, c5⟩ := (hx.below (hb.out.mono hB)).get (j := q) (by omega)
        have HS := Lib.hid (wts_take_succ hp)
        clear hx hp hl u0 u1
        go_wp2_with (at_builtin; refine wpList_append_int rfl _ _ rfl rfl rfl (by simp) Tryz.underlying52 int_info rfl (ho.out.alloc _) (hb.out.alloc hb.out.size _) (Nat.le_refl _) (by have := hb.out.size; simp; omega) (by omega) (by simp only [maxLen]; omega) ?_; intro v' w' h1 h2 _ _; have H1 := Lib.hid h1; have H2 := Lib.hid h2; clear h1 h2)
        go_roundw
        case rel => exact ⟨q + 1, by omega, by go_num, by rw [HS.out]; exact H1, H2⟩
        case measure => simp [intOf]; omega
      · obtain rfl : q = a := by omega
        obtain ⟨A2, c2, rfl⟩ := own_form ho.out
        have HW := Lib.hid (good_wide G.out HL.out q)
        clear hx u0 u1
        go_wp2_with fail
        refine (choose_any A2 q c2 _ _ flow wr ho.out.ints (Nat.le_refl _) HW.out hf (by omega)).mono ?_
        rintro e w2 ⟨rfl, hb2⟩
        have HB2 := Lib.hid hb2
        clear hb2
        go_wp2
        go_ret
        exact ⟨ret_int HP.out.symm, hb.out.trans (HB2.out.mono hb.out.size)⟩
  · have HP : Hid (pick act n ps flow = -1) := by show _ = _; rw [pick, if_pos hg]
    have d : (gErr act n ps != 0) = true := by simp [hg]
    obtain ⟨e, he⟩ : ∃ e, gErr act n ps = e := ⟨_, rfl⟩
    rw [he] at H1 d
    clear hx hg he
    go_enter Tryz.func76, Tryz.ntmps76
    go_wp2_with fail
    refine H1.out.mono ?_
    rintro e w1 ⟨rfl, hb1⟩
    have HB1 := Lib.hid hb1
    clear hb1
    go_wp2
    go_ret
    exact ⟨ret_int HP.out.symm, HB.out.trans (HB1.out.mono HB.out.size)⟩

set_option maxHeartbeats 2000000 in
theorem refPick_any (A : Option Addr) (n c B : Nat) (act flow : Int) (ps : List PV) (w : World) (hx : Paths w B A n c ps) (hB : B ≤ w.heap.size) (hn : n ≤ 140737488355328) (hf : 0 ≤ flow ∧ flow < 4294967296) :
    Calls Tryz.prog 81 #[.agg #[.int .i64 act, .slice A n c], .int .u32 flow] w fun e w' => e = .returned (.int .i64 (pick act n ps flow)) ∧ Below w.heap.size w w' := by
  have HB := Lib.hid ((Below.refl w.heap.size w).alloc (Nat.le_refl _) (.cells #[.int .i64 act, .slice A n c] 47))
  have HX : Hid (Paths (w.alloc (.cells #[.int .i64 act, .slice A n c] 47)) B A n c ps) := hx.below (HB.out.mono hB)
  have H1 := Lib.hid (refCheck_any A n c B act ps _ HX.out (by have := HB.out.size; omega) hn)
  by_cases hg : gErr act n ps = 0
  · have G := Lib.hid (good_of hg)
    have HP : Hid (pick act n ps flow = (ch (wts (ps.take act.toNat)) flow act.toNat : Int) - 1) := by show _ = _; rw [pick, hg]; rfl
    rw [hg] at H1
    obtain ⟨a, rfl⟩ := Int.eq_ofNat_of_zero_le G.out.a0
    rw [Int.toNat_natCast] at HP
    have ha : a ≤ n := by have := G.out.a1; omega
    have hn64 := G.out.n64
    have hnc := hx.1.1.1
    have HL := Lib.hid hx.len
    clear hg
    go_enter Tryz.func81, Tryz.ntmps81
    go_wp2_with fail
    refine H1.out.mono ?_
    rintro e w1 ⟨rfl, hb1⟩
    have HB1 := Lib.hid hb1
    have u0 : w1.cell? ⟨w.heap.size, 0, none⟩ = some (.int .i64 a) := (hb1.cell (p := ⟨w.heap.size, 0, none⟩) (by simp)).trans (by go_simp)
    have u1 : w1.cell? ⟨w.heap.size, 1, none⟩ = some (.slice A n c) := (hb1.cell (p := ⟨w.heap.size, 1, none⟩) (by simp)).trans (by go_simp)
    have HBW : Hid (Below w.heap.size w w1) := HB.out.trans (hb1.mono (by simp))
    have hac : (a : Int) ≤ (c : Int) := by omega
    clear hb1
    go_wp2
    go_loopw [5, 17] (fun v k wr => ∃ q : Nat, q ≤ a ∧ k = .int .i64 q ∧ Hid (Own wr w.heap.size 3 .i64 v q (wts (ps.take q))) ∧ Hid (Below w.heap.size w wr)) (fun _ k _ => a - (intOf k).toNat)
    case atStart => exact ⟨0, Nat.zero_le _, rfl, Own.nil _ _ _ _, HBW⟩
    case round =>
      obtain ⟨q, hq, rfl, ho, hb⟩ := hrel
      by_cases hlt : q < a
      · obtain ⟨b, o, p, rfl, hbB, hp, hl, c0, c1, c2, c3, c4, c5⟩ := (hx.below (hb.out.mono hB)).get (j := q) (by omega)
        have HS := Lib.hid (wts_take_succ hp)
        clear hx hp hl u0 u1
        go_wp2_with (at_builtin; refine wpList_append_int rfl _ _ rfl rfl rfl (by simp) Tryz.underlying52 int_info rfl (ho.out.alloc _) (hb.out.alloc hb.out.size _) (Nat.le_refl _) (by have := hb.out.size; simp; omega) (by omega) (by simp only [maxLen]; omega) ?_; intro v' w' h1 h2 _ _; have H1 := Lib.hid h1; have H2 := Lib.hid h2; clear h1 h2)
        go_roundw
        case rel => exact ⟨q + 1, by omega, by go_num, by rw [HS.out]; exact H1, H2⟩
        case measure => simp [intOf]; omega
      · obtain rfl : q = a := by omega
        obtain ⟨A2, c2, rfl⟩ := own_form ho.out
        have HW := Lib.hid (good_wide G.out HL.out q)
        clear hx u0 u1
        go_wp2_with fail
        refine (refChoose_any A2 q c2 _ _ flow wr ho.out.ints (Nat.le_refl _) HW.out hf (by omega)).mono ?_
        rintro e w2 ⟨rfl, hb2⟩
        have HB2 := Lib.hid hb2
        clear hb2
        go_wp2
        go_ret
        exact ⟨ret_int HP.out.symm, hb.out.trans (HB2.out.mono hb.out.size)⟩
  · have HP : Hid (pick act n ps flow = -1) := by show _ = _; rw [pick, if_pos hg]
    have d : (gErr act n ps != 0) = true := by simp [hg]
    obtain ⟨e, he⟩ : ∃ e, gErr act n ps = e := ⟨_, rfl⟩
    rw [he] at H1 d
    clear hx hg he
    go_enter Tryz.func81, Tryz.ntmps81
    go_wp2_with fail
    refine H1.out.mono ?_
    rintro e w1 ⟨rfl, hb1⟩
    have HB1 := Lib.hid hb1
    clear hb1
    go_wp2
    go_ret
    exact ⟨ret_int HP.out.symm, HB.out.trans (HB1.out.mono HB.out.size)⟩
end Go.Proofs.YtplppbgkkfjknaaGreatDoor
namespace Go.Proofs.YtplppbgkkfjknaaGreatDoor
open Go.RowKit
set_option maxRecDepth 100000

theorem ints_info : (Tryz.prog.info? 3).map (fun i => (i.zero, i.size, i.bytes)) = some (some (.int .i64 0), 1, 8) := by kernel_rfl

set_option maxHeartbeats 400000 in
theorem copyInts_any (A B : Option Addr) (n c m d : Nat) (xs ys : List Int) (w : World) (hx : Ints w w.heap.size .i64 A n c xs) (hy : Ints w w.heap.size .i64 B m d ys) (hn : n + m ≤ 17592186044416) :
    Calls Tryz.prog 79 #[.slice A n c, .slice B m d] w (GivesInts 3 .i64 (n + m) (xs ++ ys) w) := by
  obtain ⟨v1, w1, hr1, ho1, hg1, hat1⟩ := Ints.append (P := Tryz.prog) (t := 52) (ty := 52) Tryz.underlying52 ints_info rfl (Own.nil w w.heap.size _ _) hx (by simp only [maxLen]; omega) (by omega) (Nat.le_refl _)
  rw [Nat.zero_add, List.nil_append] at ho1
  have hb1 : Below w.heap.size w w1 := (Below.refl w.heap.size w).grown hg1 (Nat.le_refl _) (by simp [Value.ownBlock])
  obtain ⟨v2, w2, hr2, ho2, hg2, hat2⟩ := Ints.append (P := Tryz.prog) (t := 52) (ty := 52) Tryz.underlying52 ints_info rfl ho1 (hy.below hb1) (by simp only [maxLen]; omega) (by omega) hb1.size
  have hb2 : Below w.heap.size w w2 := hb1.grown hg2 hb1.size (fun k hk => (World.ownsRow.lt ho1 k hk).1)
  obtain ⟨A2, c2, rfl⟩ := own_form ho2
  have HR1 := Lib.hid hr1
  have HR2 := Lib.hid hr2
  have HO := Lib.hid ho2
  have HB := Lib.hid hb2
  clear hr1 hr2 ho1 ho2 hb1 hb2 hg1 hg2 hat1 hat2 hx hy
  go_enter Tryz.func79, Tryz.ntmps79
  go_wp2_with (first | (at_builtin; refine wpList_append_run rfl (.tmp 6) (.tmp 7) _ rfl rfl rfl HR1.out ?_) | (at_builtin; refine wpList_append_run rfl (.tmp 9) (.tmp 10) _ rfl rfl rfl HR2.out ?_))
  go_ret
  exact ⟨A2, c2, rfl, HO.out, HB.out⟩

theorem eq_of_each {xs ys : List Int} {n : Nat} (h1 : xs.length = n) (h2 : ys.length = n) (h : ∀ j, j < n → xs.getD j 0 = ys.getD j 0) : xs = ys := by
  refine List.ext_getElem (by omega) fun j h3 h4 => ?_
  have := h j (by omega)
  rw [List.getD_eq_getElem?_getD, List.getD_eq_getElem?_getD, List.getElem?_eq_getElem h3, List.getElem?_eq_getElem h4] at this
  exact this

/-- A slice of the call's own, or an empty one. -/
def GivesFresh (n : Nat) (xs : List Int) (w : World) (e : Ending) (w' : World) : Prop :=
  ∃ A c, e = .returned (.slice A n c) ∧ Ints w' w'.heap.size .i64 A n c xs ∧ (0 < n → ∀ ad, A = some ad → w.heap.size ≤ ad.block) ∧ Below w.heap.size w w'

set_option maxHeartbeats 400000 in
theorem cloneInts_any (A : Option Addr) (n c : Nat) (xs : List Int) (w : World) (hx : Ints w w.heap.size .i64 A n c xs) (hn : n ≤ 17592186044416) :
    Calls Tryz.prog 69 #[.slice A n c] w (GivesFresh n xs w) := by
  rcases A with _ | ad
  · have h0 : n = 0 := by
      rcases Nat.eq_zero_or_pos n with h | h
      · exact h
      · obtain ⟨_, _, h, _⟩ := hx.2.2.2 h
        cases h
    subst h0
    obtain rfl : xs = [] := List.eq_nil_of_length_eq_zero hx.len
    have he := Lib.run_eql_slice_nil (P := Tryz.prog) w 52 3 none 0 c 0 0 Tryz.underlying52
    clear hx
    go_enter Tryz.func69, Tryz.ntmps69
    go_wp2
    go_ret
    exact ⟨none, 0, rfl, Ints.nil _ _ _, fun h => absurd h (by omega), Below.refl _ _⟩
  · have he := Lib.run_eql_slice_nil (P := Tryz.prog) w 52 3 (some ad) n c 0 0 Tryz.underlying52
    have hown : Own (w.alloc (.cells #[] 3)) w.heap.size 3 .i64 (.slice (some ⟨w.heap.size, 0, none⟩) 0 0) 0 [] := World.ownsRow_lit w #[] 0 (Nat.le_refl _) (by simp [maxLen]) rfl
    have hx1 : Ints (w.alloc (.cells #[] 3)) w.heap.size .i64 (some ad) n c xs := hx.keep fun p hp => World.cell?_alloc_lt w _ p (by omega)
    obtain ⟨v1, w1, hrun, ho1, hg1, hat⟩ := Ints.append (P := Tryz.prog) (t := 52) (ty := 52) Tryz.underlying52 ints_info rfl hown hx1 (by simp only [maxLen]; omega) (by omega) (by simp)
    rw [Nat.zero_add, List.nil_append] at ho1
    have HR := Lib.hid hrun
    have HB := Lib.hid (((Below.refl w.heap.size w).alloc (Nat.le_refl _) _).grown hg1 (by simp) (by simp [Value.ownBlock]))
    obtain ⟨A2, c2, rfl⟩ := own_form ho1
    have HO := Lib.hid ho1
    clear hrun hg1 hat ho1 hown hx1 hx
    go_enter Tryz.func69, Tryz.ntmps69
    go_wp2_with (at_builtin; refine wpList_append_run rfl _ _ _ rfl rfl rfl HR.out ?_)
    go_ret
    refine ⟨A2, c2, rfl, HO.out.ints, fun _ ad' h => ?_, HB.out⟩
    exact (World.ownsRow.lt HO.out ad'.block (by rw [h]; rfl)).1
end Go.Proofs.YtplppbgkkfjknaaGreatDoor
