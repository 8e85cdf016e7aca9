/- The plain laws of chapter 51: the best of a list of scores; what a failure does to a group, and to what it picks. No program is in sight. The plain laws of chapter 51, second part: two failures in either order; a second failure of one interface. FibFailure, plain: what Forward's path is; no interface that is down. Packets and lists of flags as arguments. -/
import Derived.Test.YtplppbgkkfjknaaGreatDoorG8
import Derived.Test.YtplppbgkkfjknaaGreatDoorG23
import Derived.Test.YtplppbgkkfjknaaGreatDoorG30
import Derived.Test.YtplppbgkkfjknaaGreatDoorG25
namespace Go.Proofs.YtplppbgkkfjknaaGreatDoor
open Go.RowKit

/-- r is the best of the first n scores, as an index plus 1, or 0 -/
def Best (s : Nat → Int) (n r : Nat) : Prop := (r = 0 ∧ ∀ j, j < n → s j ≤ 0) ∨ ∃ i, r = i + 1 ∧ i < n ∧ 0 < s i ∧ (∀ j, j < i → s j < s i) ∧ ∀ j, j < n → s j ≤ s i
section
variable {s s' : Nat → Int} {n r r' : Nat}
theorem Best.uniq (h : Best s n r) (h' : Best s n r') : r = r' := by
  rcases h with ⟨rfl, h⟩ | ⟨i, rfl, hi, hp, hl, hm⟩ <;> rcases h' with ⟨rfl, h'⟩ | ⟨k, rfl, hk, hp', hl', hm'⟩
  · rfl
  · have := h k hk; omega
  · have := h' i hi; omega
  · rcases Nat.lt_trichotomy i k with hik | hik | hik
    · have := hl' i hik; have := hm k hk; omega
    · rw [hik]
    · have := hl k hik; have := hm' i hi; omega
theorem Best.congr (h : Best s n r) (he : ∀ j, j < n → s' j = s j) : Best s' n r := by
  rcases h with ⟨rfl, h⟩ | ⟨i, rfl, hi, hp, hl, hm⟩
  · exact .inl ⟨rfl, fun j hj => by rw [he j hj]; exact h j hj⟩
  · exact .inr ⟨i, rfl, hi, by rw [he i hi]; exact hp, fun j hj => by rw [he j (by omega), he i hi]; exact hl j hj, fun j hj => by rw [he j hj, he i hi]; exact hm j hj⟩
theorem Best.none (h : Best s n 0) (he : ∀ j, j < n → s' j ≤ s j) : Best s' n 0 := by
  rcases h with ⟨_, h⟩ | ⟨i, h, _⟩
  · exact .inl ⟨rfl, fun j hj => by have := h j hj; have := he j hj; omega⟩
  · omega
theorem Best.keep {i : Nat} (h : Best s n (i + 1)) (he : ∀ j, j < n → j ≠ i → s' j ≤ s j) (hi : s i ≤ s' i) : Best s' n (i + 1) := by
  rcases h with ⟨h, _⟩ | ⟨k, hk, hkn, hp, hl, hm⟩
  · omega
  · obtain rfl : k = i := by omega
    refine .inr ⟨k, rfl, hkn, by omega, fun j hj => ?_, fun j hj => ?_⟩
    · have := hl j hj; have := he j (by omega) (by omega); omega
    · by_cases hjk : j = k
      · subst hjk; omega
      · have := hm j hj; have := he j hj hjk; omega
theorem Best.pos {i : Nat} (h : Best s n (i + 1)) : 0 < s i ∧ i < n := by
  rcases h with ⟨h, _⟩ | ⟨k, hk, hkn, hp, hl, hm⟩
  · omega
  · obtain rfl : k = i := by omega
    exact ⟨hp, hkn⟩
theorem Best.scale {c : Int} (hc : 0 < c) (h : Best s n r) : Best (fun j => s j * c) n r := by
  rcases h with ⟨rfl, h⟩ | ⟨i, rfl, hi, hp, hl, hm⟩
  · exact .inl ⟨rfl, fun j hj => by
      have := Int.mul_le_mul_of_nonneg_right (h j hj) (Int.le_of_lt hc)
      simpa using this⟩
  · exact .inr ⟨i, rfl, hi, Int.mul_pos hp hc, fun j hj => Int.mul_lt_mul_of_pos_right (hl j hj) hc, fun j hj => Int.mul_le_mul_of_nonneg_right (hm j hj) (Int.le_of_lt hc)⟩
end
theorem scAt_nonneg (ws : List Int) (flow : Int) (i : Nat) : 0 ≤ scAt ws flow i := (sc_bd _ _ _).1
theorem ch_best (ws : List Int) (flow : Int) : ∀ n, Best (scAt ws flow) n (ch ws flow n)
  | 0 => .inl ⟨rfl, fun j hj => absurd hj (by omega)⟩
  | n + 1 => by
    have ih := ch_best ws flow n
    have hn := scAt_nonneg ws flow n
    by_cases hm : most ws flow n < scAt ws flow n
    · rw [(ch_yes hm).1]
      rcases ih with ⟨h0, h⟩ | ⟨i, h0, hi, hp, hl, hmx⟩
      · rw [most, if_pos h0] at hm
        refine .inr ⟨n, rfl, by omega, hm, fun j hj => ?_, fun j hj => ?_⟩
        · have := h j hj; omega
        · rcases Nat.lt_or_ge j n with hj' | hj'
          · have := h j hj'; omega
          · obtain rfl : j = n := by omega
            exact Int.le_refl _
      · rw [most, if_neg (by omega), h0, Nat.add_sub_cancel] at hm
        refine .inr ⟨n, rfl, by omega, by omega, fun j hj => ?_, fun j hj => ?_⟩
        · have := hmx j hj; omega
        · rcases Nat.lt_or_ge j n with hj' | hj'
          · have := hmx j hj'; omega
          · obtain rfl : j = n := by omega
            exact Int.le_refl _
    · rw [(ch_no hm).1]
      rcases ih with ⟨h0, h⟩ | ⟨i, h0, hi, hp, hl, hmx⟩
      · rw [most, if_pos h0] at hm
        refine .inl ⟨h0, fun j hj => ?_⟩
        rcases Nat.lt_or_ge j n with hj' | hj'
        · exact h j hj'
        · obtain rfl : j = n := by omega
          omega
      · rw [most, if_neg (by omega), h0, Nat.add_sub_cancel] at hm
        refine .inr ⟨i, h0, by omega, hp, hl, fun j hj => ?_⟩
        rcases Nat.lt_or_ge j n with hj' | hj'
        · exact hmx j hj'
        · obtain rfl : j = n := by omega
          omega
theorem ch_of {ws : List Int} {flow : Int} {n r : Nat} (h : Best (scAt ws flow) n r) : ch ws flow n = r := (ch_best ws flow n).uniq h

/-- a member's weight is set to 0 -/
theorem set0 (ws : List Int) (flow : Int) (n m : Nat) (hl : ws.length = n) (hm : m < n) : (ch ws flow n ≠ m + 1 → ch (ws.set m 0) flow n = ch ws flow n) ∧ ch (ws.set m 0) flow n ≠ m + 1 := by
  have hs : ∀ j, scAt (ws.set m 0) flow j = if j = m then 0 else scAt ws flow j := by
    intro j
    unfold scAt
    rw [List.getD_eq_getElem?_getD, List.getElem?_set]
    by_cases hj : j = m
    · subst hj
      rw [if_pos rfl, if_pos rfl, if_pos (by omega)]
      exact sc_zero (by simp)
    · rw [if_neg (fun h => hj h.symm), if_neg hj, ← List.getD_eq_getElem?_getD]
  constructor
  · intro hne
    have hb := ch_best ws flow n
    generalize ch ws flow n = r at *
    refine ch_of ?_
    cases r with
    | zero => exact hb.none fun j hj => by rw [hs]; split; exact scAt_nonneg _ _ _; exact Int.le_refl _
    | succ i => exact hb.keep (fun j hj _ => by rw [hs]; split; exact scAt_nonneg _ _ _; exact Int.le_refl _) (by rw [hs, if_neg (by omega)]; exact Int.le_refl _)
  · intro he
    have hb := ch_best (ws.set m 0) flow n
    rw [he] at hb
    have := hb.pos.1
    rw [hs, if_pos rfl] at this
    omega
theorem sc_mono {flow i v v' : Int} (h : v ≤ v') : sc flow i v ≤ sc flow i v' := by
  have := (h2_bd (i % 4294967296) flow).1
  unfold sc
  exact Int.mul_le_mul_of_nonneg_left (by omega) (by omega)
theorem pos_of_sc {flow i v : Int} (h : 0 < sc flow i v) : 0 < v := by
  rcases Int.lt_or_le 0 v with h' | h'
  · exact h'
  · rw [sc_zero h'] at h; omega
/-- a member's weight grows -/
theorem grow (ws : List Int) (flow : Int) (n i : Nat) (hl : ws.length = n) (more : Int) (hm : 0 ≤ more) (h : ch ws flow n = i + 1) : ch (ws.set i (ws.getD i 0 + more)) flow n = i + 1 := by
  have hb := ch_best ws flow n
  rw [h] at hb
  have hi := hb.pos.2
  refine ch_of (hb.keep (fun j hj hne => ?_) ?_)
  · unfold scAt
    rw [List.getD_eq_getElem?_getD, List.getElem?_set_ne (by omega), ← List.getD_eq_getElem?_getD]
    exact Int.le_refl _
  · show sc flow i (ws.getD i 0) ≤ sc flow i ((ws.set i (ws.getD i 0 + more)).getD i 0)
    rw [List.getD_eq_getElem?_getD (l := ws.set i _), List.getElem?_set_self (by omega)]
    exact sc_mono (by simp; omega)
/-- equal weights -/
theorem equals (flow : Int) (n : Nat) (size : Int) (h0 : 0 ≤ size) (h1 : size ≤ 255) : ch (List.replicate n (1 + size)) flow n = ch (List.replicate n 1) flow n := by
  have hb := (ch_best (List.replicate n 1) flow n).scale (c := 1 + size) (by omega)
  refine ch_of (hb.congr fun j hj => ?_)
  unfold scAt
  rw [List.getD_eq_getElem?_getD, List.getD_eq_getElem?_getD, List.getElem?_replicate, List.getElem?_replicate, if_pos hj, if_pos hj]
  simp only [Option.getD_some]
  unfold sc
  rw [show min (max (1 + size) 0) 65535 = 1 + size by omega, show min (max (1 : Int) 0) 65535 = 1 by decide, Int.mul_one]

/-- the fields of the group after a failure -/
theorem failG_len (act : Int) (n : Nat) (ds : List PV) (iface : Int) : (failG act n ds iface).length = ds.length := by
  unfold failG
  split
  · simp
  · rw [fTo_len]; simp
section
variable {act : Int} {n : Nat} {ds : List PV} {iface : Int}
theorem failG_lt (hg : gErr act n ds = 0) (hi : ds.map PV.dat = ds) {j : Nat} (hj : (j : Int) < act) (hl : j < ds.length) : (failG act n ds iface).getD j zeroP = failP ds iface (ds.getD j zeroP) := by
  rw [failG, if_neg (by simp [hg]), hi, List.getD_eq_getElem?_getD, fTo_lt ds iface (by omega) hl]
  rfl
theorem failG_ge (hg : gErr act n ds = 0) (hi : ds.map PV.dat = ds) {j : Nat} (hj : act ≤ (j : Int)) : (failG act n ds iface).getD j zeroP = ds.getD j zeroP := by
  rw [failG, if_neg (by simp [hg]), hi, List.getD_eq_getElem?_getD, fTo_ge ds iface (by omega), List.getD_eq_getElem?_getD]
theorem get_of {l : List PV} {j : Nat} (hj : j < l.length) : l[j]? = some (l.getD j zeroP) := by
  rw [List.getD_eq_getElem?_getD, List.getElem?_eq_getElem hj]
  rfl
/-- a good group's path -/
theorem good_at (h : Good act n ds) (hl : ds.length = n) {j : Nat} (hj : j < n) : pErr act n j (ds.getD j zeroP) = 0 := h.each j _ hj (get_of (by omega))
theorem pErr_zero_of {j : Nat} {p : PV} (h0 : 0 ≤ p.iface ∧ p.iface < 16 ∧ 0 ≤ p.weight ∧ p.weight ≤ 65535) (h1 : p.ln ≤ 16) (h2 : p.ls.all labOK = true) (h3 : p.backup = -1 ∨ ((j : Int) < act ∧ act ≤ p.backup ∧ p.backup < n)) : pErr act n j p = 0 :=
  pErr_ok (by omega) (by omega) h2 (by omega)
theorem good_fail (h : Good act n ds) (hl : ds.length = n) (hi : ds.map PV.dat = ds) (iface : Int) : Good act n (failG act n ds iface) := by
  have hg := gErr_of_good h
  have ha := h.a0
  have ha1 := h.a1
  refine ⟨h.n64, h.a0, h.a1, fun j p hj hp => ?_⟩
  have hfl := failG_len act n ds iface
  have hpe : p = (failG act n ds iface).getD j zeroP := by rw [List.getD_eq_getElem?_getD, hp]; rfl
  rw [hpe]
  have hq := pErr_zero (good_at h hl hj)
  by_cases hja : (j : Int) < act
  · rw [failG_lt hg hi hja (by omega)]
    generalize ds.getD j zeroP = q at hq
    obtain ⟨q1, q2, q3, q4⟩ := hq
    by_cases hb : 0 ≤ q.backup ∧ (bk ds q).iface ≠ iface
    · by_cases he : q.iface = iface
      · rw [failP_move hb.1 hb.2 he]
        have hbn : q.backup.toNat < n := by omega
        have hz := pErr_zero (good_at h hl hbn)
        exact pErr_zero_of ⟨hz.1.1, hz.1.2.1, q1.2.2.1, q1.2.2.2⟩ hz.2.1 hz.2.2.1 (.inl rfl)
      · rw [failP_keep hb.1 hb.2 he]
        exact pErr_zero_of q1 q2 q3 q4
    · by_cases he : q.iface = iface
      · rw [failP_zero hb he]
        exact pErr_zero_of ⟨q1.1, q1.2.1, by show (0 : Int) ≤ 0; omega, by show (0 : Int) ≤ 65535; omega⟩ q2 q3 (.inl rfl)
      · rw [failP_drop hb he]
        exact pErr_zero_of q1 q2 q3 (.inl rfl)
  · rw [failG_ge hg hi (by omega)]
    exact pErr_zero_of hq.1 hq.2.1 hq.2.2.1 hq.2.2.2
/-- a group's score -/
theorem wts_getD (ds : List PV) (a j : Nat) (hj : j < a) : (wts (ds.take a)).getD j 0 = (ds.getD j zeroP).weight := by
  rw [wts, List.getD_eq_getElem?_getD, List.getElem?_map, List.getElem?_take, if_pos hj, List.getD_eq_getElem?_getD]
  cases ds[j]? <;> rfl
theorem pick_good (h : Good act n ds) (flow : Int) : pick act n ds flow = (ch (wts (ds.take act.toNat)) flow act.toNat : Int) - 1 := by
  rw [pick, if_neg (by simp [gErr_of_good h])]
/-- the score of an active path of a group -/
def gsc (ds : List PV) (flow : Int) (j : Nat) : Int := sc flow j (ds.getD j zeroP).weight
theorem pick_best (h : Good act n ds) (flow : Int) : ∃ r : Nat, pick act n ds flow = (r : Int) - 1 ∧ Best (gsc ds flow) act.toNat r := by
  refine ⟨_, pick_good h flow, (ch_best _ _ _).congr fun j hj => ?_⟩
  unfold scAt gsc
  rw [wts_getD _ _ _ hj]
theorem pick_of (h : Good act n ds) {flow : Int} {r : Nat} (hb : Best (gsc ds flow) act.toNat r) : pick act n ds flow = (r : Int) - 1 := by
  obtain ⟨r', h1, h2⟩ := pick_best h flow
  rw [h1, h2.uniq hb]
/-- the weight of a path after a failure -/
theorem failP_weight (ds : List PV) (iface : Int) (p : PV) : (failP ds iface p).weight = if p.iface = iface ∧ ¬ (0 ≤ p.backup ∧ (bk ds p).iface ≠ iface) then 0 else p.weight := by
  by_cases hb : 0 ≤ p.backup ∧ (bk ds p).iface ≠ iface
  · rw [if_neg (fun h => h.2 hb)]
    by_cases he : p.iface = iface
    · rw [failP_move hb.1 hb.2 he]
    · rw [failP_keep hb.1 hb.2 he]
  · by_cases he : p.iface = iface
    · rw [if_pos ⟨he, hb⟩, failP_zero hb he]
    · rw [if_neg (fun h => he h.1), failP_drop hb he]
theorem failP_clean {p : PV} (h : 0 < (failP ds iface p).weight) : (failP ds iface p).iface ≠ iface := by
  by_cases hb : 0 ≤ p.backup ∧ (bk ds p).iface ≠ iface
  · by_cases he : p.iface = iface
    · rw [failP_move hb.1 hb.2 he]; exact hb.2
    · rw [failP_keep hb.1 hb.2 he]; exact he
  · by_cases he : p.iface = iface
    · rw [failP_zero hb he] at h
      exact absurd h (by show ¬ (0 : Int) < 0; omega)
    · rw [failP_drop hb he]; exact he
theorem gsc_le (ds ds' : List PV) (flow : Int) (j : Nat) (h : (ds'.getD j zeroP).weight = (ds.getD j zeroP).weight ∨ (ds'.getD j zeroP).weight = 0) : gsc ds' flow j ≤ gsc ds flow j := by
  unfold gsc
  rcases h with h | h
  · rw [h]; exact Int.le_refl _
  · rw [h, sc_zero (Int.le_refl 0)]; exact (sc_bd _ _ _).1
/-- no active path with a weight -/
theorem moves_none (h : Good act n ds) (hl : ds.length = n) (hi : ds.map PV.dat = ds) (flow : Int) (hp : pick act n ds flow < 0) : pick act n (failG act n ds iface) flow < 0 := by
  obtain ⟨r, h1, h2⟩ := pick_best h flow
  obtain rfl : r = 0 := by omega
  have ha := h.a1
  have h0 := h.a0
  rw [pick_of (good_fail h hl hi iface) (h2.none fun j hj => gsc_le _ _ _ _ ?_)]
  · omega
  · rw [failG_lt (gErr_of_good h) hi (by omega) (by omega), failP_weight]
    by_cases hh : (ds.getD j zeroP).iface = iface ∧ ¬ (0 ≤ (ds.getD j zeroP).backup ∧ (bk ds (ds.getD j zeroP)).iface ≠ iface)
    · exact .inr (by rw [if_pos hh])
    · exact .inl (by rw [if_neg hh])
/-- where the picked path lies -/
theorem pick_range (h : Good act n ds) (flow : Int) (hp : 0 ≤ pick act n ds flow) : ∃ i : Nat, pick act n ds flow = i ∧ (i : Int) < act ∧ i < n ∧ Best (gsc ds flow) act.toNat (i + 1) ∧ 0 < (ds.getD i zeroP).weight := by
  obtain ⟨r, h1, h2⟩ := pick_best h flow
  have ha := h.a1
  cases r with
  | zero => omega
  | succ i =>
    have hq := h2.pos
    exact ⟨i, by omega, by omega, by omega, h2, pos_of_sc hq.1⟩
theorem moves_keep (h : Good act n ds) (hl : ds.length = n) (hi : ds.map PV.dat = ds) {flow : Int} {i : Nat} (hb : Best (gsc ds flow) act.toNat (i + 1)) (hia : (i : Int) < act)
    (hk : ¬ ((ds.getD i zeroP).iface = iface ∧ ¬ (0 ≤ (ds.getD i zeroP).backup ∧ (bk ds (ds.getD i zeroP)).iface ≠ iface))) : pick act n (failG act n ds iface) flow = i := by
  have ha := h.a1
  have h0 := h.a0
  have hw : ∀ j : Nat, (j : Int) < act → ((failG act n ds iface).getD j zeroP).weight = if (ds.getD j zeroP).iface = iface ∧ ¬ (0 ≤ (ds.getD j zeroP).backup ∧ (bk ds (ds.getD j zeroP)).iface ≠ iface) then 0 else (ds.getD j zeroP).weight := by
    intro j hj
    rw [failG_lt (gErr_of_good h) hi hj (by omega), failP_weight]
  have k1 : ∀ j, j < act.toNat → j ≠ i → gsc (failG act n ds iface) flow j ≤ gsc ds flow j := by
    intro j hj _
    refine gsc_le _ _ _ _ ?_
    rw [hw j (by omega)]
    by_cases hh : (ds.getD j zeroP).iface = iface ∧ ¬ (0 ≤ (ds.getD j zeroP).backup ∧ (bk ds (ds.getD j zeroP)).iface ≠ iface)
    · exact .inr (by rw [if_pos hh])
    · exact .inl (by rw [if_neg hh])
  have k2 : gsc ds flow i ≤ gsc (failG act n ds iface) flow i := by
    unfold gsc
    rw [hw i hia, if_neg hk]
    exact Int.le_refl _
  rw [pick_of (good_fail h hl hi iface) (hb.keep k1 k2)]
  omega
theorem moves_away (h : Good act n ds) (hl : ds.length = n) (hi : ds.map PV.dat = ds) {flow : Int} {i : Nat} (hia : (i : Int) < act)
    (hk : (ds.getD i zeroP).iface = iface ∧ ¬ (0 ≤ (ds.getD i zeroP).backup ∧ (bk ds (ds.getD i zeroP)).iface ≠ iface)) : pick act n (failG act n ds iface) flow ≠ i := by
  intro he
  have ha := h.a1
  obtain ⟨k, h1, h2, h3, h4, h5⟩ := pick_range (good_fail h hl hi iface) flow (by omega)
  obtain rfl : k = i := by omega
  rw [failG_lt (gErr_of_good h) hi hia (by omega), failP_weight, if_pos hk] at h5
  omega
/-- a picked path does not use the interface that failed -/
theorem clean (h : Good act n ds) (hl : ds.length = n) (hi : ds.map PV.dat = ds) {flow : Int} (hp : 0 ≤ pick act n (failG act n ds iface) flow) :
    ∃ k : Nat, pick act n (failG act n ds iface) flow = k ∧ k < n ∧ ((failG act n ds iface).getD k zeroP).iface ≠ iface := by
  obtain ⟨k, h1, h2, h3, h4, h5⟩ := pick_range (good_fail h hl hi iface) flow hp
  rw [failG_lt (gErr_of_good h) hi h2 (by omega)] at h5
  exact ⟨k, h1, h3, by rw [failG_lt (gErr_of_good h) hi h2 (by omega)]; exact failP_clean h5⟩
end
end Go.Proofs.YtplppbgkkfjknaaGreatDoor
namespace Go.Proofs.YtplppbgkkfjknaaGreatDoor
open Go.RowKit

/-- a path after a failure, its backup given -/
def fp (bp : PV) (iface : Int) (p : PV) : PV :=
  if 0 ≤ p.backup ∧ bp.iface ≠ iface then
    if p.iface = iface then { bp with weight := p.weight, backup := -1 } else p
  else if p.iface = iface then { p with weight := 0, backup := -1 } else { p with backup := -1 }
theorem failP_fp (ds : List PV) (iface : Int) (p : PV) : failP ds iface p = fp (bk ds p) iface p := rfl
/-- two paths that are alike where they have a weight -/
def Alike2 (x y : PV) : Prop := x.weight = y.weight ∧ (0 < x.weight → x.iface = y.iface ∧ x.router = y.router ∧ x.addr = y.addr)
/-- a path after the failures of two interfaces -/
def both (bp : PV) (a b : Int) (p : PV) : PV :=
  if p.iface ≠ a ∧ p.iface ≠ b then p else if 0 ≤ p.backup ∧ bp.iface ≠ a ∧ bp.iface ≠ b then { bp with weight := p.weight } else { p with weight := 0 }
theorem both_comm (bp : PV) (a b : Int) (p : PV) : both bp a b p = both bp b a p := by
  unfold both
  by_cases h1 : p.iface = a <;> by_cases h2 : p.iface = b <;> by_cases h3 : 0 ≤ p.backup <;> by_cases h4 : bp.iface = a <;> by_cases h5 : bp.iface = b <;> simp_all [-Int.not_le]
theorem fp_both (bp : PV) (a b : Int) (p : PV) : Alike2 (fp bp b (fp bp a p)) (both bp a b p) := by
  unfold Alike2 fp both
  by_cases h1 : p.iface = a <;> by_cases h2 : p.iface = b <;> by_cases h3 : 0 ≤ p.backup <;> by_cases h4 : bp.iface = a <;> by_cases h5 : bp.iface = b <;> simp_all [-Int.not_le]
theorem alike_trans {x y z : PV} (h1 : Alike2 x y) (h2 : Alike2 z y) : Alike2 x z :=
  ⟨h1.1.trans h2.1.symm, fun h => by
    obtain ⟨a1, a2, a3⟩ := h1.2 h
    obtain ⟨b1, b2, b3⟩ := h2.2 (by rw [h2.1, ← h1.1]; exact h)
    exact ⟨a1.trans b1.symm, a2.trans b2.symm, a3.trans b3.symm⟩⟩
theorem fp_backup (bp : PV) (a : Int) (p : PV) : (fp bp a p).backup = p.backup ∨ (fp bp a p).backup = -1 := by
  unfold fp
  split
  · split
    · exact .inr rfl
    · exact .inl rfl
  · split
    · exact .inr rfl
    · exact .inr rfl
theorem fp_irr {bp bp' : PV} {b : Int} {q : PV} (h : q.backup = -1) : fp bp b q = fp bp' b q := by
  have h' : ∀ c : PV, ¬ (0 ≤ q.backup ∧ c.iface ≠ b) := fun c hh => by omega
  unfold fp
  rw [if_neg (h' bp), if_neg (h' bp')]
section
variable {act : Int} {n : Nat} {ds : List PV}
/-- an active path after two failures -/
theorem two_fails (h : Good act n ds) (hl : ds.length = n) (hi : ds.map PV.dat = ds) (a b : Int) {j : Nat} (hj : (j : Int) < act) (hi2 : (failG act n ds a).map PV.dat = failG act n ds a) :
    (failG act n (failG act n ds a) b).getD j zeroP = fp (bk ds (ds.getD j zeroP)) b (fp (bk ds (ds.getD j zeroP)) a (ds.getD j zeroP)) := by
  have ha := h.a1
  have h0 := h.a0
  have hg := gErr_of_good h
  rw [failG_lt (gErr_of_good (good_fail h hl hi a)) hi2 hj (by rw [failG_len]; omega), failG_lt hg hi hj (by omega), failP_fp, failP_fp]
  have hq := pErr_zero (good_at h hl (j := j) (by omega))
  generalize hp : ds.getD j zeroP = p at *
  rcases fp_backup (bk ds p) a p with hb | hb
  · by_cases hbn : p.backup = -1
    · exact fp_irr (by rw [hb, hbn])
    · have he : bk (failG act n ds a) (fp (bk ds p) a p) = bk ds p := by
        show (failG act n ds a).getD (fp (bk ds p) a p).backup.toNat zeroP = ds.getD p.backup.toNat zeroP
        rw [hb]
        exact failG_ge hg hi (by omega)
      rw [he]
  · exact fp_irr hb
theorem order_any (h : Good act n ds) (hl : ds.length = n) (hi : ds.map PV.dat = ds) (a b : Int) (ha : (failG act n ds a).map PV.dat = failG act n ds a) (hb : (failG act n ds b).map PV.dat = failG act n ds b) {j : Nat} (hj : (j : Int) < act) :
    Alike2 ((failG act n (failG act n ds a) b).getD j zeroP) ((failG act n (failG act n ds b) a).getD j zeroP) := by
  rw [two_fails h hl hi a b hj ha, two_fails h hl hi b a hj hb]
  exact alike_trans (fp_both _ a b _) (both_comm _ a b _ ▸ fp_both _ b a _)
theorem pick_alike {xs ys : List PV} (hx : Good act n xs) (hy : Good act n ys) (flow : Int) (h : ∀ j : Nat, (j : Int) < act → Alike2 (xs.getD j zeroP) (ys.getD j zeroP)) : pick act n xs flow = pick act n ys flow := by
  obtain ⟨r, h1, h2⟩ := pick_best hx flow
  have h0 := hx.a0
  rw [h1, pick_of hy (h2.congr fun j hj => ?_)]
  unfold gsc
  rw [(h j (by omega)).1]
/-- what two failures leave: the same path is picked in either order, on neither interface -/
theorem failures (h : Good act n ds) (hl : ds.length = n) (hi : ds.map PV.dat = ds) (a b flow : Int) (ha : (failG act n ds a).map PV.dat = failG act n ds a) (hb : (failG act n ds b).map PV.dat = failG act n ds b) :
    pick act n (failG act n (failG act n ds a) b) flow = pick act n (failG act n (failG act n ds b) a) flow ∧
      (0 ≤ pick act n (failG act n (failG act n ds a) b) flow → ∃ i : Nat, pick act n (failG act n (failG act n ds a) b) flow = i ∧ i < n ∧
        ((failG act n (failG act n ds a) b).getD i zeroP).iface = ((failG act n (failG act n ds b) a).getD i zeroP).iface ∧
        ((failG act n (failG act n ds a) b).getD i zeroP).router = ((failG act n (failG act n ds b) a).getD i zeroP).router ∧
        ((failG act n (failG act n ds a) b).getD i zeroP).addr = ((failG act n (failG act n ds b) a).getD i zeroP).addr ∧
        ((failG act n (failG act n ds a) b).getD i zeroP).iface ≠ a ∧ ((failG act n (failG act n ds a) b).getD i zeroP).iface ≠ b) := by
  have gA := good_fail h hl hi a
  have gB := good_fail h hl hi b
  have lA : (failG act n ds a).length = n := by rw [failG_len]; exact hl
  have lB : (failG act n ds b).length = n := by rw [failG_len]; exact hl
  have gX := good_fail gA lA ha b
  have gY := good_fail gB lB hb a
  have hp := pick_alike gX gY flow fun j hj => order_any h hl hi a b ha hb hj
  refine ⟨hp, fun h0 => ?_⟩
  obtain ⟨i, h1, h2, h3, _, h5⟩ := pick_range gX flow h0
  obtain ⟨e1, e2, e3⟩ := (order_any h hl hi a b ha hb h2).2 h5
  obtain ⟨k, h6, _, h7⟩ := clean (iface := b) gA lA ha (flow := flow) h0
  obtain rfl : k = i := by omega
  obtain ⟨k', h8, _, h9⟩ := clean (iface := a) gB lB hb (flow := flow) (by omega)
  obtain rfl : k' = k := by omega
  exact ⟨k', h1, h3, e1, e2, e3, by rw [e1]; exact h9, h7⟩
/-- a second failure of the same interface -/
theorem fp_idem (bp : PV) (a : Int) (p : PV) (h : 0 ≤ p.backup ∨ p.backup = -1) : fp bp a (fp bp a p) = fp bp a p := by
  unfold fp
  by_cases h1 : p.iface = a <;> by_cases h3 : 0 ≤ p.backup <;> by_cases h4 : bp.iface = a <;> simp_all [-Int.not_le]
theorem fail_twice (h : Good act n ds) (hl : ds.length = n) (hi : ds.map PV.dat = ds) (a : Int) (ha : (failG act n ds a).map PV.dat = failG act n ds a) : failG act n (failG act n ds a) a = failG act n ds a := by
  have h1 := h.a1
  have h0 := h.a0
  have gA := good_fail h hl hi a
  refine List.ext_getElem? fun j => ?_
  by_cases hj : j < n
  · rw [get_of (l := failG act n (failG act n ds a) a) (by rw [failG_len, failG_len]; omega), get_of (l := failG act n ds a) (by rw [failG_len]; omega)]
    congr 1
    by_cases hja : (j : Int) < act
    · rw [two_fails h hl hi a a hja ha, failG_lt (gErr_of_good h) hi hja (by omega), failP_fp, fp_idem]
      have := (pErr_zero (good_at h hl hj)).2.2.2
      omega
    · rw [failG_ge (gErr_of_good gA) ha (by omega)]
  · rw [List.getElem?_eq_none (by rw [failG_len, failG_len]; omega), List.getElem?_eq_none (by rw [failG_len]; omega)]
/-- no active path uses the interface that failed -/
def clear1 (ds : List PV) (iface : Int) (p : PV) : Prop := ¬ (p.iface = iface ∧ 0 < p.weight) ∧ (0 ≤ p.backup → (bk ds p).iface ≠ iface)
theorem fail_clear (h : Good act n ds) (hl : ds.length = n) (hi : ds.map PV.dat = ds) (a : Int) {j : Nat} (hj : (j : Int) < act) : clear1 (failG act n ds a) a ((failG act n ds a).getD j zeroP) := by
  have h1 := h.a1
  have hg := gErr_of_good h
  rw [failG_lt hg hi hj (by omega)]
  refine ⟨fun hh => failP_clean hh.2 hh.1, fun hb => ?_⟩
  have hq := pErr_zero (good_at h hl (j := j) (by omega))
  generalize ds.getD j zeroP = p at *
  by_cases hu : 0 ≤ p.backup ∧ (bk ds p).iface ≠ a
  · by_cases he : p.iface = a
    · rw [failP_move hu.1 hu.2 he] at hb
      exact absurd hb (by show ¬ (0 : Int) ≤ -1; omega)
    · rw [failP_keep hu.1 hu.2 he]
      unfold bk
      rw [failG_ge hg hi (by omega)]
      exact hu.2
  · by_cases he : p.iface = a
    · rw [failP_zero hu he] at hb
      exact absurd hb (by show ¬ (0 : Int) ≤ -1; omega)
    · rw [failP_drop hu he] at hb
      exact absurd hb (by show ¬ (0 : Int) ≤ -1; omega)
/-- the path to which a flow moves -/
theorem moved (h : Good act n ds) (hl : ds.length = n) (hi : ds.map PV.dat = ds) {iface : Int} {i : Nat} (hia : (i : Int) < act) :
    ((ds.getD i zeroP).iface ≠ iface → ((failG act n ds iface).getD i zeroP).iface = (ds.getD i zeroP).iface) ∧
    ((ds.getD i zeroP).iface = iface → 0 ≤ (ds.getD i zeroP).backup → (bk ds (ds.getD i zeroP)).iface ≠ iface → ((failG act n ds iface).getD i zeroP).iface = (bk ds (ds.getD i zeroP)).iface ∧ ((failG act n ds iface).getD i zeroP).router = (bk ds (ds.getD i zeroP)).router) := by
  have h1 := h.a1
  rw [failG_lt (gErr_of_good h) hi hia (by omega)]
  generalize ds.getD i zeroP = p
  refine ⟨fun he => ?_, fun he hb hv => by rw [failP_move hb hv he]; exact ⟨rfl, rfl⟩⟩
  by_cases hu : 0 ≤ p.backup ∧ (bk ds p).iface ≠ iface
  · rw [failP_keep hu.1 hu.2 he]
  · rw [failP_drop hu he]
end
end Go.Proofs.YtplppbgkkfjknaaGreatDoor
namespace Go.Proofs.YtplppbgkkfjknaaGreatDoor
open Go.RowKit

set_option linter.unusedVariables false
set_option linter.unusedSimpArgs false
theorem flat_iff {ds : List PV} : ds.map PV.dat = ds ↔ ∀ d ∈ ds, d.dat = d := by
  constructor
  · intro h d hd
    obtain ⟨j, hj⟩ := List.mem_iff_getElem?.1 hd
    have h1 : (ds.map PV.dat)[j]? = ds[j]? := by rw [h]
    rw [List.getElem?_map, hj] at h1
    simpa using h1
  · intro h
    exact (List.map_congr_left (g := id) h).trans (List.map_id ds)
theorem dat_failP {ds : List PV} {iface : Int} (hs : ∀ d ∈ ds, d.dat = d) {p : PV} (hp : p.dat = p) : (failP ds iface p).dat = failP ds iface p := by
  have hb : (bk ds p).dat = bk ds p := by
    unfold bk
    rcases getD_mem (ds := ds) (j := p.backup.toNat) with h | h
    · exact hs _ h
    · rw [h]; rfl
  have hu : ∀ (q : PV) (x y : Int), q.dat = q → ({ q with weight := x, backup := y } : PV).dat = { q with weight := x, backup := y } := by
    intro q x y h
    have h1 := congrArg PV.A h
    have h2 := congrArg PV.ln h
    have h3 := congrArg PV.lc h
    cases q
    simp only [PV.dat] at h1 h2 h3 ⊢
    simp [← h1, ← h2, ← h3]
  have hv : ∀ (q : PV) (y : Int), q.dat = q → ({ q with backup := y } : PV).dat = { q with backup := y } := fun q y h => hu q q.weight y h
  unfold failP
  split
  · split
    · exact hu _ _ _ hb
    · exact hp
  · split
    · exact hu _ _ _ hp
    · exact hv _ _ hp
theorem dat_fTo {ds : List PV} {iface : Int} (hs : ∀ d ∈ ds, d.dat = d) : ∀ k, ∀ d ∈ fTo ds iface k, d.dat = d
  | 0, d, hd => hs d hd
  | k + 1, d, hd => by
    rw [fTo] at hd
    rcases List.mem_or_eq_of_mem_set hd with h | rfl
    · exact dat_fTo hs k d h
    · refine dat_failP hs ?_
      rcases getD_mem (ds := ds) (j := k) with h | h
      · exact hs _ h
      · rw [h]; rfl
theorem idem_failG {ds : List PV} {act iface : Int} {n : Nat} (hi : ds.map PV.dat = ds) : (failG act n ds iface).map PV.dat = failG act n ds iface := by
  have hs := flat_iff.1 hi
  rw [flat_iff]
  unfold failG
  rw [hi]
  split
  · exact hs
  · exact dat_fTo hs _
section
variable {act : Int} {n : Nat} {ds : List PV}
/-- a later failure keeps what an earlier one has cleared -/
theorem clear_keep (h : Good act n ds) (hl : ds.length = n) (hi : ds.map PV.dat = ds) (a b : Int) {j : Nat} (hj : (j : Int) < act) (hc : clear1 ds a (ds.getD j zeroP)) : clear1 (failG act n ds b) a ((failG act n ds b).getD j zeroP) := by
  have h1 := h.a1
  have hg := gErr_of_good h
  rw [failG_lt hg hi hj (by omega)]
  have hq := pErr_zero (good_at h hl (j := j) (by omega))
  generalize ds.getD j zeroP = p at *
  obtain ⟨hc1, hc2⟩ := hc
  by_cases hu : 0 ≤ p.backup ∧ (bk ds p).iface ≠ b
  · by_cases he : p.iface = b
    · rw [failP_move hu.1 hu.2 he]
      exact ⟨fun hh => hc2 hu.1 hh.1, fun hb => absurd hb (by show ¬ (0 : Int) ≤ -1; omega)⟩
    · rw [failP_keep hu.1 hu.2 he]
      refine ⟨hc1, fun hb => ?_⟩
      have h2 := hc2 hb
      unfold bk at h2 ⊢
      rw [failG_ge hg hi (by omega)]
      exact h2
  · by_cases he : p.iface = b
    · rw [failP_zero hu he]
      exact ⟨fun hh => absurd hh.2 (by show ¬ (0 : Int) < 0; omega), fun hb => absurd hb (by show ¬ (0 : Int) ≤ -1; omega)⟩
    · rw [failP_drop hu he]
      exact ⟨hc1, fun hb => absurd hb (by show ¬ (0 : Int) ≤ -1; omega)⟩
/-- a group behind the failures of the first k interfaces -/
structure DownInv (act : Int) (n : Nat) (bs : List Bool) (k : Nat) (D : List PV) : Prop where
  good : Good act n D
  len : D.length = n
  flat : D.map PV.dat = D
  clear : ∀ i, i < k → bs.getD i false = true → ∀ j : Nat, (j : Int) < act → clear1 D (i : Int) (D.getD j zeroP)
theorem down_inv (h : Good act n ds) (hl : ds.length = n) (hi : ds.map PV.dat = ds) (bs : List Bool) : ∀ k, DownInv act n bs k (downTo act n ds bs k)
  | 0 => ⟨h, hl, hi, fun i hi => absurd hi (by omega)⟩
  | k + 1 => by
    have ih := down_inv h hl hi bs k
    rw [downTo]
    by_cases hb : bs.getD k false = true
    · rw [if_pos hb]
      refine ⟨good_fail ih.good ih.len ih.flat _, by rw [failG_len]; exact ih.len, idem_failG ih.flat, fun i hik hbi j hj => ?_⟩
      rcases Nat.lt_or_ge i k with h1 | h1
      · exact clear_keep ih.good ih.len ih.flat _ _ hj (ih.clear i h1 hbi j hj)
      · obtain rfl : i = k := by omega
        exact fail_clear ih.good ih.len ih.flat _ hj
    · rw [if_neg hb]
      refine ⟨ih.good, ih.len, ih.flat, fun i hik hbi j hj => ?_⟩
      rcases Nat.lt_or_ge i k with h1 | h1
      · exact ih.clear i h1 hbi j hj
      · obtain rfl : i = k := by omega
        exact absurd hbi hb
end
/-- the groups of a table are good -/
def GoodGs (gs : List GE) : Prop := ∀ g ∈ gs, Good g.act g.n (g.ps.map PV.dat) ∧ g.ps.length = g.n
theorem look_mem_g {es : List Ent} {gs : List GE} {a : Nat} {g : GE} (hg : lookG es gs a = some g) : g ∈ gs := by
  unfold lookG at hg
  obtain ⟨x, _, h2⟩ := Option.bind_eq_some_iff.1 hg
  split at h2
  · cases h2
  · exact List.mem_of_getElem? h2
/-- the path of a packet without labels -/
theorem addr_path {es : List Ent} {gs : List GE} {ls : List Int} {p : PD} {ds : List Bool} (hg : GoodGs gs) (hz : (addrR es gs ls p ds).2.2 = 0) :
    ∃ (g : GE) (k : Nat), lookG es gs p.dst.toNat = some g ∧ g ∈ gs ∧ (k : Int) < g.act ∧ k < g.n ∧ (addrR es gs ls p ds).2.1 = (downTo g.act g.n (g.ps.map PV.dat) ds ds.length).getD k zeroP ∧ 0 < ((downTo g.act g.n (g.ps.map PV.dat) ds ds.length).getD k zeroP).weight := by
  unfold addrR addrOut at hz ⊢
  by_cases hH : (ls.any (isAt p.dst)) = true
  · rw [if_pos hH] at hz
    exact absurd hz (by decide)
  rw [if_neg hH] at hz ⊢
  cases ho : lookG es gs p.dst.toNat with
  | none =>
    rw [ho] at hz
    dsimp only at hz
    exact absurd hz (by decide)
  | some g =>
    rw [ho] at hz
    dsimp only at hz ⊢
    by_cases h1 : g.act < 1
    · rw [if_pos h1] at hz
      exact absurd hz (by decide)
    rw [if_neg h1] at hz ⊢
    by_cases h2 : p.ttl ≤ 1
    · rw [if_pos h2] at hz
      exact absurd hz (by decide)
    rw [if_neg h2] at hz ⊢
    have hgm := look_mem_g ho
    obtain ⟨hgood, hlen⟩ := hg g hgm
    have hinv := down_inv hgood (by rw [List.length_map]; exact hlen) (map_dat_dat g.ps) ds ds.length
    obtain ⟨D, hD⟩ : ∃ D, downTo g.act g.n (g.ps.map PV.dat) ds ds.length = D := ⟨_, rfl⟩
    rw [hD] at hz hinv ⊢
    by_cases h3' : pick g.act g.n D (h3 p.src p.dst p.flow) < 0 ∨ (g.n : Int) ≤ pick g.act g.n D (h3 p.src p.dst p.flow)
    · rw [if_pos h3'] at hz
      exact absurd hz (by decide)
    rw [if_neg h3'] at hz ⊢
    obtain ⟨i, e1, e2, e3, _, e4⟩ := pick_range hinv.good (h3 p.src p.dst p.flow) (by omega)
    refine ⟨g, i, rfl, hgm, e2, e3, ?_, ?_⟩
    · rw [hD, e1, Int.toNat_natCast]
    · rw [hD]
      exact e4
theorem addr_up {es : List Ent} {gs : List GE} {ls : List Int} {p : PD} {ds : List Bool} (hg : GoodGs gs) (hz : (addrR es gs ls p ds).2.2 = 0) : downB ds (addrR es gs ls p ds).2.1.iface = false := by
  obtain ⟨g, k, _, hgm, h1, h2, h3, h4⟩ := addr_path hg hz
  obtain ⟨hgood, hlen⟩ := hg g hgm
  have hinv := down_inv hgood (by rw [List.length_map]; exact hlen) (map_dat_dat g.ps) ds ds.length
  rw [h3]
  obtain ⟨D, hD⟩ : ∃ D, downTo g.act g.n (g.ps.map PV.dat) ds ds.length = D := ⟨_, rfl⟩
  rw [hD] at hinv h4 ⊢
  unfold downB
  split
  · rename_i h0
    cases hb : ds.getD (D.getD k zeroP).iface.toNat false with
    | false => rfl
    | true =>
      exfalso
      have hlt : (D.getD k zeroP).iface.toNat < ds.length := by
        rcases Nat.lt_or_ge (D.getD k zeroP).iface.toNat ds.length with h | h
        · exact h
        · rw [List.getD_eq_getElem?_getD, List.getElem?_eq_none h] at hb
          cases hb
      have hc := hinv.clear _ hlt hb k h1
      exact hc.1 ⟨by omega, h4⟩
  · rfl
theorem near_up {r : Int} {ds : List Bool} {ns : List NH} {h : NH} (hn : nearR r ds ns = some h) : downB ds h.iface = false := by
  unfold nearR at hn
  have h1 := List.find?_some hn
  unfold upTo at h1
  simp only [Bool.and_eq_true] at h1
  simpa using h1.2
theorem fwdF_up {es : List Ent} {gs : List GE} {ls : List Int} {bs : List EV} {ns : List NH} {ds : List Bool} (hg : GoodGs gs) : ∀ (f : Nat) (p : PD), mu p < f → (fwdF es gs ls bs ns ds f p).2.2 = 0 → downB ds (fwdF es gs ls bs ns ds f p).2.1.iface = false
  | 0, p, h, _ => absurd h (by omega)
  | f + 1, p, h, hz => by
    rw [fwdF] at hz ⊢
    by_cases h0 : p.ls.length = 0
    · rw [if_pos h0] at hz ⊢
      exact addr_up hg hz
    rw [if_neg h0] at hz ⊢
    by_cases h1 : (fwd bs p).2.2 = 23
    · rw [if_pos h1] at hz
      exact absurd hz (by decide)
    rw [if_neg h1] at hz ⊢
    by_cases h2 : (fwd bs p).2.2 ≠ 0
    · rw [if_pos h2] at hz
      exact absurd hz (by decide)
    rw [if_neg h2] at hz ⊢
    have hk := fwd_kept (es := bs) (p := p) (by omega)
    by_cases h3' : (fwd bs p).2.1 = 0
    · rw [if_pos h3'] at hz ⊢
      exact fwdF_up hg f _ (by have := hk.mu; omega) hz
    rw [if_neg h3'] at hz ⊢
    cases hn : nearR (fwd bs p).2.1 ds ns with
    | none =>
      rw [hn] at hz
      dsimp only at hz
      exact absurd hz (by decide)
    | some h =>
      dsimp only
      exact near_up hn
/-- no packet leaves by an interface that is down -/
theorem forward_up {es : List Ent} {gs : List GE} {ls : List Int} {bs : List EV} {ns : List NH} {ds : List Bool} {p : PD} (hg : GoodGs gs) (hz : (forwardR es gs ls bs ns ds p).2.2 = 0) : downB ds (forwardR es gs ls bs ns ds p).2.1.iface = false :=
  fwdF_up hg _ _ (by omega) hz
/-- a packet without labels leaves by an active path -/
theorem forward_active {es : List Ent} {gs : List GE} {ls : List Int} {bs : List EV} {ns : List NH} {p : PD} (hg : GoodGs gs) (hp : p.ls = []) (hz : (forwardR es gs ls bs ns [] p).2.2 = 0) :
    ∃ (g : GE) (k : Nat), lookG es gs p.dst.toNat = some g ∧ g ∈ gs ∧ (k : Int) < g.act ∧ k < g.n ∧ (forwardR es gs ls bs ns [] p).2.1 = (g.ps.map PV.dat).getD k zeroP := by
  have e : forwardR es gs ls bs ns [] p = addrR es gs ls p [] := by
    unfold forwardR
    rw [fwdF, if_pos (by rw [hp]; rfl)]
  rw [e] at hz ⊢
  obtain ⟨g, k, h1, h2, h3, h4, h5, _⟩ := addr_path hg hz
  exact ⟨g, k, h1, h2, h3, h4, h5⟩
/-- the groups of a valid table are good -/
theorem goodGs_of {es : List Ent} {gs : List GE} {ls : List Int} {bs : List EV} {ns : List NH} (hz : fibErr es gs ls bs ns = 0) (he : ∀ g ∈ gs, Even g.ps ∧ g.ps.length = g.n) : GoodGs gs := by
  have h1 : firstE (fun i => geErr (gAt gs i)) gs.length = 0 := by
    unfold fibErr orE at hz
    by_cases h : rowsErr gs.length es = 0
    · rw [if_pos h] at hz
      by_cases h2 : firstE (fun i => geErr (gAt gs i)) gs.length = 0
      · exact h2
      · rw [if_neg h2] at hz
        exact hz
    · rw [if_neg h] at hz
      exact absurd hz h
  intro g hg
  obtain ⟨i, hi, hgi⟩ := List.getElem_of_mem hg
  have h2 := firstE_nil h1 hi
  have h3 : gAt gs i = g := by
    unfold gAt
    rw [List.getElem?_eq_getElem hi, hgi]
    rfl
  rw [h3] at h2
  unfold geErr at h2
  obtain ⟨h4, h5⟩ := he g hg
  exact ⟨good_of (by rw [gErr_dat h4]; exact h2), h5⟩
end Go.Proofs.YtplppbgkkfjknaaGreatDoor
namespace Go.Proofs.YtplppbgkkfjknaaGreatDoor
open Go.ChangeShapes Go.WideShapes Go.ChangeAt Go.RowKit

set_option linter.unusedVariables false
set_option linter.unusedSimpArgs false
set_option maxRecDepth 100000
/-- a packet in memory -/
structure PkIn2 (W : World) (A : Option Addr) (n c : Nat) (p : PD) : Prop where
  ls : Ints W W.heap.size .i64 A n c p.ls
  n : n ≤ 140737488355328
  wide : ∀ x ∈ p.ls, W64 x
  src : W32 p.src
  dst : W32 p.dst
  flow : W32 p.flow
  ttl : W64 p.ttl
def PacketIn2 (W : World) (v : Value) : Prop := ∃ (A : Option Addr) (n c : Nat) (p : PD), v = .agg #[.int .u32 p.src, .int .u32 p.dst, .int .u32 p.flow, .int .i64 p.ttl, .slice A n c] ∧ PkIn2 W A n c p
theorem open_packet2 {H : Type} {enc : TypeId × Value → H} {W : World} {r : Reach} {b0 : Nat} {v : Value} (hv : Value.okWide Tryz.prog W r b0 54 v) (h : Arg enc Tryz.prog W 54 v.cells.toList) : PacketIn2 W v := by
  obtain ⟨cs, rfl, hsz⟩ := okWide_struct Tryz.underlying54 hv
  have h5 : cs.size = 5 := hsz.trans (by kernel_rfl)
  obtain ⟨l⟩ := cs
  match l, h5 with
  | [c0, c1, c2, c3, c4], _ =>
    have h' : Arg enc Tryz.prog W 54 [c0, c1, c2, c3, c4] := h
    have hf := h'.fields Tryz.underlying54 [(42, 0, 1), (42, 1, 1), (41, 2, 1), (3, 3, 1), (52, 4, 1)] (by kernel_rfl)
    have k3 : Tryz.prog.cellsOf 3 = 1 := by kernel_rfl
    have kb : Tryz.prog.bytesOf 3 = 8 := by kernel_rfl
    have g0 := hf 0 _ _ _ rfl
    have g1 := hf 1 _ _ _ rfl
    have g2 := hf 2 _ _ _ rfl
    have g3 := hf 3 _ _ _ rfl
    have g4 := hf 4 _ _ _ rfl
    simp only [List.drop_succ_cons, List.drop_zero, List.take_succ_cons, List.take_zero] at g0 g1 g2 g3 g4
    obtain ⟨a0, e0, w0⟩ := Arg.int Tryz.underlying42 g0
    obtain ⟨a1, e1, w1⟩ := Arg.int Tryz.underlying42 g1
    obtain ⟨a2, e2, w2⟩ := Arg.int Tryz.underlying41 g2
    obtain ⟨a3, e3, w3⟩ := Arg.int Tryz.underlying3 g3
    obtain ⟨A, n, c, xs, e4, hi, hb, hw⟩ := Arg.ints Tryz.underlying52 Tryz.underlying3 k3 g4
    simp only [List.cons.injEq, and_true] at e0 e1 e2 e3 e4
    subst e0 e1 e2 e3 e4
    rw [kb] at hb
    exact ⟨A, n, c, ⟨a0, a1, a2, a3, xs⟩, rfl, hi, by have := hi.1; omega, fun x hx => wf_i64 (hw x hx), wf_u32 w0, wf_u32 w1, wf_u32 w2, wf_i64 w3⟩
def FlagsIn (W : World) (v : Value) : Prop := ∃ (A : Option Addr) (n c : Nat) (ds : List Bool), v = .slice A n c ∧ Bls W W.heap.size A n c ds ∧ n ≤ 140737488355328
theorem open_flags {H : Type} {enc : TypeId × Value → H} {W : World} {r : Reach} {b0 : Nat} {v : Value} (hv : Value.okWide Tryz.prog W r b0 55 v) (h : Arg enc Tryz.prog W 55 v.cells.toList) : FlagsIn W v := by
  obtain ⟨a, l, c, rfl⟩ := okWide_slice Tryz.underlying55 hv
  have kp : Tryz.prog.cellsOf 4 = 1 := by kernel_rfl
  have kb : Tryz.prog.bytesOf 4 = 1 := by kernel_rfl
  obtain ⟨A, n, c', ds, e, hr, hb, _⟩ := Arg.recs (f := fun b : Bool => [Value.bool b]) (Q := fun _ => True) Tryz.underlying55 kp (by omega) (fun _ => rfl) (fun vs hvs => by
    obtain ⟨b, hb⟩ := Arg.bool Tryz.underlying4 hvs
    exact ⟨b, hb, trivial⟩) h
  have : Value.slice a l c = .slice A n c' := by simpa [Value.cells] using e
  rw [this]
  rw [kb] at hb
  exact ⟨A, n, c', ds, rfl, hr, by have := hr.1.1; omega⟩
end Go.Proofs.YtplppbgkkfjknaaGreatDoor
