/- The plain laws of chapter 51: the best of a list of scores; what a failure does to a group, and to what it picks. No program is in sight. -/
import Derived.Test.YtlcgjgmhllmekaaDat
namespace Go.Proofs.Ytlcgjgmhllmekaa
open Go.RowKit

/-- r is the best of the first n scores, as an index plus 1, or 0 -/
def Best (s : Nat → Int) (n r : Nat) : Prop := (r = 0 ∧ ∀ j, j < n → s j ≤ 0) ∨ ∃ i, r = i + 1 ∧ i < n ∧ 0 < s i ∧ (∀ j, j < i → s j < s i) ∧ ∀ j, j < n → s j ≤ s i
section
variable {s s' : Nat → Int} {n r r' : Nat}
theorem Best.uniq (h : Best s n r) (h' : Best s n r') : r = r' := by
  rcases h with ⟨rfl, h⟩ | ⟨i, rfl, hi, hp, hl, hm⟩ <;> rcases h' with ⟨rfl, h'⟩ | ⟨k, rfl, hk, hp', hl', hm'⟩
  · rfl
  · have := h k hk; omega
  · have := h' i hi; omega
  · rcases Nat.lt_trichotomy i k with hik | hik | hik
    · have := hl' i hik; have := hm k hk; omega
    · rw [hik]
    · have := hl k hik; have := hm' i hi; omega
theorem Best.congr (h : Best s n r) (he : ∀ j, j < n → s' j = s j) : Best s' n r := by
  rcases h with ⟨rfl, h⟩ | ⟨i, rfl, hi, hp, hl, hm⟩
  · exact .inl ⟨rfl, fun j hj => by rw [he j hj]; exact h j hj⟩
  · exact .inr ⟨i, rfl, hi, by rw [he i hi]; exact hp, fun j hj => by rw [he j (by omega), he i hi]; exact hl j hj, fun j hj => by rw [he j hj, he i hi]; exact hm j hj⟩
theorem Best.none (h : Best s n 0) (he : ∀ j, j < n → s' j ≤ s j) : Best s' n 0 := by
  rcases h with ⟨_, h⟩ | ⟨i, h, _⟩
  · exact .inl ⟨rfl, fun j hj => by have := h j hj; have := he j hj; omega⟩
  · omega
theorem Best.keep {i : Nat} (h : Best s n (i + 1)) (he : ∀ j, j < n → j ≠ i → s' j ≤ s j) (hi : s i ≤ s' i) : Best s' n (i + 1) := by
  rcases h with ⟨h, _⟩ | ⟨k, hk, hkn, hp, hl, hm⟩
  · omega
  · obtain rfl : k = i := by omega
    refine .inr ⟨k, rfl, hkn, by omega, fun j hj => ?_, fun j hj => ?_⟩
    · have := hl j hj; have := he j (by omega) (by omega); omega
    · by_cases hjk : j = k
      · subst hjk; omega
      · have := hm j hj; have := he j hj hjk; omega
theorem Best.pos {i : Nat} (h : Best s n (i + 1)) : 0 < s i ∧ i < n := by
  rcases h with ⟨h, _⟩ | ⟨k, hk, hkn, hp, hl, hm⟩
  · omega
  · obtain rfl : k = i := by omega
    exact ⟨hp, hkn⟩
theorem Best.scale {c : Int} (hc : 0 < c) (h : Best s n r) : Best (fun j => s j * c) n r := by
  rcases h with ⟨rfl, h⟩ | ⟨i, rfl, hi, hp, hl, hm⟩
  · exact .inl ⟨rfl, fun j hj => by
      have := Int.mul_le_mul_of_nonneg_right (h j hj) (Int.le_of_lt hc)
      simpa using this⟩
  · exact .inr ⟨i, rfl, hi, Int.mul_pos hp hc, fun j hj => Int.mul_lt_mul_of_pos_right (hl j hj) hc, fun j hj => Int.mul_le_mul_of_nonneg_right (hm j hj) (Int.le_of_lt hc)⟩
end
theorem scAt_nonneg (ws : List Int) (flow : Int) (i : Nat) : 0 ≤ scAt ws flow i := (sc_bd _ _ _).1
theorem ch_best (ws : List Int) (flow : Int) : ∀ n, Best (scAt ws flow) n (ch ws flow n)
  | 0 => .inl ⟨rfl, fun j hj => absurd hj (by omega)⟩
  | n + 1 => by
    have ih := ch_best ws flow n
    have hn := scAt_nonneg ws flow n
    by_cases hm : most ws flow n < scAt ws flow n
    · rw [(ch_yes hm).1]
      rcases ih with ⟨h0, h⟩ | ⟨i, h0, hi, hp, hl, hmx⟩
      · rw [most, if_pos h0] at hm
        refine .inr ⟨n, rfl, by omega, hm, fun j hj => ?_, fun j hj => ?_⟩
        · have := h j hj; omega
        · rcases Nat.lt_or_ge j n with hj' | hj'
          · have := h j hj'; omega
          · obtain rfl : j = n := by omega
            exact Int.le_refl _
      · rw [most, if_neg (by omega), h0, Nat.add_sub_cancel] at hm
        refine .inr ⟨n, rfl, by omega, by omega, fun j hj => ?_, fun j hj => ?_⟩
        · have := hmx j hj; omega
        · rcases Nat.lt_or_ge j n with hj' | hj'
          · have := hmx j hj'; omega
          · obtain rfl : j = n := by omega
            exact Int.le_refl _
    · rw [(ch_no hm).1]
      rcases ih with ⟨h0, h⟩ | ⟨i, h0, hi, hp, hl, hmx⟩
      · rw [most, if_pos h0] at hm
        refine .inl ⟨h0, fun j hj => ?_⟩
        rcases Nat.lt_or_ge j n with hj' | hj'
        · exact h j hj'
        · obtain rfl : j = n := by omega
          omega
      · rw [most, if_neg (by omega), h0, Nat.add_sub_cancel] at hm
        refine .inr ⟨i, h0, by omega, hp, hl, fun j hj => ?_⟩
        rcases Nat.lt_or_ge j n with hj' | hj'
        · exact hmx j hj'
        · obtain rfl : j = n := by omega
          omega
theorem ch_of {ws : List Int} {flow : Int} {n r : Nat} (h : Best (scAt ws flow) n r) : ch ws flow n = r := (ch_best ws flow n).uniq h

/-- a member's weight is set to 0 -/
theorem set0 (ws : List Int) (flow : Int) (n m : Nat) (hl : ws.length = n) (hm : m < n) : (ch ws flow n ≠ m + 1 → ch (ws.set m 0) flow n = ch ws flow n) ∧ ch (ws.set m 0) flow n ≠ m + 1 := by
  have hs : ∀ j, scAt (ws.set m 0) flow j = if j = m then 0 else scAt ws flow j := by
    intro j
    unfold scAt
    rw [List.getD_eq_getElem?_getD, List.getElem?_set]
    by_cases hj : j = m
    · subst hj
      rw [if_pos rfl, if_pos rfl, if_pos (by omega)]
      exact sc_zero (by simp)
    · rw [if_neg (fun h => hj h.symm), if_neg hj, ← List.getD_eq_getElem?_getD]
  constructor
  · intro hne
    have hb := ch_best ws flow n
    generalize ch ws flow n = r at *
    refine ch_of ?_
    cases r with
    | zero => exact hb.none fun j hj => by rw [hs]; split; exact scAt_nonneg _ _ _; exact Int.le_refl _
    | succ i => exact hb.keep (fun j hj _ => by rw [hs]; split; exact scAt_nonneg _ _ _; exact Int.le_refl _) (by rw [hs, if_neg (by omega)]; exact Int.le_refl _)
  · intro he
    have hb := ch_best (ws.set m 0) flow n
    rw [he] at hb
    have := hb.pos.1
    rw [hs, if_pos rfl] at this
    omega
theorem sc_mono {flow i v v' : Int} (h : v ≤ v') : sc flow i v ≤ sc flow i v' := by
  have := (h2_bd (i % 4294967296) flow).1
  unfold sc
  exact Int.mul_le_mul_of_nonneg_left (by omega) (by omega)
theorem pos_of_sc {flow i v : Int} (h : 0 < sc flow i v) : 0 < v := by
  rcases Int.lt_or_le 0 v with h' | h'
  · exact h'
  · rw [sc_zero h'] at h; omega
/-- a member's weight grows -/
theorem grow (ws : List Int) (flow : Int) (n i : Nat) (hl : ws.length = n) (more : Int) (hm : 0 ≤ more) (h : ch ws flow n = i + 1) : ch (ws.set i (ws.getD i 0 + more)) flow n = i + 1 := by
  have hb := ch_best ws flow n
  rw [h] at hb
  have hi := hb.pos.2
  refine ch_of (hb.keep (fun j hj hne => ?_) ?_)
  · unfold scAt
    rw [List.getD_eq_getElem?_getD, List.getElem?_set_ne (by omega), ← List.getD_eq_getElem?_getD]
    exact Int.le_refl _
  · show sc flow i (ws.getD i 0) ≤ sc flow i ((ws.set i (ws.getD i 0 + more)).getD i 0)
    rw [List.getD_eq_getElem?_getD (l := ws.set i _), List.getElem?_set_self (by omega)]
    exact sc_mono (by simp; omega)
/-- equal weights -/
theorem equals (flow : Int) (n : Nat) (size : Int) (h0 : 0 ≤ size) (h1 : size ≤ 255) : ch (List.replicate n (1 + size)) flow n = ch (List.replicate n 1) flow n := by
  have hb := (ch_best (List.replicate n 1) flow n).scale (c := 1 + size) (by omega)
  refine ch_of (hb.congr fun j hj => ?_)
  unfold scAt
  rw [List.getD_eq_getElem?_getD, List.getD_eq_getElem?_getD, List.getElem?_replicate, List.getElem?_replicate, if_pos hj, if_pos hj]
  simp only [Option.getD_some]
  unfold sc
  rw [show min (max (1 + size) 0) 65535 = 1 + size by omega, show min (max (1 : Int) 0) 65535 = 1 by decide, Int.mul_one]

/-- the fields of the group after a failure -/
theorem failG_len (act : Int) (n : Nat) (ds : List PV) (iface : Int) : (failG act n ds iface).length = ds.length := by
  unfold failG
  split
  · simp
  · rw [fTo_len]; simp
section
variable {act : Int} {n : Nat} {ds : List PV} {iface : Int}
theorem failG_lt (hg : gErr act n ds = 0) (hi : ds.map PV.dat = ds) {j : Nat} (hj : (j : Int) < act) (hl : j < ds.length) : (failG act n ds iface).getD j zeroP = failP ds iface (ds.getD j zeroP) := by
  rw [failG, if_neg (by simp [hg]), hi, List.getD_eq_getElem?_getD, fTo_lt ds iface (by omega) hl]
  rfl
theorem failG_ge (hg : gErr act n ds = 0) (hi : ds.map PV.dat = ds) {j : Nat} (hj : act ≤ (j : Int)) : (failG act n ds iface).getD j zeroP = ds.getD j zeroP := by
  rw [failG, if_neg (by simp [hg]), hi, List.getD_eq_getElem?_getD, fTo_ge ds iface (by omega), List.getD_eq_getElem?_getD]
theorem get_of {l : List PV} {j : Nat} (hj : j < l.length) : l[j]? = some (l.getD j zeroP) := by
  rw [List.getD_eq_getElem?_getD, List.getElem?_eq_getElem hj]
  rfl
/-- a good group's path -/
theorem good_at (h : Good act n ds) (hl : ds.length = n) {j : Nat} (hj : j < n) : pErr act n j (ds.getD j zeroP) = 0 := h.each j _ hj (get_of (by omega))
theorem pErr_zero_of {j : Nat} {p : PV} (h0 : 0 ≤ p.iface ∧ p.iface < 16 ∧ 0 ≤ p.weight ∧ p.weight ≤ 65535) (h1 : p.ln ≤ 16) (h2 : p.ls.all labOK = true) (h3 : p.backup = -1 ∨ ((j : Int) < act ∧ act ≤ p.backup ∧ p.backup < n)) : pErr act n j p = 0 :=
  pErr_ok (by omega) (by omega) h2 (by omega)
theorem good_fail (h : Good act n ds) (hl : ds.length = n) (hi : ds.map PV.dat = ds) (iface : Int) : Good act n (failG act n ds iface) := by
  have hg := gErr_of_good h
  have ha := h.a0
  have ha1 := h.a1
  refine ⟨h.n64, h.a0, h.a1, fun j p hj hp => ?_⟩
  have hfl := failG_len act n ds iface
  have hpe : p = (failG act n ds iface).getD j zeroP := by rw [List.getD_eq_getElem?_getD, hp]; rfl
  rw [hpe]
  have hq := pErr_zero (good_at h hl hj)
  by_cases hja : (j : Int) < act
  · rw [failG_lt hg hi hja (by omega)]
    generalize ds.getD j zeroP = q at hq
    obtain ⟨q1, q2, q3, q4⟩ := hq
    by_cases hb : 0 ≤ q.backup ∧ (bk ds q).iface ≠ iface
    · by_cases he : q.iface = iface
      · rw [failP_move hb.1 hb.2 he]
        have hbn : q.backup.toNat < n := by omega
        have hz := pErr_zero (good_at h hl hbn)
        exact pErr_zero_of ⟨hz.1.1, hz.1.2.1, q1.2.2.1, q1.2.2.2⟩ hz.2.1 hz.2.2.1 (.inl rfl)
      · rw [failP_keep hb.1 hb.2 he]
        exact pErr_zero_of q1 q2 q3 q4
    · by_cases he : q.iface = iface
      · rw [failP_zero hb he]
        exact pErr_zero_of ⟨q1.1, q1.2.1, by show (0 : Int) ≤ 0; omega, by show (0 : Int) ≤ 65535; omega⟩ q2 q3 (.inl rfl)
      · rw [failP_drop hb he]
        exact pErr_zero_of q1 q2 q3 (.inl rfl)
  · rw [failG_ge hg hi (by omega)]
    exact pErr_zero_of hq.1 hq.2.1 hq.2.2.1 hq.2.2.2
/-- a group's score -/
theorem wts_getD (ds : List PV) (a j : Nat) (hj : j < a) : (wts (ds.take a)).getD j 0 = (ds.getD j zeroP).weight := by
  rw [wts, List.getD_eq_getElem?_getD, List.getElem?_map, List.getElem?_take, if_pos hj, List.getD_eq_getElem?_getD]
  cases ds[j]? <;> rfl
theorem pick_good (h : Good act n ds) (flow : Int) : pick act n ds flow = (ch (wts (ds.take act.toNat)) flow act.toNat : Int) - 1 := by
  rw [pick, if_neg (by simp [gErr_of_good h])]
/-- the score of an active path of a group -/
def gsc (ds : List PV) (flow : Int) (j : Nat) : Int := sc flow j (ds.getD j zeroP).weight
theorem pick_best (h : Good act n ds) (flow : Int) : ∃ r : Nat, pick act n ds flow = (r : Int) - 1 ∧ Best (gsc ds flow) act.toNat r := by
  refine ⟨_, pick_good h flow, (ch_best _ _ _).congr fun j hj => ?_⟩
  unfold scAt gsc
  rw [wts_getD _ _ _ hj]
theorem pick_of (h : Good act n ds) {flow : Int} {r : Nat} (hb : Best (gsc ds flow) act.toNat r) : pick act n ds flow = (r : Int) - 1 := by
  obtain ⟨r', h1, h2⟩ := pick_best h flow
  rw [h1, h2.uniq hb]
/-- the weight of a path after a failure -/
theorem failP_weight (ds : List PV) (iface : Int) (p : PV) : (failP ds iface p).weight = if p.iface = iface ∧ ¬ (0 ≤ p.backup ∧ (bk ds p).iface ≠ iface) then 0 else p.weight := by
  by_cases hb : 0 ≤ p.backup ∧ (bk ds p).iface ≠ iface
  · rw [if_neg (fun h => h.2 hb)]
    by_cases he : p.iface = iface
    · rw [failP_move hb.1 hb.2 he]
    · rw [failP_keep hb.1 hb.2 he]
  · by_cases he : p.iface = iface
    · rw [if_pos ⟨he, hb⟩, failP_zero hb he]
    · rw [if_neg (fun h => he h.1), failP_drop hb he]
theorem failP_clean {p : PV} (h : 0 < (failP ds iface p).weight) : (failP ds iface p).iface ≠ iface := by
  by_cases hb : 0 ≤ p.backup ∧ (bk ds p).iface ≠ iface
  · by_cases he : p.iface = iface
    · rw [failP_move hb.1 hb.2 he]; exact hb.2
    · rw [failP_keep hb.1 hb.2 he]; exact he
  · by_cases he : p.iface = iface
    · rw [failP_zero hb he] at h
      exact absurd h (by show ¬ (0 : Int) < 0; omega)
    · rw [failP_drop hb he]; exact he
theorem gsc_le (ds ds' : List PV) (flow : Int) (j : Nat) (h : (ds'.getD j zeroP).weight = (ds.getD j zeroP).weight ∨ (ds'.getD j zeroP).weight = 0) : gsc ds' flow j ≤ gsc ds flow j := by
  unfold gsc
  rcases h with h | h
  · rw [h]; exact Int.le_refl _
  · rw [h, sc_zero (Int.le_refl 0)]; exact (sc_bd _ _ _).1
/-- no active path with a weight -/
theorem moves_none (h : Good act n ds) (hl : ds.length = n) (hi : ds.map PV.dat = ds) (flow : Int) (hp : pick act n ds flow < 0) : pick act n (failG act n ds iface) flow < 0 := by
  obtain ⟨r, h1, h2⟩ := pick_best h flow
  obtain rfl : r = 0 := by omega
  have ha := h.a1
  have h0 := h.a0
  rw [pick_of (good_fail h hl hi iface) (h2.none fun j hj => gsc_le _ _ _ _ ?_)]
  · omega
  · rw [failG_lt (gErr_of_good h) hi (by omega) (by omega), failP_weight]
    by_cases hh : (ds.getD j zeroP).iface = iface ∧ ¬ (0 ≤ (ds.getD j zeroP).backup ∧ (bk ds (ds.getD j zeroP)).iface ≠ iface)
    · exact .inr (by rw [if_pos hh])
    · exact .inl (by rw [if_neg hh])
/-- where the picked path lies -/
theorem pick_range (h : Good act n ds) (flow : Int) (hp : 0 ≤ pick act n ds flow) : ∃ i : Nat, pick act n ds flow = i ∧ (i : Int) < act ∧ i < n ∧ Best (gsc ds flow) act.toNat (i + 1) ∧ 0 < (ds.getD i zeroP).weight := by
  obtain ⟨r, h1, h2⟩ := pick_best h flow
  have ha := h.a1
  cases r with
  | zero => omega
  | succ i =>
    have hq := h2.pos
    exact ⟨i, by omega, by omega, by omega, h2, pos_of_sc hq.1⟩
theorem moves_keep (h : Good act n ds) (hl : ds.length = n) (hi : ds.map PV.dat = ds) {flow : Int} {i : Nat} (hb : Best (gsc ds flow) act.toNat (i + 1)) (hia : (i : Int) < act)
    (hk : ¬ ((ds.getD i zeroP).iface = iface ∧ ¬ (0 ≤ (ds.getD i zeroP).backup ∧ (bk ds (ds.getD i zeroP)).iface ≠ iface))) : pick act n (failG act n ds iface) flow = i := by
  have ha := h.a1
  have h0 := h.a0
  have hw : ∀ j : Nat, (j : Int) < act → ((failG act n ds iface).getD j zeroP).weight = if (ds.getD j zeroP).iface = iface ∧ ¬ (0 ≤ (ds.getD j zeroP).backup ∧ (bk ds (ds.getD j zeroP)).iface ≠ iface) then 0 else (ds.getD j zeroP).weight := by
    intro j hj
    rw [failG_lt (gErr_of_good h) hi hj (by omega), failP_weight]
  have k1 : ∀ j, j < act.toNat → j ≠ i → gsc (failG act n ds iface) flow j ≤ gsc ds flow j := by
    intro j hj _
    refine gsc_le _ _ _ _ ?_
    rw [hw j (by omega)]
    by_cases hh : (ds.getD j zeroP).iface = iface ∧ ¬ (0 ≤ (ds.getD j zeroP).backup ∧ (bk ds (ds.getD j zeroP)).iface ≠ iface)
    · exact .inr (by rw [if_pos hh])
    · exact .inl (by rw [if_neg hh])
  have k2 : gsc ds flow i ≤ gsc (failG act n ds iface) flow i := by
    unfold gsc
    rw [hw i hia, if_neg hk]
    exact Int.le_refl _
  rw [pick_of (good_fail h hl hi iface) (hb.keep k1 k2)]
  omega
theorem moves_away (h : Good act n ds) (hl : ds.length = n) (hi : ds.map PV.dat = ds) {flow : Int} {i : Nat} (hia : (i : Int) < act)
    (hk : (ds.getD i zeroP).iface = iface ∧ ¬ (0 ≤ (ds.getD i zeroP).backup ∧ (bk ds (ds.getD i zeroP)).iface ≠ iface)) : pick act n (failG act n ds iface) flow ≠ i := by
  intro he
  have ha := h.a1
  obtain ⟨k, h1, h2, h3, h4, h5⟩ := pick_range (good_fail h hl hi iface) flow (by omega)
  obtain rfl : k = i := by omega
  rw [failG_lt (gErr_of_good h) hi hia (by omega), failP_weight, if_pos hk] at h5
  omega
/-- a picked path does not use the interface that failed -/
theorem clean (h : Good act n ds) (hl : ds.length = n) (hi : ds.map PV.dat = ds) {flow : Int} (hp : 0 ≤ pick act n (failG act n ds iface) flow) :
    ∃ k : Nat, pick act n (failG act n ds iface) flow = k ∧ k < n ∧ ((failG act n ds iface).getD k zeroP).iface ≠ iface := by
  obtain ⟨k, h1, h2, h3, h4, h5⟩ := pick_range (good_fail h hl hi iface) flow hp
  rw [failG_lt (gErr_of_good h) hi h2 (by omega)] at h5
  exact ⟨k, h1, h3, by rw [failG_lt (gErr_of_good h) hi h2 (by omega)]; exact failP_clean h5⟩
end
end Go.Proofs.Ytlcgjgmhllmekaa
