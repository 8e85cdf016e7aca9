/- The plain laws of chapter 51, second part: two failures in either order; a second failure of one interface. -/
import Derived.Test.YtlcgjgmhllmekaaBalMath
namespace Go.Proofs.Ytlcgjgmhllmekaa
open Go.RowKit

/-- a path after a failure, its backup given -/
def fp (bp : PV) (iface : Int) (p : PV) : PV :=
  if 0 ≤ p.backup ∧ bp.iface ≠ iface then
    if p.iface = iface then { bp with weight := p.weight, backup := -1 } else p
  else if p.iface = iface then { p with weight := 0, backup := -1 } else { p with backup := -1 }
theorem failP_fp (ds : List PV) (iface : Int) (p : PV) : failP ds iface p = fp (bk ds p) iface p := rfl
/-- two paths that are alike where they have a weight -/
def Alike2 (x y : PV) : Prop := x.weight = y.weight ∧ (0 < x.weight → x.iface = y.iface ∧ x.router = y.router ∧ x.addr = y.addr)
/-- a path after the failures of two interfaces -/
def both (bp : PV) (a b : Int) (p : PV) : PV :=
  if p.iface ≠ a ∧ p.iface ≠ b then p else if 0 ≤ p.backup ∧ bp.iface ≠ a ∧ bp.iface ≠ b then { bp with weight := p.weight } else { p with weight := 0 }
theorem both_comm (bp : PV) (a b : Int) (p : PV) : both bp a b p = both bp b a p := by
  unfold both
  by_cases h1 : p.iface = a <;> by_cases h2 : p.iface = b <;> by_cases h3 : 0 ≤ p.backup <;> by_cases h4 : bp.iface = a <;> by_cases h5 : bp.iface = b <;> simp_all [-Int.not_le]
theorem fp_both (bp : PV) (a b : Int) (p : PV) : Alike2 (fp bp b (fp bp a p)) (both bp a b p) := by
  unfold Alike2 fp both
  by_cases h1 : p.iface = a <;> by_cases h2 : p.iface = b <;> by_cases h3 : 0 ≤ p.backup <;> by_cases h4 : bp.iface = a <;> by_cases h5 : bp.iface = b <;> simp_all [-Int.not_le]
theorem alike_trans {x y z : PV} (h1 : Alike2 x y) (h2 : Alike2 z y) : Alike2 x z :=
  ⟨h1.1.trans h2.1.symm, fun h => by
    obtain ⟨a1, a2, a3⟩ := h1.2 h
    obtain ⟨b1, b2, b3⟩ := h2.2 (by rw [h2.1, ← h1.1]; exact h)
    exact ⟨a1.trans b1.symm, a2.trans b2.symm, a3.trans b3.symm⟩⟩
theorem fp_backup (bp : PV) (a : Int) (p : PV) : (fp bp a p).backup = p.backup ∨ (fp bp a p).backup = -1 := by
  unfold fp
  split
  · split
    · exact .inr rfl
    · exact .inl rfl
  · split
    · exact .inr rfl
    · exact .inr rfl
theorem fp_irr {bp bp' : PV} {b : Int} {q : PV} (h : q.backup = -1) : fp bp b q = fp bp' b q := by
  have h' : ∀ c : PV, ¬ (0 ≤ q.backup ∧ c.iface ≠ b) := fun c hh => by omega
  unfold fp
  rw [if_neg (h' bp), if_neg (h' bp')]
section
variable {act : Int} {n : Nat} {ds : List PV}
/-- an active path after two failures -/
theorem two_fails (h : Good act n ds) (hl : ds.length = n) (hi : ds.map PV.dat = ds) (a b : Int) {j : Nat} (hj : (j : Int) < act) (hi2 : (failG act n ds a).map PV.dat = failG act n ds a) :
    (failG act n (failG act n ds a) b).getD j zeroP = fp (bk ds (ds.getD j zeroP)) b (fp (bk ds (ds.getD j zeroP)) a (ds.getD j zeroP)) := by
  have ha := h.a1
  have h0 := h.a0
  have hg := gErr_of_good h
  rw [failG_lt (gErr_of_good (good_fail h hl hi a)) hi2 hj (by rw [failG_len]; omega), failG_lt hg hi hj (by omega), failP_fp, failP_fp]
  have hq := pErr_zero (good_at h hl (j := j) (by omega))
  generalize hp : ds.getD j zeroP = p at *
  rcases fp_backup (bk ds p) a p with hb | hb
  · by_cases hbn : p.backup = -1
    · exact fp_irr (by rw [hb, hbn])
    · have he : bk (failG act n ds a) (fp (bk ds p) a p) = bk ds p := by
        show (failG act n ds a).getD (fp (bk ds p) a p).backup.toNat zeroP = ds.getD p.backup.toNat zeroP
        rw [hb]
        exact failG_ge hg hi (by omega)
      rw [he]
  · exact fp_irr hb
theorem order_any (h : Good act n ds) (hl : ds.length = n) (hi : ds.map PV.dat = ds) (a b : Int) (ha : (failG act n ds a).map PV.dat = failG act n ds a) (hb : (failG act n ds b).map PV.dat = failG act n ds b) {j : Nat} (hj : (j : Int) < act) :
    Alike2 ((failG act n (failG act n ds a) b).getD j zeroP) ((failG act n (failG act n ds b) a).getD j zeroP) := by
  rw [two_fails h hl hi a b hj ha, two_fails h hl hi b a hj hb]
  exact alike_trans (fp_both _ a b _) (both_comm _ a b _ ▸ fp_both _ b a _)
theorem pick_alike {xs ys : List PV} (hx : Good act n xs) (hy : Good act n ys) (flow : Int) (h : ∀ j : Nat, (j : Int) < act → Alike2 (xs.getD j zeroP) (ys.getD j zeroP)) : pick act n xs flow = pick act n ys flow := by
  obtain ⟨r, h1, h2⟩ := pick_best hx flow
  have h0 := hx.a0
  rw [h1, pick_of hy (h2.congr fun j hj => ?_)]
  unfold gsc
  rw [(h j (by omega)).1]
/-- what two failures leave: the same path is picked in either order, on neither interface -/
theorem failures (h : Good act n ds) (hl : ds.length = n) (hi : ds.map PV.dat = ds) (a b flow : Int) (ha : (failG act n ds a).map PV.dat = failG act n ds a) (hb : (failG act n ds b).map PV.dat = failG act n ds b) :
    pick act n (failG act n (failG act n ds a) b) flow = pick act n (failG act n (failG act n ds b) a) flow ∧
      (0 ≤ pick act n (failG act n (failG act n ds a) b) flow → ∃ i : Nat, pick act n (failG act n (failG act n ds a) b) flow = i ∧ i < n ∧
        ((failG act n (failG act n ds a) b).getD i zeroP).iface = ((failG act n (failG act n ds b) a).getD i zeroP).iface ∧
        ((failG act n (failG act n ds a) b).getD i zeroP).router = ((failG act n (failG act n ds b) a).getD i zeroP).router ∧
        ((failG act n (failG act n ds a) b).getD i zeroP).addr = ((failG act n (failG act n ds b) a).getD i zeroP).addr ∧
        ((failG act n (failG act n ds a) b).getD i zeroP).iface ≠ a ∧ ((failG act n (failG act n ds a) b).getD i zeroP).iface ≠ b) := by
  have gA := good_fail h hl hi a
  have gB := good_fail h hl hi b
  have lA : (failG act n ds a).length = n := by rw [failG_len]; exact hl
  have lB : (failG act n ds b).length = n := by rw [failG_len]; exact hl
  have gX := good_fail gA lA ha b
  have gY := good_fail gB lB hb a
  have hp := pick_alike gX gY flow fun j hj => order_any h hl hi a b ha hb hj
  refine ⟨hp, fun h0 => ?_⟩
  obtain ⟨i, h1, h2, h3, _, h5⟩ := pick_range gX flow h0
  obtain ⟨e1, e2, e3⟩ := (order_any h hl hi a b ha hb h2).2 h5
  obtain ⟨k, h6, _, h7⟩ := clean (iface := b) gA lA ha (flow := flow) h0
  obtain rfl : k = i := by omega
  obtain ⟨k', h8, _, h9⟩ := clean (iface := a) gB lB hb (flow := flow) (by omega)
  obtain rfl : k' = k := by omega
  exact ⟨k', h1, h3, e1, e2, e3, by rw [e1]; exact h9, h7⟩
/-- a second failure of the same interface -/
theorem fp_idem (bp : PV) (a : Int) (p : PV) (h : 0 ≤ p.backup ∨ p.backup = -1) : fp bp a (fp bp a p) = fp bp a p := by
  unfold fp
  by_cases h1 : p.iface = a <;> by_cases h3 : 0 ≤ p.backup <;> by_cases h4 : bp.iface = a <;> simp_all [-Int.not_le]
theorem fail_twice (h : Good act n ds) (hl : ds.length = n) (hi : ds.map PV.dat = ds) (a : Int) (ha : (failG act n ds a).map PV.dat = failG act n ds a) : failG act n (failG act n ds a) a = failG act n ds a := by
  have h1 := h.a1
  have h0 := h.a0
  have gA := good_fail h hl hi a
  refine List.ext_getElem? fun j => ?_
  by_cases hj : j < n
  · rw [get_of (l := failG act n (failG act n ds a) a) (by rw [failG_len, failG_len]; omega), get_of (l := failG act n ds a) (by rw [failG_len]; omega)]
    congr 1
    by_cases hja : (j : Int) < act
    · rw [two_fails h hl hi a a hja ha, failG_lt (gErr_of_good h) hi hja (by omega), failP_fp, fp_idem]
      have := (pErr_zero (good_at h hl hj)).2.2.2
      omega
    · rw [failG_ge (gErr_of_good gA) ha (by omega)]
  · rw [List.getElem?_eq_none (by rw [failG_len, failG_len]; omega), List.getElem?_eq_none (by rw [failG_len]; omega)]
/-- no active path uses the interface that failed -/
def clear1 (ds : List PV) (iface : Int) (p : PV) : Prop := ¬ (p.iface = iface ∧ 0 < p.weight) ∧ (0 ≤ p.backup → (bk ds p).iface ≠ iface)
theorem fail_clear (h : Good act n ds) (hl : ds.length = n) (hi : ds.map PV.dat = ds) (a : Int) {j : Nat} (hj : (j : Int) < act) : clear1 (failG act n ds a) a ((failG act n ds a).getD j zeroP) := by
  have h1 := h.a1
  have hg := gErr_of_good h
  rw [failG_lt hg hi hj (by omega)]
  refine ⟨fun hh => failP_clean hh.2 hh.1, fun hb => ?_⟩
  have hq := pErr_zero (good_at h hl (j := j) (by omega))
  generalize ds.getD j zeroP = p at *
  by_cases hu : 0 ≤ p.backup ∧ (bk ds p).iface ≠ a
  · by_cases he : p.iface = a
    · rw [failP_move hu.1 hu.2 he] at hb
      exact absurd hb (by show ¬ (0 : Int) ≤ -1; omega)
    · rw [failP_keep hu.1 hu.2 he]
      unfold bk
      rw [failG_ge hg hi (by omega)]
      exact hu.2
  · by_cases he : p.iface = a
    · rw [failP_zero hu he] at hb
      exact absurd hb (by show ¬ (0 : Int) ≤ -1; omega)
    · rw [failP_drop hu he] at hb
      exact absurd hb (by show ¬ (0 : Int) ≤ -1; omega)
/-- the path to which a flow moves -/
theorem moved (h : Good act n ds) (hl : ds.length = n) (hi : ds.map PV.dat = ds) {iface : Int} {i : Nat} (hia : (i : Int) < act) :
    ((ds.getD i zeroP).iface ≠ iface → ((failG act n ds iface).getD i zeroP).iface = (ds.getD i zeroP).iface) ∧
    ((ds.getD i zeroP).iface = iface → 0 ≤ (ds.getD i zeroP).backup → (bk ds (ds.getD i zeroP)).iface ≠ iface → ((failG act n ds iface).getD i zeroP).iface = (bk ds (ds.getD i zeroP)).iface ∧ ((failG act n ds iface).getD i zeroP).router = (bk ds (ds.getD i zeroP)).router) := by
  have h1 := h.a1
  rw [failG_lt (gErr_of_good h) hi hia (by omega)]
  generalize ds.getD i zeroP = p
  refine ⟨fun he => ?_, fun he hb hv => by rw [failP_move hb hv he]; exact ⟨rfl, rfl⟩⟩
  by_cases hu : 0 ≤ p.backup ∧ (bk ds p).iface ≠ iface
  · rw [failP_keep hu.1 hu.2 he]
  · rw [failP_drop hu he]
end
end Go.Proofs.Ytlcgjgmhllmekaa
