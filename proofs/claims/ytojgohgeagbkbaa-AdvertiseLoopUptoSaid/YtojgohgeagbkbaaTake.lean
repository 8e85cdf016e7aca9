/- Regions that draw their order: taking an operation first, the temporary named, the operation not. -/
import Derived.Deep.RegionHeld3
namespace Go.Proofs.Ytojgohgeagbkbaa
variable {P : Program} {md : Region.Mode} {ops : Array Oper} {Q : Exit → Act → World → Prop} {S : World → Prop}
/-- an operation that is not wanted -/
theorem take_un {i : Nat} {fuel : Nat} {listed : Array Bool} {a : Act} {w : World} (d : Option Tmp) (hd : (ops[i]?).map (·.dst) = some d)
    (hs : Region.noSelect ops = true) (hf : Region.free md ops listed i = true) (hr : (Region.ready md ops listed).contains i = true)
    (hQ : ∀ c a w, Q (.panic c) (a.put d undef) w → Q (.panic c) a w) (hw : (ops[i]?).map (fun o => Region.wanted o (yielded ops a.tmps)) = some false) (hS : S w)
    (h : wpAnyH P md ops Q S fuel (listed.setIfInBounds i true) (a.put d undef) w) : wpAnyH P md ops Q S (fuel + 1) listed a w := by
  obtain ⟨o, ho⟩ : ∃ o, ops[i]? = some o := by
    cases hc : ops[i]? with
    | none => rw [hc] at hd; exact absurd hd (by simp)
    | some o => exact ⟨o, rfl⟩
  rw [ho] at hd hw
  obtain rfl : o.dst = d := Option.some.inj hd
  exact wpAnyH_take ho hs hf hr hQ (Or.inr ⟨Option.some.inj hw, rfl⟩) hS h
/-- an operation that is wanted -/
theorem take_in {i : Nat} {fuel : Nat} {listed : Array Bool} {a : Act} {w : World} (v : Value) (d : Option Tmp) (hd : (ops[i]?).map (·.dst) = some d)
    (hs : Region.noSelect ops = true) (hf : Region.free md ops listed i = true) (hr : (Region.ready md ops listed).contains i = true)
    (hQ : ∀ c a w, Q (.panic c) (a.put d v) w → Q (.panic c) a w) (hw : (ops[i]?).map (fun o => Region.wanted o (yielded ops a.tmps)) = some true)
    (hv : ∀ o, ops[i]? = some o → ∀ w, S w → (execOp a.eval o).run P w = .ok (.value v) w) (hS : S w)
    (h : wpAnyH P md ops Q S fuel (listed.setIfInBounds i true) (a.put d v) w) : wpAnyH P md ops Q S (fuel + 1) listed a w := by
  obtain ⟨o, ho⟩ : ∃ o, ops[i]? = some o := by
    cases hc : ops[i]? with
    | none => rw [hc] at hd; exact absurd hd (by simp)
    | some o => exact ⟨o, rfl⟩
  rw [ho] at hd hw
  obtain rfl : o.dst = d := Option.some.inj hd
  exact wpAnyH_take ho hs hf hr hQ (Or.inl ⟨Option.some.inj hw, hv o ho⟩) hS h
end Go.Proofs.Ytojgohgeagbkbaa
