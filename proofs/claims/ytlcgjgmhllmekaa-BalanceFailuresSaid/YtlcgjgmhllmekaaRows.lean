/-
  No cell of these rows narrows 'for every input' (looked for: loops, veiled, ifaces, maps, wideKeys, modest, calm, conditions, laid).
  DERIVED. THE GIVEN ROWS OF THIS SEAT. 6 by the template 'for every input the law returns true; each argument reads behind the call as it read before'; 0 by the template 'total and deterministic' (their statements: YtlcgjgmhllmekaaTotals.lean).
  GIVEN WITH THE SEED: the statements are not yours to turn. If you find one false, say at which input.
  Laid BY PROGRAM, IN A SANDBOX (cutbox-rows.mjs): the forced cells as the released guide's own fill.sh prints them over the translation e4b9deaee15e9f67… (all of the seat's roots in one cut). By AI agents, Wed Nov 11 2026. No macro, syntax, notation, axiom, sorry.
-/
import Derived.Test.YtlcgjgmhllmekaaChecked
import GoSem.Claim
import GoSem.ClaimJoined
import GoSem.ClaimMapViews
import Derived.JoinedTies
import Derived.KernelRfl
namespace Go.Proofs.Ytlcgjgmhllmekaa
/- THE CELL 'sum', in the pinned program and in every row, IS THE sha256 OF THE DUMP (.gsa) THAT YtlcgjgmhllmekaaProg.lean LOADS. Nothing in Lean hashes anything: it is a label: what it is worth is what the hold of that sum in a sandbox is worth. -/
noncomputable def Try.pinned : Pinned := { name := "ytlcgjgmhllmekaa", sum := "e4b9deaee15e9f67c19a066ac907a5ecaec5db75ed8b047b6e95205c7dc6ad3f", checked := Try.checked }
namespace Rows
def none {H : Type} : Left H := { results := [], args := [] }

/-- 'routinglaw51.BalanceGroups': WHATEVER THE INPUT: true; the input reads as it did. -/
def balanceGroupsSpec : ChangeSpec := { name := "balanceGroups", fn := fun _ => fun
  | [d1, d2, d3] => { results := [.lit (.bool true)], args := [d1, d2, d3] }
  | _ => none }
def balanceGroupsRow : OpenClaim := { program := "ytlcgjgmhllmekaa", sum := "e4b9deaee15e9f67c19a066ac907a5ecaec5db75ed8b047b6e95205c7dc6ad3f", func := "routing/routinglaw51.BalanceGroups", spec := "balanceGroups", apart := false }
def BalanceGroupsSaid : Prop := balanceGroupsRow.holds Try.pinned (OpenSpec.ofChange balanceGroupsSpec)

/-- ITS FALSE NEIGHBOUR: 'it returns false'. Refute it at one input. -/
def balanceGroupsWrong : ChangeSpec := { name := "balanceGroups", fn := fun _ => fun
  | [d1, d2, d3] => { results := [.lit (.bool false)], args := [d1, d2, d3] }
  | _ => none }
def BalanceGroupsWrongFalsely : Prop := balanceGroupsRow.holds Try.pinned (OpenSpec.ofChange balanceGroupsWrong)

/-- 'routinglaw51.BalanceMoves': WHATEVER THE INPUT: true; the input reads as it did. -/
def balanceMovesSpec : ChangeSpec := { name := "balanceMoves", fn := fun _ => fun
  | [d1, d2, d3, d4, d5] => { results := [.lit (.bool true)], args := [d1, d2, d3, d4, d5] }
  | _ => none }
def balanceMovesRow : OpenClaim := { program := "ytlcgjgmhllmekaa", sum := "e4b9deaee15e9f67c19a066ac907a5ecaec5db75ed8b047b6e95205c7dc6ad3f", func := "routing/routinglaw51.BalanceMoves", spec := "balanceMoves", apart := false }
def BalanceMovesSaid : Prop := balanceMovesRow.holds Try.pinned (OpenSpec.ofChange balanceMovesSpec)

/-- ITS FALSE NEIGHBOUR: 'it returns false'. Refute it at one input. -/
def balanceMovesWrong : ChangeSpec := { name := "balanceMoves", fn := fun _ => fun
  | [d1, d2, d3, d4, d5] => { results := [.lit (.bool false)], args := [d1, d2, d3, d4, d5] }
  | _ => none }
def BalanceMovesWrongFalsely : Prop := balanceMovesRow.holds Try.pinned (OpenSpec.ofChange balanceMovesWrong)

/-- 'routinglaw51.BalanceWeights': WHATEVER THE INPUT: true; the input reads as it did. -/
def balanceWeightsSpec : ChangeSpec := { name := "balanceWeights", fn := fun _ => fun
  | [d1, d2, d3, d4] => { results := [.lit (.bool true)], args := [d1, d2, d3, d4] }
  | _ => none }
def balanceWeightsRow : OpenClaim := { program := "ytlcgjgmhllmekaa", sum := "e4b9deaee15e9f67c19a066ac907a5ecaec5db75ed8b047b6e95205c7dc6ad3f", func := "routing/routinglaw51.BalanceWeights", spec := "balanceWeights", apart := false }
def BalanceWeightsSaid : Prop := balanceWeightsRow.holds Try.pinned (OpenSpec.ofChange balanceWeightsSpec)

/-- ITS FALSE NEIGHBOUR: 'it returns false'. Refute it at one input. -/
def balanceWeightsWrong : ChangeSpec := { name := "balanceWeights", fn := fun _ => fun
  | [d1, d2, d3, d4] => { results := [.lit (.bool false)], args := [d1, d2, d3, d4] }
  | _ => none }
def BalanceWeightsWrongFalsely : Prop := balanceWeightsRow.holds Try.pinned (OpenSpec.ofChange balanceWeightsWrong)

/-- 'routinglaw51.BalanceFailures': WHATEVER THE INPUT: true; the input reads as it did. -/
def balanceFailuresSpec : ChangeSpec := { name := "balanceFailures", fn := fun _ => fun
  | [d1, d2, d3, d4] => { results := [.lit (.bool true)], args := [d1, d2, d3, d4] }
  | _ => none }
def balanceFailuresRow : OpenClaim := { program := "ytlcgjgmhllmekaa", sum := "e4b9deaee15e9f67c19a066ac907a5ecaec5db75ed8b047b6e95205c7dc6ad3f", func := "routing/routinglaw51.BalanceFailures", spec := "balanceFailures", apart := false }
def BalanceFailuresSaid : Prop := balanceFailuresRow.holds Try.pinned (OpenSpec.ofChange balanceFailuresSpec)

/-- ITS FALSE NEIGHBOUR: 'it returns false'. Refute it at one input. -/
def balanceFailuresWrong : ChangeSpec := { name := "balanceFailures", fn := fun _ => fun
  | [d1, d2, d3, d4] => { results := [.lit (.bool false)], args := [d1, d2, d3, d4] }
  | _ => none }
def BalanceFailuresWrongFalsely : Prop := balanceFailuresRow.holds Try.pinned (OpenSpec.ofChange balanceFailuresWrong)

/-- 'routinglaw51.BalanceValid': WHATEVER THE INPUT: true; the input reads as it did. -/
def balanceValidSpec : ChangeSpec := { name := "balanceValid", fn := fun _ => fun
  | [d1, d2] => { results := [.lit (.bool true)], args := [d1, d2] }
  | _ => none }
def balanceValidRow : OpenClaim := { program := "ytlcgjgmhllmekaa", sum := "e4b9deaee15e9f67c19a066ac907a5ecaec5db75ed8b047b6e95205c7dc6ad3f", func := "routing/routinglaw51.BalanceValid", spec := "balanceValid", apart := false }
def BalanceValidSaid : Prop := balanceValidRow.holds Try.pinned (OpenSpec.ofChange balanceValidSpec)

/-- ITS FALSE NEIGHBOUR: 'it returns false'. Refute it at one input. -/
def balanceValidWrong : ChangeSpec := { name := "balanceValid", fn := fun _ => fun
  | [d1, d2] => { results := [.lit (.bool false)], args := [d1, d2] }
  | _ => none }
def BalanceValidWrongFalsely : Prop := balanceValidRow.holds Try.pinned (OpenSpec.ofChange balanceValidWrong)

/-- 'routinglaw51.BalanceScores': WHATEVER THE INPUT: true; the input reads as it did. -/
def balanceScoresSpec : ChangeSpec := { name := "balanceScores", fn := fun _ => fun
  | [d1, d2, d3, d4, d5] => { results := [.lit (.bool true)], args := [d1, d2, d3, d4, d5] }
  | _ => none }
def balanceScoresRow : OpenClaim := { program := "ytlcgjgmhllmekaa", sum := "e4b9deaee15e9f67c19a066ac907a5ecaec5db75ed8b047b6e95205c7dc6ad3f", func := "routing/routinglaw51.BalanceScores", spec := "balanceScores", apart := false }
def BalanceScoresSaid : Prop := balanceScoresRow.holds Try.pinned (OpenSpec.ofChange balanceScoresSpec)

/-- ITS FALSE NEIGHBOUR: 'it returns false'. Refute it at one input. -/
def balanceScoresWrong : ChangeSpec := { name := "balanceScores", fn := fun _ => fun
  | [d1, d2, d3, d4, d5] => { results := [.lit (.bool false)], args := [d1, d2, d3, d4, d5] }
  | _ => none }
def BalanceScoresWrongFalsely : Prop := balanceScoresRow.holds Try.pinned (OpenSpec.ofChange balanceScoresWrong)

/- THE SECOND FORM. 'bulk': how many values and letters a reading holds, each counted each time it is reached (what is shared counts as often as it is met; a slice's spare places count too). A statement '..UptoSaid' is the law's where the arguments, and the package variables that the reading takes, are together of bulk at most 1048576: NARROWER than '..Said'. Prove '..Said' where nothing that the law and all that it calls make is longer than what came in: it says more and counts as full. Else prove '..UptoSaid'. A law counts once. -/
mutual
def uptoBulk {H : Type} : DataW H → Nat
  | .lit (.string bytes) => bytes.length + 1
  | .lit _ => 1
  | .nil => 1
  | .ptr d => uptoBulk d + 1
  | .slice elems spare => uptoBulkAll elems + uptoBulkAll spare + 1
  | .agg parts => uptoBulkAll parts + 1
  | .iface _ d => uptoBulk d + 1
  | .map entries => uptoBulkEntries entries + 1
  | .held _ => 1
def uptoBulkAll {H : Type} : List (DataW H) → Nat
  | [] => 0
  | d :: r => uptoBulk d + uptoBulkAll r
def uptoBulkEntries {H : Type} : List (Lit × DataW H) → Nat
  | [] => 0
  | x :: r => uptoBulkEntry x + uptoBulkEntries r
def uptoBulkEntry {H : Type} : Lit × DataW H → Nat
  | (.string bytes, d) => bytes.length + uptoBulk d + 1
  | (_, d) => uptoBulk d + 1
 end
def uptoSmall : (H : Type) → List (DataW H) → Bool := fun _ ds => decide (uptoBulkAll ds ≤ 1048576)
def OpenSpec.upto (s : _root_.Go.ChangeSpec) : _root_.Go.OpenSpec := { _root_.Go.OpenSpec.ofChange s with cond := some uptoSmall }

/-- 'routinglaw51.BalanceGroups', WHERE WHAT IT READS IS OF BULK AT MOST 1048576: true; the input reads as it did. -/
def balanceGroupsUptoRow : OpenClaim := { program := "ytlcgjgmhllmekaa", sum := "e4b9deaee15e9f67c19a066ac907a5ecaec5db75ed8b047b6e95205c7dc6ad3f", func := "routing/routinglaw51.BalanceGroups", spec := "balanceGroups", apart := false, narrowed := true }
def BalanceGroupsUptoSaid : Prop := balanceGroupsUptoRow.holds Try.pinned (OpenSpec.upto balanceGroupsSpec)

/-- 'routinglaw51.BalanceMoves', WHERE WHAT IT READS IS OF BULK AT MOST 1048576: true; the input reads as it did. -/
def balanceMovesUptoRow : OpenClaim := { program := "ytlcgjgmhllmekaa", sum := "e4b9deaee15e9f67c19a066ac907a5ecaec5db75ed8b047b6e95205c7dc6ad3f", func := "routing/routinglaw51.BalanceMoves", spec := "balanceMoves", apart := false, narrowed := true }
def BalanceMovesUptoSaid : Prop := balanceMovesUptoRow.holds Try.pinned (OpenSpec.upto balanceMovesSpec)

/-- 'routinglaw51.BalanceWeights', WHERE WHAT IT READS IS OF BULK AT MOST 1048576: true; the input reads as it did. -/
def balanceWeightsUptoRow : OpenClaim := { program := "ytlcgjgmhllmekaa", sum := "e4b9deaee15e9f67c19a066ac907a5ecaec5db75ed8b047b6e95205c7dc6ad3f", func := "routing/routinglaw51.BalanceWeights", spec := "balanceWeights", apart := false, narrowed := true }
def BalanceWeightsUptoSaid : Prop := balanceWeightsUptoRow.holds Try.pinned (OpenSpec.upto balanceWeightsSpec)

/-- 'routinglaw51.BalanceFailures', WHERE WHAT IT READS IS OF BULK AT MOST 1048576: true; the input reads as it did. -/
def balanceFailuresUptoRow : OpenClaim := { program := "ytlcgjgmhllmekaa", sum := "e4b9deaee15e9f67c19a066ac907a5ecaec5db75ed8b047b6e95205c7dc6ad3f", func := "routing/routinglaw51.BalanceFailures", spec := "balanceFailures", apart := false, narrowed := true }
def BalanceFailuresUptoSaid : Prop := balanceFailuresUptoRow.holds Try.pinned (OpenSpec.upto balanceFailuresSpec)

/-- 'routinglaw51.BalanceValid', WHERE WHAT IT READS IS OF BULK AT MOST 1048576: true; the input reads as it did. -/
def balanceValidUptoRow : OpenClaim := { program := "ytlcgjgmhllmekaa", sum := "e4b9deaee15e9f67c19a066ac907a5ecaec5db75ed8b047b6e95205c7dc6ad3f", func := "routing/routinglaw51.BalanceValid", spec := "balanceValid", apart := false, narrowed := true }
def BalanceValidUptoSaid : Prop := balanceValidUptoRow.holds Try.pinned (OpenSpec.upto balanceValidSpec)

/-- 'routinglaw51.BalanceScores', WHERE WHAT IT READS IS OF BULK AT MOST 1048576: true; the input reads as it did. -/
def balanceScoresUptoRow : OpenClaim := { program := "ytlcgjgmhllmekaa", sum := "e4b9deaee15e9f67c19a066ac907a5ecaec5db75ed8b047b6e95205c7dc6ad3f", func := "routing/routinglaw51.BalanceScores", spec := "balanceScores", apart := false, narrowed := true }
def BalanceScoresUptoSaid : Prop := balanceScoresUptoRow.holds Try.pinned (OpenSpec.upto balanceScoresSpec)

end Rows
end Go.Proofs.Ytlcgjgmhllmekaa
