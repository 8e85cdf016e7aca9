/-
  No cell of these rows narrows 'for every input' (looked for: loops, veiled, ifaces, maps, wideKeys, modest, calm, conditions, laid).
  DERIVED. THE GIVEN ROWS OF THIS SEAT. 6 by the template 'for every input the law returns true; each argument reads behind the call as it read before'; 0 by the template 'total and deterministic' (their statements: YtkgfcekcjehkdaaTotals.lean).
  GIVEN WITH THE SEED: the statements are not yours to turn. If you find one false, say at which input.
  Laid BY PROGRAM, IN A SANDBOX (cutbox-rows.mjs): the forced cells as the released guide's own fill.sh prints them over the translation 58143f61a6de9c4b… (all of the seat's roots in one cut). By AI agents, Wed Nov 11 2026. No macro, syntax, notation, axiom, sorry.
-/
import Derived.Test.YtkgfcekcjehkdaaChecked
import GoSem.Claim
import GoSem.ClaimJoined
import GoSem.ClaimMapViews
import Derived.JoinedTies
import Derived.KernelRfl
namespace Go.Proofs.Ytkgfcekcjehkdaa
/- THE CELL 'sum', in the pinned program and in every row, IS THE sha256 OF THE DUMP (.gsa) THAT YtkgfcekcjehkdaaProg.lean LOADS. Nothing in Lean hashes anything: it is a label: what it is worth is what the hold of that sum in a sandbox is worth. -/
noncomputable def Try.pinned : Pinned := { name := "ytkgfcekcjehkdaa", sum := "58143f61a6de9c4bef5a16fe52c552ca18294623404135f72dd8378aee61df6b", checked := Try.checked }
namespace Rows
def none {H : Type} : Left H := { results := [], args := [] }

/-- 'routinglaw46.LfibChecks': WHATEVER THE INPUT: true; the input reads as it did. -/
def lfibChecksSpec : ChangeSpec := { name := "lfibChecks", fn := fun _ => fun
  | [d1, d2, d3] => { results := [.lit (.bool true)], args := [d1, d2, d3] }
  | _ => none }
def lfibChecksRow : OpenClaim := { program := "ytkgfcekcjehkdaa", sum := "58143f61a6de9c4bef5a16fe52c552ca18294623404135f72dd8378aee61df6b", func := "routing/routinglaw46.LfibChecks", spec := "lfibChecks", unfollowed := true, recurses := true, apart := false }
def LfibChecksSaid : Prop := lfibChecksRow.holds Try.pinned (OpenSpec.ofChange lfibChecksSpec)

/-- ITS FALSE NEIGHBOUR: 'it returns false'. Refute it at one input. -/
def lfibChecksWrong : ChangeSpec := { name := "lfibChecks", fn := fun _ => fun
  | [d1, d2, d3] => { results := [.lit (.bool false)], args := [d1, d2, d3] }
  | _ => none }
def LfibChecksWrongFalsely : Prop := lfibChecksRow.holds Try.pinned (OpenSpec.ofChange lfibChecksWrong)

/-- 'routinglaw46.LfibForwards': WHATEVER THE INPUT: true; the input reads as it did. -/
def lfibForwardsSpec : ChangeSpec := { name := "lfibForwards", fn := fun _ => fun
  | [d1, d2] => { results := [.lit (.bool true)], args := [d1, d2] }
  | _ => none }
def lfibForwardsRow : OpenClaim := { program := "ytkgfcekcjehkdaa", sum := "58143f61a6de9c4bef5a16fe52c552ca18294623404135f72dd8378aee61df6b", func := "routing/routinglaw46.LfibForwards", spec := "lfibForwards", unfollowed := true, recurses := true, apart := false }
def LfibForwardsSaid : Prop := lfibForwardsRow.holds Try.pinned (OpenSpec.ofChange lfibForwardsSpec)

/-- ITS FALSE NEIGHBOUR: 'it returns false'. Refute it at one input. -/
def lfibForwardsWrong : ChangeSpec := { name := "lfibForwards", fn := fun _ => fun
  | [d1, d2] => { results := [.lit (.bool false)], args := [d1, d2] }
  | _ => none }
def LfibForwardsWrongFalsely : Prop := lfibForwardsRow.holds Try.pinned (OpenSpec.ofChange lfibForwardsWrong)

/-- 'routinglaw46.LfibStack': WHATEVER THE INPUT: true; the input reads as it did. -/
def lfibStackSpec : ChangeSpec := { name := "lfibStack", fn := fun _ => fun
  | [d1, d2, d3] => { results := [.lit (.bool true)], args := [d1, d2, d3] }
  | _ => none }
def lfibStackRow : OpenClaim := { program := "ytkgfcekcjehkdaa", sum := "58143f61a6de9c4bef5a16fe52c552ca18294623404135f72dd8378aee61df6b", func := "routing/routinglaw46.LfibStack", spec := "lfibStack", unfollowed := true, recurses := true, apart := false }
def LfibStackSaid : Prop := lfibStackRow.holds Try.pinned (OpenSpec.ofChange lfibStackSpec)

/-- ITS FALSE NEIGHBOUR: 'it returns false'. Refute it at one input. -/
def lfibStackWrong : ChangeSpec := { name := "lfibStack", fn := fun _ => fun
  | [d1, d2, d3] => { results := [.lit (.bool false)], args := [d1, d2, d3] }
  | _ => none }
def LfibStackWrongFalsely : Prop := lfibStackRow.holds Try.pinned (OpenSpec.ofChange lfibStackWrong)

/-- 'routinglaw46.LfibFlows': WHATEVER THE INPUT: true; the input reads as it did. -/
def lfibFlowsSpec : ChangeSpec := { name := "lfibFlows", fn := fun _ => fun
  | [d1, d2] => { results := [.lit (.bool true)], args := [d1, d2] }
  | _ => none }
def lfibFlowsRow : OpenClaim := { program := "ytkgfcekcjehkdaa", sum := "58143f61a6de9c4bef5a16fe52c552ca18294623404135f72dd8378aee61df6b", func := "routing/routinglaw46.LfibFlows", spec := "lfibFlows", unfollowed := true, recurses := true, apart := false }
def LfibFlowsSaid : Prop := lfibFlowsRow.holds Try.pinned (OpenSpec.ofChange lfibFlowsSpec)

/-- ITS FALSE NEIGHBOUR: 'it returns false'. Refute it at one input. -/
def lfibFlowsWrong : ChangeSpec := { name := "lfibFlows", fn := fun _ => fun
  | [d1, d2] => { results := [.lit (.bool false)], args := [d1, d2] }
  | _ => none }
def LfibFlowsWrongFalsely : Prop := lfibFlowsRow.holds Try.pinned (OpenSpec.ofChange lfibFlowsWrong)

/-- 'routinglaw46.LfibFollows': WHATEVER THE INPUT: true; the input reads as it did. -/
def lfibFollowsSpec : ChangeSpec := { name := "lfibFollows", fn := fun _ => fun
  | [d1, d2, d3, d4] => { results := [.lit (.bool true)], args := [d1, d2, d3, d4] }
  | _ => none }
def lfibFollowsRow : OpenClaim := { program := "ytkgfcekcjehkdaa", sum := "58143f61a6de9c4bef5a16fe52c552ca18294623404135f72dd8378aee61df6b", func := "routing/routinglaw46.LfibFollows", spec := "lfibFollows", unfollowed := true, recurses := true, apart := false }
def LfibFollowsSaid : Prop := lfibFollowsRow.holds Try.pinned (OpenSpec.ofChange lfibFollowsSpec)

/-- ITS FALSE NEIGHBOUR: 'it returns false'. Refute it at one input. -/
def lfibFollowsWrong : ChangeSpec := { name := "lfibFollows", fn := fun _ => fun
  | [d1, d2, d3, d4] => { results := [.lit (.bool false)], args := [d1, d2, d3, d4] }
  | _ => none }
def LfibFollowsWrongFalsely : Prop := lfibFollowsRow.holds Try.pinned (OpenSpec.ofChange lfibFollowsWrong)

/-- 'routinglaw46.LfibLives': WHATEVER THE INPUT: true; the input reads as it did. -/
def lfibLivesSpec : ChangeSpec := { name := "lfibLives", fn := fun _ => fun
  | [d1, d2, d3, d4] => { results := [.lit (.bool true)], args := [d1, d2, d3, d4] }
  | _ => none }
def lfibLivesRow : OpenClaim := { program := "ytkgfcekcjehkdaa", sum := "58143f61a6de9c4bef5a16fe52c552ca18294623404135f72dd8378aee61df6b", func := "routing/routinglaw46.LfibLives", spec := "lfibLives", unfollowed := true, recurses := true, apart := false }
def LfibLivesSaid : Prop := lfibLivesRow.holds Try.pinned (OpenSpec.ofChange lfibLivesSpec)

/-- ITS FALSE NEIGHBOUR: 'it returns false'. Refute it at one input. -/
def lfibLivesWrong : ChangeSpec := { name := "lfibLives", fn := fun _ => fun
  | [d1, d2, d3, d4] => { results := [.lit (.bool false)], args := [d1, d2, d3, d4] }
  | _ => none }
def LfibLivesWrongFalsely : Prop := lfibLivesRow.holds Try.pinned (OpenSpec.ofChange lfibLivesWrong)

/- THE SECOND FORM. 'bulk': how many values and letters a reading holds, each counted each time it is reached (what is shared counts as often as it is met; a slice's spare places count too). A statement '..UptoSaid' is the law's where the arguments, and the package variables that the reading takes, are together of bulk at most 1048576: NARROWER than '..Said'. Prove '..Said' where nothing that the law and all that it calls make is longer than what came in: it says more and counts as full. Else prove '..UptoSaid'. A law counts once. -/
mutual
def uptoBulk {H : Type} : DataW H → Nat
  | .lit (.string bytes) => bytes.length + 1
  | .lit _ => 1
  | .nil => 1
  | .ptr d => uptoBulk d + 1
  | .slice elems spare => uptoBulkAll elems + uptoBulkAll spare + 1
  | .agg parts => uptoBulkAll parts + 1
  | .iface _ d => uptoBulk d + 1
  | .map entries => uptoBulkEntries entries + 1
  | .held _ => 1
def uptoBulkAll {H : Type} : List (DataW H) → Nat
  | [] => 0
  | d :: r => uptoBulk d + uptoBulkAll r
def uptoBulkEntries {H : Type} : List (Lit × DataW H) → Nat
  | [] => 0
  | x :: r => uptoBulkEntry x + uptoBulkEntries r
def uptoBulkEntry {H : Type} : Lit × DataW H → Nat
  | (.string bytes, d) => bytes.length + uptoBulk d + 1
  | (_, d) => uptoBulk d + 1
 end
def uptoSmall : (H : Type) → List (DataW H) → Bool := fun _ ds => decide (uptoBulkAll ds ≤ 1048576)
def OpenSpec.upto (s : _root_.Go.ChangeSpec) : _root_.Go.OpenSpec := { _root_.Go.OpenSpec.ofChange s with cond := some uptoSmall }

/-- 'routinglaw46.LfibChecks', WHERE WHAT IT READS IS OF BULK AT MOST 1048576: true; the input reads as it did. -/
def lfibChecksUptoRow : OpenClaim := { program := "ytkgfcekcjehkdaa", sum := "58143f61a6de9c4bef5a16fe52c552ca18294623404135f72dd8378aee61df6b", func := "routing/routinglaw46.LfibChecks", spec := "lfibChecks", unfollowed := true, recurses := true, apart := false, narrowed := true }
def LfibChecksUptoSaid : Prop := lfibChecksUptoRow.holds Try.pinned (OpenSpec.upto lfibChecksSpec)

/-- 'routinglaw46.LfibForwards', WHERE WHAT IT READS IS OF BULK AT MOST 1048576: true; the input reads as it did. -/
def lfibForwardsUptoRow : OpenClaim := { program := "ytkgfcekcjehkdaa", sum := "58143f61a6de9c4bef5a16fe52c552ca18294623404135f72dd8378aee61df6b", func := "routing/routinglaw46.LfibForwards", spec := "lfibForwards", unfollowed := true, recurses := true, apart := false, narrowed := true }
def LfibForwardsUptoSaid : Prop := lfibForwardsUptoRow.holds Try.pinned (OpenSpec.upto lfibForwardsSpec)

/-- 'routinglaw46.LfibStack', WHERE WHAT IT READS IS OF BULK AT MOST 1048576: true; the input reads as it did. -/
def lfibStackUptoRow : OpenClaim := { program := "ytkgfcekcjehkdaa", sum := "58143f61a6de9c4bef5a16fe52c552ca18294623404135f72dd8378aee61df6b", func := "routing/routinglaw46.LfibStack", spec := "lfibStack", unfollowed := true, recurses := true, apart := false, narrowed := true }
def LfibStackUptoSaid : Prop := lfibStackUptoRow.holds Try.pinned (OpenSpec.upto lfibStackSpec)

/-- 'routinglaw46.LfibFlows', WHERE WHAT IT READS IS OF BULK AT MOST 1048576: true; the input reads as it did. -/
def lfibFlowsUptoRow : OpenClaim := { program := "ytkgfcekcjehkdaa", sum := "58143f61a6de9c4bef5a16fe52c552ca18294623404135f72dd8378aee61df6b", func := "routing/routinglaw46.LfibFlows", spec := "lfibFlows", unfollowed := true, recurses := true, apart := false, narrowed := true }
def LfibFlowsUptoSaid : Prop := lfibFlowsUptoRow.holds Try.pinned (OpenSpec.upto lfibFlowsSpec)

/-- 'routinglaw46.LfibFollows', WHERE WHAT IT READS IS OF BULK AT MOST 1048576: true; the input reads as it did. -/
def lfibFollowsUptoRow : OpenClaim := { program := "ytkgfcekcjehkdaa", sum := "58143f61a6de9c4bef5a16fe52c552ca18294623404135f72dd8378aee61df6b", func := "routing/routinglaw46.LfibFollows", spec := "lfibFollows", unfollowed := true, recurses := true, apart := false, narrowed := true }
def LfibFollowsUptoSaid : Prop := lfibFollowsUptoRow.holds Try.pinned (OpenSpec.upto lfibFollowsSpec)

/-- 'routinglaw46.LfibLives', WHERE WHAT IT READS IS OF BULK AT MOST 1048576: true; the input reads as it did. -/
def lfibLivesUptoRow : OpenClaim := { program := "ytkgfcekcjehkdaa", sum := "58143f61a6de9c4bef5a16fe52c552ca18294623404135f72dd8378aee61df6b", func := "routing/routinglaw46.LfibLives", spec := "lfibLives", unfollowed := true, recurses := true, apart := false, narrowed := true }
def LfibLivesUptoSaid : Prop := lfibLivesUptoRow.holds Try.pinned (OpenSpec.upto lfibLivesSpec)

end Rows
end Go.Proofs.Ytkgfcekcjehkdaa
