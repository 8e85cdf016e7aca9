/-
  No cell of these rows narrows 'for every input' (looked for: loops, veiled, ifaces, maps, wideKeys, modest, calm, conditions, laid).
  DERIVED. THE GIVEN ROWS OF THIS SEAT. 7 by the template 'for every input the law returns true; each argument reads behind the call as it read before'; 0 by the template 'total and deterministic' (their statements: YteomipmhehpbhaaTotals.lean).
  GIVEN WITH THE SEED: the statements are not yours to turn. If you find one false, say at which input.
  Laid BY PROGRAM, IN A SANDBOX (cutbox-rows.mjs): the forced cells as the released guide's own fill.sh prints them over the translation 2f0010dc67b1d8fa… (all of the seat's roots in one cut). By AI agents, Wed Nov 11 2026. No macro, syntax, notation, axiom, sorry.
-/
import Derived.Test.YteomipmhehpbhaaChecked
import GoSem.Claim
import GoSem.ClaimJoined
import GoSem.ClaimMapViews
import Derived.JoinedTies
import Derived.KernelRfl
namespace Go.Proofs.Yteomipmhehpbhaa
/- THE CELL 'sum', in the pinned program and in every row, IS THE sha256 OF THE DUMP (.gsa) THAT YteomipmhehpbhaaProg.lean LOADS. Nothing in Lean hashes anything: it is a label: what it is worth is what the hold of that sum in a sandbox is worth. -/
noncomputable def Try.pinned : Pinned := { name := "yteomipmhehpbhaa", sum := "2f0010dc67b1d8fa8ba99dc5d85db3a9e8093009d6c3d110fc101a09abf1eb64", checked := Try.checked }
namespace Rows
def none {H : Type} : Left H := { results := [], args := [] }

/-- 'routinglaw04.ChecksumInternet': WHATEVER THE INPUT: true; the input reads as it did. -/
def checksumInternetSpec : ChangeSpec := { name := "checksumInternet", fn := fun _ => fun
  | [d] => { results := [.lit (.bool true)], args := [d] }
  | _ => none }
def checksumInternetRow : OpenClaim := { program := "yteomipmhehpbhaa", sum := "2f0010dc67b1d8fa8ba99dc5d85db3a9e8093009d6c3d110fc101a09abf1eb64", func := "routing/routinglaw04.ChecksumInternet", spec := "checksumInternet", apart := false }
def ChecksumInternetSaid : Prop := checksumInternetRow.holds Try.pinned (OpenSpec.ofChange checksumInternetSpec)

/-- ITS FALSE NEIGHBOUR: 'it returns false'. Refute it at one input. -/
def checksumInternetWrong : ChangeSpec := { name := "checksumInternet", fn := fun _ => fun
  | [d] => { results := [.lit (.bool false)], args := [d] }
  | _ => none }
def ChecksumInternetWrongFalsely : Prop := checksumInternetRow.holds Try.pinned (OpenSpec.ofChange checksumInternetWrong)

/-- 'routinglaw04.ChecksumFletcher': WHATEVER THE INPUT: true; the input reads as it did. -/
def checksumFletcherSpec : ChangeSpec := { name := "checksumFletcher", fn := fun _ => fun
  | [d1, d2] => { results := [.lit (.bool true)], args := [d1, d2] }
  | _ => none }
def checksumFletcherRow : OpenClaim := { program := "yteomipmhehpbhaa", sum := "2f0010dc67b1d8fa8ba99dc5d85db3a9e8093009d6c3d110fc101a09abf1eb64", func := "routing/routinglaw04.ChecksumFletcher", spec := "checksumFletcher", apart := false }
def ChecksumFletcherSaid : Prop := checksumFletcherRow.holds Try.pinned (OpenSpec.ofChange checksumFletcherSpec)

/-- ITS FALSE NEIGHBOUR: 'it returns false'. Refute it at one input. -/
def checksumFletcherWrong : ChangeSpec := { name := "checksumFletcher", fn := fun _ => fun
  | [d1, d2] => { results := [.lit (.bool false)], args := [d1, d2] }
  | _ => none }
def ChecksumFletcherWrongFalsely : Prop := checksumFletcherRow.holds Try.pinned (OpenSpec.ofChange checksumFletcherWrong)

/-- 'routinglaw04.ChecksumValid': WHATEVER THE INPUT: true; the input reads as it did. -/
def checksumValidSpec : ChangeSpec := { name := "checksumValid", fn := fun _ => fun
  | [d] => { results := [.lit (.bool true)], args := [d] }
  | _ => none }
def checksumValidRow : OpenClaim := { program := "yteomipmhehpbhaa", sum := "2f0010dc67b1d8fa8ba99dc5d85db3a9e8093009d6c3d110fc101a09abf1eb64", func := "routing/routinglaw04.ChecksumValid", spec := "checksumValid", apart := false }
def ChecksumValidSaid : Prop := checksumValidRow.holds Try.pinned (OpenSpec.ofChange checksumValidSpec)

/-- ITS FALSE NEIGHBOUR: 'it returns false'. Refute it at one input. -/
def checksumValidWrong : ChangeSpec := { name := "checksumValid", fn := fun _ => fun
  | [d] => { results := [.lit (.bool false)], args := [d] }
  | _ => none }
def ChecksumValidWrongFalsely : Prop := checksumValidRow.holds Try.pinned (OpenSpec.ofChange checksumValidWrong)

/-- 'routinglaw04.ChecksumHash': WHATEVER THE INPUT: true; the input reads as it did. -/
def checksumHashSpec : ChangeSpec := { name := "checksumHash", fn := fun _ => fun
  | [d] => { results := [.lit (.bool true)], args := [d] }
  | _ => none }
def checksumHashRow : OpenClaim := { program := "yteomipmhehpbhaa", sum := "2f0010dc67b1d8fa8ba99dc5d85db3a9e8093009d6c3d110fc101a09abf1eb64", func := "routing/routinglaw04.ChecksumHash", spec := "checksumHash", apart := false }
def ChecksumHashSaid : Prop := checksumHashRow.holds Try.pinned (OpenSpec.ofChange checksumHashSpec)

/-- ITS FALSE NEIGHBOUR: 'it returns false'. Refute it at one input. -/
def checksumHashWrong : ChangeSpec := { name := "checksumHash", fn := fun _ => fun
  | [d] => { results := [.lit (.bool false)], args := [d] }
  | _ => none }
def ChecksumHashWrongFalsely : Prop := checksumHashRow.holds Try.pinned (OpenSpec.ofChange checksumHashWrong)

/-- 'routinglaw04.ChecksumStored': WHATEVER THE INPUT: true; the input reads as it did. -/
def checksumStoredSpec : ChangeSpec := { name := "checksumStored", fn := fun _ => fun
  | [d1, d2] => { results := [.lit (.bool true)], args := [d1, d2] }
  | _ => none }
def checksumStoredRow : OpenClaim := { program := "yteomipmhehpbhaa", sum := "2f0010dc67b1d8fa8ba99dc5d85db3a9e8093009d6c3d110fc101a09abf1eb64", func := "routing/routinglaw04.ChecksumStored", spec := "checksumStored", apart := false }
def ChecksumStoredSaid : Prop := checksumStoredRow.holds Try.pinned (OpenSpec.ofChange checksumStoredSpec)

/-- ITS FALSE NEIGHBOUR: 'it returns false'. Refute it at one input. -/
def checksumStoredWrong : ChangeSpec := { name := "checksumStored", fn := fun _ => fun
  | [d1, d2] => { results := [.lit (.bool false)], args := [d1, d2] }
  | _ => none }
def ChecksumStoredWrongFalsely : Prop := checksumStoredRow.holds Try.pinned (OpenSpec.ofChange checksumStoredWrong)

/-- 'routinglaw04.ChecksumDetects': WHATEVER THE INPUT: true; the input reads as it did. -/
def checksumDetectsSpec : ChangeSpec := { name := "checksumDetects", fn := fun _ => fun
  | [d1, d2, d3, d4] => { results := [.lit (.bool true)], args := [d1, d2, d3, d4] }
  | _ => none }
def checksumDetectsRow : OpenClaim := { program := "yteomipmhehpbhaa", sum := "2f0010dc67b1d8fa8ba99dc5d85db3a9e8093009d6c3d110fc101a09abf1eb64", func := "routing/routinglaw04.ChecksumDetects", spec := "checksumDetects", apart := false }
def ChecksumDetectsSaid : Prop := checksumDetectsRow.holds Try.pinned (OpenSpec.ofChange checksumDetectsSpec)

/-- ITS FALSE NEIGHBOUR: 'it returns false'. Refute it at one input. -/
def checksumDetectsWrong : ChangeSpec := { name := "checksumDetects", fn := fun _ => fun
  | [d1, d2, d3, d4] => { results := [.lit (.bool false)], args := [d1, d2, d3, d4] }
  | _ => none }
def ChecksumDetectsWrongFalsely : Prop := checksumDetectsRow.holds Try.pinned (OpenSpec.ofChange checksumDetectsWrong)

/-- 'routinglaw04.ChecksumOrder': WHATEVER THE INPUT: true; the input reads as it did. -/
def checksumOrderSpec : ChangeSpec := { name := "checksumOrder", fn := fun _ => fun
  | [d1, d2, d3] => { results := [.lit (.bool true)], args := [d1, d2, d3] }
  | _ => none }
def checksumOrderRow : OpenClaim := { program := "yteomipmhehpbhaa", sum := "2f0010dc67b1d8fa8ba99dc5d85db3a9e8093009d6c3d110fc101a09abf1eb64", func := "routing/routinglaw04.ChecksumOrder", spec := "checksumOrder", apart := false }
def ChecksumOrderSaid : Prop := checksumOrderRow.holds Try.pinned (OpenSpec.ofChange checksumOrderSpec)

/-- ITS FALSE NEIGHBOUR: 'it returns false'. Refute it at one input. -/
def checksumOrderWrong : ChangeSpec := { name := "checksumOrder", fn := fun _ => fun
  | [d1, d2, d3] => { results := [.lit (.bool false)], args := [d1, d2, d3] }
  | _ => none }
def ChecksumOrderWrongFalsely : Prop := checksumOrderRow.holds Try.pinned (OpenSpec.ofChange checksumOrderWrong)

/- THE SECOND FORM. 'bulk': how many values and letters a reading holds, each counted each time it is reached (what is shared counts as often as it is met; a slice's spare places count too). A statement '..UptoSaid' is the law's where the arguments, and the package variables that the reading takes, are together of bulk at most 1048576: NARROWER than '..Said'. Prove '..Said' where nothing that the law and all that it calls make is longer than what came in: it says more and counts as full. Else prove '..UptoSaid'. A law counts once. -/
mutual
def uptoBulk {H : Type} : DataW H → Nat
  | .lit (.string bytes) => bytes.length + 1
  | .lit _ => 1
  | .nil => 1
  | .ptr d => uptoBulk d + 1
  | .slice elems spare => uptoBulkAll elems + uptoBulkAll spare + 1
  | .agg parts => uptoBulkAll parts + 1
  | .iface _ d => uptoBulk d + 1
  | .map entries => uptoBulkEntries entries + 1
  | .held _ => 1
def uptoBulkAll {H : Type} : List (DataW H) → Nat
  | [] => 0
  | d :: r => uptoBulk d + uptoBulkAll r
def uptoBulkEntries {H : Type} : List (Lit × DataW H) → Nat
  | [] => 0
  | x :: r => uptoBulkEntry x + uptoBulkEntries r
def uptoBulkEntry {H : Type} : Lit × DataW H → Nat
  | (.string bytes, d) => bytes.length + uptoBulk d + 1
  | (_, d) => uptoBulk d + 1
 end
def uptoSmall : (H : Type) → List (DataW H) → Bool := fun _ ds => decide (uptoBulkAll ds ≤ 1048576)
def OpenSpec.upto (s : _root_.Go.ChangeSpec) : _root_.Go.OpenSpec := { _root_.Go.OpenSpec.ofChange s with cond := some uptoSmall }

/-- 'routinglaw04.ChecksumInternet', WHERE WHAT IT READS IS OF BULK AT MOST 1048576: true; the input reads as it did. -/
def checksumInternetUptoRow : OpenClaim := { program := "yteomipmhehpbhaa", sum := "2f0010dc67b1d8fa8ba99dc5d85db3a9e8093009d6c3d110fc101a09abf1eb64", func := "routing/routinglaw04.ChecksumInternet", spec := "checksumInternet", apart := false, narrowed := true }
def ChecksumInternetUptoSaid : Prop := checksumInternetUptoRow.holds Try.pinned (OpenSpec.upto checksumInternetSpec)

/-- 'routinglaw04.ChecksumFletcher', WHERE WHAT IT READS IS OF BULK AT MOST 1048576: true; the input reads as it did. -/
def checksumFletcherUptoRow : OpenClaim := { program := "yteomipmhehpbhaa", sum := "2f0010dc67b1d8fa8ba99dc5d85db3a9e8093009d6c3d110fc101a09abf1eb64", func := "routing/routinglaw04.ChecksumFletcher", spec := "checksumFletcher", apart := false, narrowed := true }
def ChecksumFletcherUptoSaid : Prop := checksumFletcherUptoRow.holds Try.pinned (OpenSpec.upto checksumFletcherSpec)

/-- 'routinglaw04.ChecksumValid', WHERE WHAT IT READS IS OF BULK AT MOST 1048576: true; the input reads as it did. -/
def checksumValidUptoRow : OpenClaim := { program := "yteomipmhehpbhaa", sum := "2f0010dc67b1d8fa8ba99dc5d85db3a9e8093009d6c3d110fc101a09abf1eb64", func := "routing/routinglaw04.ChecksumValid", spec := "checksumValid", apart := false, narrowed := true }
def ChecksumValidUptoSaid : Prop := checksumValidUptoRow.holds Try.pinned (OpenSpec.upto checksumValidSpec)

/-- 'routinglaw04.ChecksumHash', WHERE WHAT IT READS IS OF BULK AT MOST 1048576: true; the input reads as it did. -/
def checksumHashUptoRow : OpenClaim := { program := "yteomipmhehpbhaa", sum := "2f0010dc67b1d8fa8ba99dc5d85db3a9e8093009d6c3d110fc101a09abf1eb64", func := "routing/routinglaw04.ChecksumHash", spec := "checksumHash", apart := false, narrowed := true }
def ChecksumHashUptoSaid : Prop := checksumHashUptoRow.holds Try.pinned (OpenSpec.upto checksumHashSpec)

/-- 'routinglaw04.ChecksumStored', WHERE WHAT IT READS IS OF BULK AT MOST 1048576: true; the input reads as it did. -/
def checksumStoredUptoRow : OpenClaim := { program := "yteomipmhehpbhaa", sum := "2f0010dc67b1d8fa8ba99dc5d85db3a9e8093009d6c3d110fc101a09abf1eb64", func := "routing/routinglaw04.ChecksumStored", spec := "checksumStored", apart := false, narrowed := true }
def ChecksumStoredUptoSaid : Prop := checksumStoredUptoRow.holds Try.pinned (OpenSpec.upto checksumStoredSpec)

/-- 'routinglaw04.ChecksumDetects', WHERE WHAT IT READS IS OF BULK AT MOST 1048576: true; the input reads as it did. -/
def checksumDetectsUptoRow : OpenClaim := { program := "yteomipmhehpbhaa", sum := "2f0010dc67b1d8fa8ba99dc5d85db3a9e8093009d6c3d110fc101a09abf1eb64", func := "routing/routinglaw04.ChecksumDetects", spec := "checksumDetects", apart := false, narrowed := true }
def ChecksumDetectsUptoSaid : Prop := checksumDetectsUptoRow.holds Try.pinned (OpenSpec.upto checksumDetectsSpec)

/-- 'routinglaw04.ChecksumOrder', WHERE WHAT IT READS IS OF BULK AT MOST 1048576: true; the input reads as it did. -/
def checksumOrderUptoRow : OpenClaim := { program := "yteomipmhehpbhaa", sum := "2f0010dc67b1d8fa8ba99dc5d85db3a9e8093009d6c3d110fc101a09abf1eb64", func := "routing/routinglaw04.ChecksumOrder", spec := "checksumOrder", apart := false, narrowed := true }
def ChecksumOrderUptoSaid : Prop := checksumOrderUptoRow.holds Try.pinned (OpenSpec.upto checksumOrderSpec)

end Rows
end Go.Proofs.Yteomipmhehpbhaa
