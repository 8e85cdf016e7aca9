/-
  No cell of these rows narrows 'for every input' (looked for: loops, veiled, ifaces, maps, wideKeys, modest, calm, conditions, laid).
  DERIVED. THE GIVEN ROWS OF THIS SEAT. 7 by the template 'for every input the law returns true; each argument reads behind the call as it read before'; 0 by the template 'total and deterministic' (their statements: YtojgohgeagbkbaaTotals.lean).
  GIVEN WITH THE SEED: the statements are not yours to turn. If you find one false, say at which input.
  Laid BY PROGRAM, IN A SANDBOX (cutbox-rows.mjs): the forced cells as the released guide's own fill.sh prints them over the translation e176f90a49dd6c3a… (all of the seat's roots in one cut). By AI agents, Wed Nov 11 2026. No macro, syntax, notation, axiom, sorry.
-/
import Derived.Test.YtojgohgeagbkbaaChecked
import GoSem.Claim
import GoSem.ClaimJoined
import GoSem.ClaimMapViews
import Derived.JoinedTies
import Derived.KernelRfl
namespace Go.Proofs.Ytojgohgeagbkbaa
/- THE CELL 'sum', in the pinned program and in every row, IS THE sha256 OF THE DUMP (.gsa) THAT YtojgohgeagbkbaaProg.lean LOADS. Nothing in Lean hashes anything: it is a label: what it is worth is what the hold of that sum in a sandbox is worth. -/
noncomputable def Try.pinned : Pinned := { name := "ytojgohgeagbkbaa", sum := "e176f90a49dd6c3a9181864cf5cf3c66cd114f09e6e84d9327667390159afc33", checked := Try.checked }
namespace Rows
def none {H : Type} : Left H := { results := [], args := [] }

/-- 'routinglaw41.AdvertiseAccept': WHATEVER THE INPUT: true; the input reads as it did. -/
def advertiseAcceptSpec : ChangeSpec := { name := "advertiseAccept", fn := fun _ => fun
  | [d1, d2, d3] => { results := [.lit (.bool true)], args := [d1, d2, d3] }
  | _ => none }
def advertiseAcceptRow : OpenClaim := { program := "ytojgohgeagbkbaa", sum := "e176f90a49dd6c3a9181864cf5cf3c66cd114f09e6e84d9327667390159afc33", func := "routing/routinglaw41.AdvertiseAccept", spec := "advertiseAccept", unfollowed := true, recurses := true, apart := false }
def AdvertiseAcceptSaid : Prop := advertiseAcceptRow.holds Try.pinned (OpenSpec.ofChange advertiseAcceptSpec)

/-- ITS FALSE NEIGHBOUR: 'it returns false'. Refute it at one input. -/
def advertiseAcceptWrong : ChangeSpec := { name := "advertiseAccept", fn := fun _ => fun
  | [d1, d2, d3] => { results := [.lit (.bool false)], args := [d1, d2, d3] }
  | _ => none }
def AdvertiseAcceptWrongFalsely : Prop := advertiseAcceptRow.holds Try.pinned (OpenSpec.ofChange advertiseAcceptWrong)

/-- 'routinglaw41.AdvertiseMay': WHATEVER THE INPUT: true; the input reads as it did. -/
def advertiseMaySpec : ChangeSpec := { name := "advertiseMay", fn := fun _ => fun
  | [d1, d2, d3] => { results := [.lit (.bool true)], args := [d1, d2, d3] }
  | _ => none }
def advertiseMayRow : OpenClaim := { program := "ytojgohgeagbkbaa", sum := "e176f90a49dd6c3a9181864cf5cf3c66cd114f09e6e84d9327667390159afc33", func := "routing/routinglaw41.AdvertiseMay", spec := "advertiseMay", unfollowed := true, recurses := true, apart := false }
def AdvertiseMaySaid : Prop := advertiseMayRow.holds Try.pinned (OpenSpec.ofChange advertiseMaySpec)

/-- ITS FALSE NEIGHBOUR: 'it returns false'. Refute it at one input. -/
def advertiseMayWrong : ChangeSpec := { name := "advertiseMay", fn := fun _ => fun
  | [d1, d2, d3] => { results := [.lit (.bool false)], args := [d1, d2, d3] }
  | _ => none }
def AdvertiseMayWrongFalsely : Prop := advertiseMayRow.holds Try.pinned (OpenSpec.ofChange advertiseMayWrong)

/-- 'routinglaw41.AdvertiseSubject': WHATEVER THE INPUT: true; the input reads as it did. -/
def advertiseSubjectSpec : ChangeSpec := { name := "advertiseSubject", fn := fun _ => fun
  | [d1, d2] => { results := [.lit (.bool true)], args := [d1, d2] }
  | _ => none }
def advertiseSubjectRow : OpenClaim := { program := "ytojgohgeagbkbaa", sum := "e176f90a49dd6c3a9181864cf5cf3c66cd114f09e6e84d9327667390159afc33", func := "routing/routinglaw41.AdvertiseSubject", spec := "advertiseSubject", unfollowed := true, recurses := true, apart := false }
def AdvertiseSubjectSaid : Prop := advertiseSubjectRow.holds Try.pinned (OpenSpec.ofChange advertiseSubjectSpec)

/-- ITS FALSE NEIGHBOUR: 'it returns false'. Refute it at one input. -/
def advertiseSubjectWrong : ChangeSpec := { name := "advertiseSubject", fn := fun _ => fun
  | [d1, d2] => { results := [.lit (.bool false)], args := [d1, d2] }
  | _ => none }
def AdvertiseSubjectWrongFalsely : Prop := advertiseSubjectRow.holds Try.pinned (OpenSpec.ofChange advertiseSubjectWrong)

/-- 'routinglaw41.AdvertiseChanged': WHATEVER THE INPUT: true; the input reads as it did. -/
def advertiseChangedSpec : ChangeSpec := { name := "advertiseChanged", fn := fun _ => fun
  | [d1, d2, d3] => { results := [.lit (.bool true)], args := [d1, d2, d3] }
  | _ => none }
def advertiseChangedRow : OpenClaim := { program := "ytojgohgeagbkbaa", sum := "e176f90a49dd6c3a9181864cf5cf3c66cd114f09e6e84d9327667390159afc33", func := "routing/routinglaw41.AdvertiseChanged", spec := "advertiseChanged", unfollowed := true, recurses := true, apart := false }
def AdvertiseChangedSaid : Prop := advertiseChangedRow.holds Try.pinned (OpenSpec.ofChange advertiseChangedSpec)

/-- ITS FALSE NEIGHBOUR: 'it returns false'. Refute it at one input. -/
def advertiseChangedWrong : ChangeSpec := { name := "advertiseChanged", fn := fun _ => fun
  | [d1, d2, d3] => { results := [.lit (.bool false)], args := [d1, d2, d3] }
  | _ => none }
def AdvertiseChangedWrongFalsely : Prop := advertiseChangedRow.holds Try.pinned (OpenSpec.ofChange advertiseChangedWrong)

/-- 'routinglaw41.AdvertiseUnchanged': WHATEVER THE INPUT: true; the input reads as it did. -/
def advertiseUnchangedSpec : ChangeSpec := { name := "advertiseUnchanged", fn := fun _ => fun
  | [d1, d2] => { results := [.lit (.bool true)], args := [d1, d2] }
  | _ => none }
def advertiseUnchangedRow : OpenClaim := { program := "ytojgohgeagbkbaa", sum := "e176f90a49dd6c3a9181864cf5cf3c66cd114f09e6e84d9327667390159afc33", func := "routing/routinglaw41.AdvertiseUnchanged", spec := "advertiseUnchanged", unfollowed := true, recurses := true, apart := false }
def AdvertiseUnchangedSaid : Prop := advertiseUnchangedRow.holds Try.pinned (OpenSpec.ofChange advertiseUnchangedSpec)

/-- ITS FALSE NEIGHBOUR: 'it returns false'. Refute it at one input. -/
def advertiseUnchangedWrong : ChangeSpec := { name := "advertiseUnchanged", fn := fun _ => fun
  | [d1, d2] => { results := [.lit (.bool false)], args := [d1, d2] }
  | _ => none }
def AdvertiseUnchangedWrongFalsely : Prop := advertiseUnchangedRow.holds Try.pinned (OpenSpec.ofChange advertiseUnchangedWrong)

/-- 'routinglaw41.AdvertiseLoop': WHATEVER THE INPUT: true; the input reads as it did. -/
def advertiseLoopSpec : ChangeSpec := { name := "advertiseLoop", fn := fun _ => fun
  | [d1, d2, d3] => { results := [.lit (.bool true)], args := [d1, d2, d3] }
  | _ => none }
def advertiseLoopRow : OpenClaim := { program := "ytojgohgeagbkbaa", sum := "e176f90a49dd6c3a9181864cf5cf3c66cd114f09e6e84d9327667390159afc33", func := "routing/routinglaw41.AdvertiseLoop", spec := "advertiseLoop", unfollowed := true, recurses := true, apart := false }
def AdvertiseLoopSaid : Prop := advertiseLoopRow.holds Try.pinned (OpenSpec.ofChange advertiseLoopSpec)

/-- ITS FALSE NEIGHBOUR: 'it returns false'. Refute it at one input. -/
def advertiseLoopWrong : ChangeSpec := { name := "advertiseLoop", fn := fun _ => fun
  | [d1, d2, d3] => { results := [.lit (.bool false)], args := [d1, d2, d3] }
  | _ => none }
def AdvertiseLoopWrongFalsely : Prop := advertiseLoopRow.holds Try.pinned (OpenSpec.ofChange advertiseLoopWrong)

/-- 'routinglaw41.AdvertiseLocal': WHATEVER THE INPUT: true; the input reads as it did. -/
def advertiseLocalSpec : ChangeSpec := { name := "advertiseLocal", fn := fun _ => fun
  | [d1, d2, d3] => { results := [.lit (.bool true)], args := [d1, d2, d3] }
  | _ => none }
def advertiseLocalRow : OpenClaim := { program := "ytojgohgeagbkbaa", sum := "e176f90a49dd6c3a9181864cf5cf3c66cd114f09e6e84d9327667390159afc33", func := "routing/routinglaw41.AdvertiseLocal", spec := "advertiseLocal", unfollowed := true, recurses := true, apart := false }
def AdvertiseLocalSaid : Prop := advertiseLocalRow.holds Try.pinned (OpenSpec.ofChange advertiseLocalSpec)

/-- ITS FALSE NEIGHBOUR: 'it returns false'. Refute it at one input. -/
def advertiseLocalWrong : ChangeSpec := { name := "advertiseLocal", fn := fun _ => fun
  | [d1, d2, d3] => { results := [.lit (.bool false)], args := [d1, d2, d3] }
  | _ => none }
def AdvertiseLocalWrongFalsely : Prop := advertiseLocalRow.holds Try.pinned (OpenSpec.ofChange advertiseLocalWrong)

/- THE SECOND FORM. 'bulk': how many values and letters a reading holds, each counted each time it is reached (what is shared counts as often as it is met; a slice's spare places count too). A statement '..UptoSaid' is the law's where the arguments, and the package variables that the reading takes, are together of bulk at most 1048576: NARROWER than '..Said'. Prove '..Said' where nothing that the law and all that it calls make is longer than what came in: it says more and counts as full. Else prove '..UptoSaid'. A law counts once. -/
mutual
def uptoBulk {H : Type} : DataW H → Nat
  | .lit (.string bytes) => bytes.length + 1
  | .lit _ => 1
  | .nil => 1
  | .ptr d => uptoBulk d + 1
  | .slice elems spare => uptoBulkAll elems + uptoBulkAll spare + 1
  | .agg parts => uptoBulkAll parts + 1
  | .iface _ d => uptoBulk d + 1
  | .map entries => uptoBulkEntries entries + 1
  | .held _ => 1
def uptoBulkAll {H : Type} : List (DataW H) → Nat
  | [] => 0
  | d :: r => uptoBulk d + uptoBulkAll r
def uptoBulkEntries {H : Type} : List (Lit × DataW H) → Nat
  | [] => 0
  | x :: r => uptoBulkEntry x + uptoBulkEntries r
def uptoBulkEntry {H : Type} : Lit × DataW H → Nat
  | (.string bytes, d) => bytes.length + uptoBulk d + 1
  | (_, d) => uptoBulk d + 1
 end
def uptoSmall : (H : Type) → List (DataW H) → Bool := fun _ ds => decide (uptoBulkAll ds ≤ 1048576)
def OpenSpec.upto (s : _root_.Go.ChangeSpec) : _root_.Go.OpenSpec := { _root_.Go.OpenSpec.ofChange s with cond := some uptoSmall }

/-- 'routinglaw41.AdvertiseAccept', WHERE WHAT IT READS IS OF BULK AT MOST 1048576: true; the input reads as it did. -/
def advertiseAcceptUptoRow : OpenClaim := { program := "ytojgohgeagbkbaa", sum := "e176f90a49dd6c3a9181864cf5cf3c66cd114f09e6e84d9327667390159afc33", func := "routing/routinglaw41.AdvertiseAccept", spec := "advertiseAccept", unfollowed := true, recurses := true, apart := false, narrowed := true }
def AdvertiseAcceptUptoSaid : Prop := advertiseAcceptUptoRow.holds Try.pinned (OpenSpec.upto advertiseAcceptSpec)

/-- 'routinglaw41.AdvertiseMay', WHERE WHAT IT READS IS OF BULK AT MOST 1048576: true; the input reads as it did. -/
def advertiseMayUptoRow : OpenClaim := { program := "ytojgohgeagbkbaa", sum := "e176f90a49dd6c3a9181864cf5cf3c66cd114f09e6e84d9327667390159afc33", func := "routing/routinglaw41.AdvertiseMay", spec := "advertiseMay", unfollowed := true, recurses := true, apart := false, narrowed := true }
def AdvertiseMayUptoSaid : Prop := advertiseMayUptoRow.holds Try.pinned (OpenSpec.upto advertiseMaySpec)

/-- 'routinglaw41.AdvertiseSubject', WHERE WHAT IT READS IS OF BULK AT MOST 1048576: true; the input reads as it did. -/
def advertiseSubjectUptoRow : OpenClaim := { program := "ytojgohgeagbkbaa", sum := "e176f90a49dd6c3a9181864cf5cf3c66cd114f09e6e84d9327667390159afc33", func := "routing/routinglaw41.AdvertiseSubject", spec := "advertiseSubject", unfollowed := true, recurses := true, apart := false, narrowed := true }
def AdvertiseSubjectUptoSaid : Prop := advertiseSubjectUptoRow.holds Try.pinned (OpenSpec.upto advertiseSubjectSpec)

/-- 'routinglaw41.AdvertiseChanged', WHERE WHAT IT READS IS OF BULK AT MOST 1048576: true; the input reads as it did. -/
def advertiseChangedUptoRow : OpenClaim := { program := "ytojgohgeagbkbaa", sum := "e176f90a49dd6c3a9181864cf5cf3c66cd114f09e6e84d9327667390159afc33", func := "routing/routinglaw41.AdvertiseChanged", spec := "advertiseChanged", unfollowed := true, recurses := true, apart := false, narrowed := true }
def AdvertiseChangedUptoSaid : Prop := advertiseChangedUptoRow.holds Try.pinned (OpenSpec.upto advertiseChangedSpec)

/-- 'routinglaw41.AdvertiseUnchanged', WHERE WHAT IT READS IS OF BULK AT MOST 1048576: true; the input reads as it did. -/
def advertiseUnchangedUptoRow : OpenClaim := { program := "ytojgohgeagbkbaa", sum := "e176f90a49dd6c3a9181864cf5cf3c66cd114f09e6e84d9327667390159afc33", func := "routing/routinglaw41.AdvertiseUnchanged", spec := "advertiseUnchanged", unfollowed := true, recurses := true, apart := false, narrowed := true }
def AdvertiseUnchangedUptoSaid : Prop := advertiseUnchangedUptoRow.holds Try.pinned (OpenSpec.upto advertiseUnchangedSpec)

/-- 'routinglaw41.AdvertiseLoop', WHERE WHAT IT READS IS OF BULK AT MOST 1048576: true; the input reads as it did. -/
def advertiseLoopUptoRow : OpenClaim := { program := "ytojgohgeagbkbaa", sum := "e176f90a49dd6c3a9181864cf5cf3c66cd114f09e6e84d9327667390159afc33", func := "routing/routinglaw41.AdvertiseLoop", spec := "advertiseLoop", unfollowed := true, recurses := true, apart := false, narrowed := true }
def AdvertiseLoopUptoSaid : Prop := advertiseLoopUptoRow.holds Try.pinned (OpenSpec.upto advertiseLoopSpec)

/-- 'routinglaw41.AdvertiseLocal', WHERE WHAT IT READS IS OF BULK AT MOST 1048576: true; the input reads as it did. -/
def advertiseLocalUptoRow : OpenClaim := { program := "ytojgohgeagbkbaa", sum := "e176f90a49dd6c3a9181864cf5cf3c66cd114f09e6e84d9327667390159afc33", func := "routing/routinglaw41.AdvertiseLocal", spec := "advertiseLocal", unfollowed := true, recurses := true, apart := false, narrowed := true }
def AdvertiseLocalUptoSaid : Prop := advertiseLocalUptoRow.holds Try.pinned (OpenSpec.upto advertiseLocalSpec)

end Rows
end Go.Proofs.Ytojgohgeagbkbaa
