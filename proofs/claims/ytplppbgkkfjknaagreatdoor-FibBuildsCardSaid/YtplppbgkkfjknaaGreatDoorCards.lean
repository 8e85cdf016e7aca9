/-
  DERIVED. GIVEN WITH THE SEED: THE CARDS: each row of YtplppbgkkfjknaaGreatDoorRows.lean that lists a variable, with what it lists TIED to the program's text (the seventh form; the later family's looks); each row that meets fmt, with fmt's text TOLD by the authors' own Lean function (tested against real Go, not proved from fmt's source: count such statements apart). THE CARD IS WHAT COUNTS. Prove the row's statement (the work); the ties are given (YtplppbgkkfjknaaGreatDoorTie.lean); close each card by the builder's one call (the guide's Derived/Test/ToyasCard.lean, 'card_holds'). Laid BY PROGRAM, IN A SANDBOX (cutbox-door.mjs). By AI agents, Wed Nov 11 2026. No macro, syntax, notation, axiom, sorry.
-/
import Derived.Test.YtplppbgkkfjknaaGreatDoorRows
import GoSem.ClaimSeven
namespace Go.Proofs.YtplppbgkkfjknaaGreatDoor
namespace Rows

/-- THE TIED CARD OF 'routinglaw52.FibBuilds'. -/
def fibBuildsCard : Claim7 := { stood := { row := fibBuildsRow, standIns := [], harness := (true, "4d887a856fc49c6d755963cd760d8ec8141bd9bc516522104c9940b9b57a8410"), looks := false }, kinds := [], alts := [], laidByText := true, laidKinds := [.data, .data, .data], laidTests := true, laidLooks := .later }
def FibBuildsCardSaid : Prop := Claim7.holds Tryz.pinned (.plain (OpenSpec.ofChange fibBuildsSpec)) fibBuildsCard

/-- THE TIED CARD OF 'routinglaw52.FibLookups'. -/
def fibLookupsCard : Claim7 := { stood := { row := fibLookupsRow, standIns := [], harness := (true, "4d887a856fc49c6d755963cd760d8ec8141bd9bc516522104c9940b9b57a8410"), looks := false }, kinds := [], alts := [], laidByText := true, laidKinds := [.data, .data, .data], laidTests := true, laidLooks := .later }
def FibLookupsCardSaid : Prop := Claim7.holds Tryz.pinned (.plain (OpenSpec.ofChange fibLookupsSpec)) fibLookupsCard

/-- THE TIED CARD OF 'routinglaw52.FibForwards'. -/
def fibForwardsCard : Claim7 := { stood := { row := fibForwardsRow, standIns := [], harness := (true, "4d887a856fc49c6d755963cd760d8ec8141bd9bc516522104c9940b9b57a8410"), looks := false }, kinds := [], alts := [], laidByText := true, laidKinds := [.data, .data, .data], laidTests := true, laidLooks := .later }
def FibForwardsCardSaid : Prop := Claim7.holds Tryz.pinned (.plain (OpenSpec.ofChange fibForwardsSpec)) fibForwardsCard

/-- THE TIED CARD OF 'routinglaw52.FibFailure'. -/
def fibFailureCard : Claim7 := { stood := { row := fibFailureRow, standIns := [], harness := (true, "4d887a856fc49c6d755963cd760d8ec8141bd9bc516522104c9940b9b57a8410"), looks := false }, kinds := [], alts := [], laidByText := true, laidKinds := [.data, .data, .data], laidTests := true, laidLooks := .later }
def FibFailureCardSaid : Prop := Claim7.holds Tryz.pinned (.plain (OpenSpec.ofChange fibFailureSpec)) fibFailureCard

/-- THE TIED CARD OF 'routinglaw52.FibSames'. -/
def fibSamesCard : Claim7 := { stood := { row := fibSamesRow, standIns := [], harness := (true, "4d887a856fc49c6d755963cd760d8ec8141bd9bc516522104c9940b9b57a8410"), looks := false }, kinds := [], alts := [], laidByText := true, laidKinds := [.data, .data, .data], laidTests := true, laidLooks := .later }
def FibSamesCardSaid : Prop := Claim7.holds Tryz.pinned (.plain (OpenSpec.ofChange fibSamesSpec)) fibSamesCard

/-- THE SECOND FORM's CARD OF 'routinglaw52.FibBuilds'. -/
def fibBuildsUptoCard : Claim7 := { stood := { row := fibBuildsUptoRow, standIns := [], harness := (true, "4d887a856fc49c6d755963cd760d8ec8141bd9bc516522104c9940b9b57a8410"), looks := false }, kinds := [], alts := [], laidByText := true, laidKinds := [.data, .data, .data], laidTests := true, laidLooks := .later }
def FibBuildsUptoCardSaid : Prop := Claim7.holds Tryz.pinned (.plain (OpenSpec.upto fibBuildsSpec)) fibBuildsUptoCard

/-- THE SECOND FORM's CARD OF 'routinglaw52.FibLookups'. -/
def fibLookupsUptoCard : Claim7 := { stood := { row := fibLookupsUptoRow, standIns := [], harness := (true, "4d887a856fc49c6d755963cd760d8ec8141bd9bc516522104c9940b9b57a8410"), looks := false }, kinds := [], alts := [], laidByText := true, laidKinds := [.data, .data, .data], laidTests := true, laidLooks := .later }
def FibLookupsUptoCardSaid : Prop := Claim7.holds Tryz.pinned (.plain (OpenSpec.upto fibLookupsSpec)) fibLookupsUptoCard

/-- THE SECOND FORM's CARD OF 'routinglaw52.FibForwards'. -/
def fibForwardsUptoCard : Claim7 := { stood := { row := fibForwardsUptoRow, standIns := [], harness := (true, "4d887a856fc49c6d755963cd760d8ec8141bd9bc516522104c9940b9b57a8410"), looks := false }, kinds := [], alts := [], laidByText := true, laidKinds := [.data, .data, .data], laidTests := true, laidLooks := .later }
def FibForwardsUptoCardSaid : Prop := Claim7.holds Tryz.pinned (.plain (OpenSpec.upto fibForwardsSpec)) fibForwardsUptoCard

/-- THE SECOND FORM's CARD OF 'routinglaw52.FibFailure'. -/
def fibFailureUptoCard : Claim7 := { stood := { row := fibFailureUptoRow, standIns := [], harness := (true, "4d887a856fc49c6d755963cd760d8ec8141bd9bc516522104c9940b9b57a8410"), looks := false }, kinds := [], alts := [], laidByText := true, laidKinds := [.data, .data, .data], laidTests := true, laidLooks := .later }
def FibFailureUptoCardSaid : Prop := Claim7.holds Tryz.pinned (.plain (OpenSpec.upto fibFailureSpec)) fibFailureUptoCard

/-- THE SECOND FORM's CARD OF 'routinglaw52.FibSames'. -/
def fibSamesUptoCard : Claim7 := { stood := { row := fibSamesUptoRow, standIns := [], harness := (true, "4d887a856fc49c6d755963cd760d8ec8141bd9bc516522104c9940b9b57a8410"), looks := false }, kinds := [], alts := [], laidByText := true, laidKinds := [.data, .data, .data], laidTests := true, laidLooks := .later }
def FibSamesUptoCardSaid : Prop := Claim7.holds Tryz.pinned (.plain (OpenSpec.upto fibSamesSpec)) fibSamesUptoCard
end Rows
end Go.Proofs.YtplppbgkkfjknaaGreatDoor
