/-
  DERIVED. GIVEN WITH THE SEED: THE CARDS: each row of YtplppbgkkfjknaaDoorRows.lean that lists a variable, with what it lists TIED to the program's text (the seventh form; the later family's looks); each row that meets fmt, with fmt's text TOLD by the authors' own Lean function (tested against real Go, not proved from fmt's source: count such statements apart). THE CARD IS WHAT COUNTS. Prove the row's statement (the work); the ties are given (YtplppbgkkfjknaaDoorTie.lean); close each card by the builder's one call (the guide's Derived/Test/ToyasCard.lean, 'card_holds'). Laid BY PROGRAM, IN A SANDBOX (cutbox-door.mjs). By AI agents, Wed Nov 11 2026. No macro, syntax, notation, axiom, sorry.
-/
import Derived.Test.YtplppbgkkfjknaaDoorRows
import GoSem.ClaimSeven
namespace Go.Proofs.YtplppbgkkfjknaaDoor
namespace Rows

/-- THE TIED CARD OF 'routinglaw52.FibChecks'. -/
def fibChecksCard : Claim7 := { stood := { row := fibChecksRow, standIns := [], harness := (true, "1a29b0bfcc5c39cf53e2b552032982c4772795d90bd88c4877ae544932797deb"), looks := false }, kinds := [], alts := [], laidByText := true, laidKinds := [.data, .data, .data], laidTests := true, laidLooks := .later }
def FibChecksCardSaid : Prop := Claim7.holds Tryd.pinned (.plain (OpenSpec.ofChange fibChecksSpec)) fibChecksCard

/-- THE TIED CARD OF 'routinglaw52.FibTable'. -/
def fibTableCard : Claim7 := { stood := { row := fibTableRow, standIns := [], harness := (true, "1a29b0bfcc5c39cf53e2b552032982c4772795d90bd88c4877ae544932797deb"), looks := false }, kinds := [], alts := [], laidByText := true, laidKinds := [.data, .data, .data], laidTests := true, laidLooks := .later }
def FibTableCardSaid : Prop := Claim7.holds Tryd.pinned (.plain (OpenSpec.ofChange fibTableSpec)) fibTableCard

/-- THE TIED CARD OF 'routinglaw52.FibGroups'. -/
def fibGroupsCard : Claim7 := { stood := { row := fibGroupsRow, standIns := [], harness := (true, "1a29b0bfcc5c39cf53e2b552032982c4772795d90bd88c4877ae544932797deb"), looks := false }, kinds := [], alts := [], laidByText := true, laidKinds := [.data, .data, .data], laidTests := true, laidLooks := .later }
def FibGroupsCardSaid : Prop := Claim7.holds Tryd.pinned (.plain (OpenSpec.ofChange fibGroupsSpec)) fibGroupsCard

/-- THE SECOND FORM's CARD OF 'routinglaw52.FibChecks'. -/
def fibChecksUptoCard : Claim7 := { stood := { row := fibChecksUptoRow, standIns := [], harness := (true, "1a29b0bfcc5c39cf53e2b552032982c4772795d90bd88c4877ae544932797deb"), looks := false }, kinds := [], alts := [], laidByText := true, laidKinds := [.data, .data, .data], laidTests := true, laidLooks := .later }
def FibChecksUptoCardSaid : Prop := Claim7.holds Tryd.pinned (.plain (OpenSpec.upto fibChecksSpec)) fibChecksUptoCard

/-- THE SECOND FORM's CARD OF 'routinglaw52.FibTable'. -/
def fibTableUptoCard : Claim7 := { stood := { row := fibTableUptoRow, standIns := [], harness := (true, "1a29b0bfcc5c39cf53e2b552032982c4772795d90bd88c4877ae544932797deb"), looks := false }, kinds := [], alts := [], laidByText := true, laidKinds := [.data, .data, .data], laidTests := true, laidLooks := .later }
def FibTableUptoCardSaid : Prop := Claim7.holds Tryd.pinned (.plain (OpenSpec.upto fibTableSpec)) fibTableUptoCard

/-- THE SECOND FORM's CARD OF 'routinglaw52.FibGroups'. -/
def fibGroupsUptoCard : Claim7 := { stood := { row := fibGroupsUptoRow, standIns := [], harness := (true, "1a29b0bfcc5c39cf53e2b552032982c4772795d90bd88c4877ae544932797deb"), looks := false }, kinds := [], alts := [], laidByText := true, laidKinds := [.data, .data, .data], laidTests := true, laidLooks := .later }
def FibGroupsUptoCardSaid : Prop := Claim7.holds Tryd.pinned (.plain (OpenSpec.upto fibGroupsSpec)) fibGroupsUptoCard
end Rows
end Go.Proofs.YtplppbgkkfjknaaDoor
