/-
  DERIVED. GIVEN WITH THE SEED: THE CARDS: each row of YteohdanlcaoaiaaDoorRows.lean that lists a variable, with what it lists TIED to the program's text (the seventh form; the later family's looks); each row that meets fmt, with fmt's text TOLD by the authors' own Lean function (tested against real Go, not proved from fmt's source: count such statements apart). THE CARD IS WHAT COUNTS. Prove the row's statement (the work); the ties are given (YteohdanlcaoaiaaDoorTie.lean); close each card by the builder's one call (the guide's Derived/Test/ToyasCard.lean, 'card_holds'). Laid BY PROGRAM, IN A SANDBOX (cutbox-door.mjs). By AI agents, Wed Nov 11 2026. No macro, syntax, notation, axiom, sorry.
-/
import Derived.Test.YteohdanlcaoaiaaDoorRows
import GoSem.ClaimSeven
namespace Go.Proofs.YteohdanlcaoaiaaDoor
namespace Rows

/-- THE TIED CARD OF 'routinglaw17.AspathCovers'. -/
def aspathCoversCard : Claim7 := { stood := { row := aspathCoversRow, standIns := [], harness := (true, "0a7895fef8fec2db49618af25a10a9803679c24059c9048e2b79055efddd2b1b"), looks := false }, kinds := [], alts := [], laidByText := true, laidKinds := [.data, .data, .data, .data, .pinned], laidTests := true, laidLooks := .later }
def AspathCoversCardSaid : Prop := Claim7.holds Tryd.pinned (.plain (OpenSpec.ofChange aspathCoversSpec)) aspathCoversCard

/-- THE TIED CARD OF 'routinglaw17.AspathSame'. -/
def aspathSameCard : Claim7 := { stood := { row := aspathSameRow, standIns := [], harness := (true, "0a7895fef8fec2db49618af25a10a9803679c24059c9048e2b79055efddd2b1b"), looks := false }, kinds := [], alts := [], laidByText := true, laidKinds := [.data, .data, .data, .data, .pinned], laidTests := true, laidLooks := .later }
def AspathSameCardSaid : Prop := Claim7.holds Tryd.pinned (.plain (OpenSpec.ofChange aspathSameSpec)) aspathSameCard

/-- THE TIED CARD OF 'routinglaw17.AspathCheck'. -/
def aspathCheckCard : Claim7 := { stood := { row := aspathCheckRow, standIns := [], harness := (true, "0a7895fef8fec2db49618af25a10a9803679c24059c9048e2b79055efddd2b1b"), looks := false }, kinds := [], alts := [], laidByText := true, laidKinds := [.data, .data, .data, .data, .pinned], laidTests := true, laidLooks := .later }
def AspathCheckCardSaid : Prop := Claim7.holds Tryd.pinned (.plain (OpenSpec.ofChange aspathCheckSpec)) aspathCheckCard

/-- THE TIED CARD OF 'routinglaw17.AspathNumbers'. -/
def aspathNumbersCard : Claim7 := { stood := { row := aspathNumbersRow, standIns := [], harness := (true, "0a7895fef8fec2db49618af25a10a9803679c24059c9048e2b79055efddd2b1b"), looks := false }, kinds := [], alts := [], laidByText := true, laidKinds := [.data, .data, .data, .data, .pinned], laidTests := true, laidLooks := .later }
def AspathNumbersCardSaid : Prop := Claim7.holds Tryd.pinned (.plain (OpenSpec.ofChange aspathNumbersSpec)) aspathNumbersCard

/-- THE TIED CARD OF 'routinglaw17.AspathPrepend'. -/
def aspathPrependCard : Claim7 := { stood := { row := aspathPrependRow, standIns := [], harness := (true, "0a7895fef8fec2db49618af25a10a9803679c24059c9048e2b79055efddd2b1b"), looks := false }, kinds := [], alts := [], laidByText := true, laidKinds := [.data, .data, .data, .data, .pinned], laidTests := true, laidLooks := .later }
def AspathPrependCardSaid : Prop := Claim7.holds Tryd.pinned (.plain (OpenSpec.ofChange aspathPrependSpec)) aspathPrependCard

/-- THE TIED CARD OF 'routinglaw17.AspathBack'. -/
def aspathBackCard : Claim7 := { stood := { row := aspathBackRow, standIns := [], harness := (true, "0a7895fef8fec2db49618af25a10a9803679c24059c9048e2b79055efddd2b1b"), looks := false }, kinds := [], alts := [], laidByText := true, laidKinds := [.data, .data, .data, .data, .pinned], laidTests := true, laidLooks := .later }
def AspathBackCardSaid : Prop := Claim7.holds Tryd.pinned (.plain (OpenSpec.ofChange aspathBackSpec)) aspathBackCard

/-- THE TIED CARD OF 'routinglaw17.AspathParse'. -/
def aspathParseCard : Claim7 := { stood := { row := aspathParseRow, standIns := [], harness := (true, "0a7895fef8fec2db49618af25a10a9803679c24059c9048e2b79055efddd2b1b"), looks := false }, kinds := [], alts := [], laidByText := true, laidKinds := [.data, .data, .data, .data, .pinned], laidTests := true, laidLooks := .later }
def AspathParseCardSaid : Prop := Claim7.holds Tryd.pinned (.plain (OpenSpec.ofChange aspathParseSpec)) aspathParseCard

/-- THE TIED CARD OF 'routinglaw17.AspathMerge'. -/
def aspathMergeCard : Claim7 := { stood := { row := aspathMergeRow, standIns := [], harness := (true, "0a7895fef8fec2db49618af25a10a9803679c24059c9048e2b79055efddd2b1b"), looks := false }, kinds := [], alts := [], laidByText := true, laidKinds := [.data, .data, .data, .data, .pinned], laidTests := true, laidLooks := .later }
def AspathMergeCardSaid : Prop := Claim7.holds Tryd.pinned (.plain (OpenSpec.ofChange aspathMergeSpec)) aspathMergeCard

/-- THE SECOND FORM's CARD OF 'routinglaw17.AspathCovers'. -/
def aspathCoversUptoCard : Claim7 := { stood := { row := aspathCoversUptoRow, standIns := [], harness := (true, "0a7895fef8fec2db49618af25a10a9803679c24059c9048e2b79055efddd2b1b"), looks := false }, kinds := [], alts := [], laidByText := true, laidKinds := [.data, .data, .data, .data, .pinned], laidTests := true, laidLooks := .later }
def AspathCoversUptoCardSaid : Prop := Claim7.holds Tryd.pinned (.plain (OpenSpec.upto aspathCoversSpec)) aspathCoversUptoCard

/-- THE SECOND FORM's CARD OF 'routinglaw17.AspathSame'. -/
def aspathSameUptoCard : Claim7 := { stood := { row := aspathSameUptoRow, standIns := [], harness := (true, "0a7895fef8fec2db49618af25a10a9803679c24059c9048e2b79055efddd2b1b"), looks := false }, kinds := [], alts := [], laidByText := true, laidKinds := [.data, .data, .data, .data, .pinned], laidTests := true, laidLooks := .later }
def AspathSameUptoCardSaid : Prop := Claim7.holds Tryd.pinned (.plain (OpenSpec.upto aspathSameSpec)) aspathSameUptoCard

/-- THE SECOND FORM's CARD OF 'routinglaw17.AspathCheck'. -/
def aspathCheckUptoCard : Claim7 := { stood := { row := aspathCheckUptoRow, standIns := [], harness := (true, "0a7895fef8fec2db49618af25a10a9803679c24059c9048e2b79055efddd2b1b"), looks := false }, kinds := [], alts := [], laidByText := true, laidKinds := [.data, .data, .data, .data, .pinned], laidTests := true, laidLooks := .later }
def AspathCheckUptoCardSaid : Prop := Claim7.holds Tryd.pinned (.plain (OpenSpec.upto aspathCheckSpec)) aspathCheckUptoCard

/-- THE SECOND FORM's CARD OF 'routinglaw17.AspathNumbers'. -/
def aspathNumbersUptoCard : Claim7 := { stood := { row := aspathNumbersUptoRow, standIns := [], harness := (true, "0a7895fef8fec2db49618af25a10a9803679c24059c9048e2b79055efddd2b1b"), looks := false }, kinds := [], alts := [], laidByText := true, laidKinds := [.data, .data, .data, .data, .pinned], laidTests := true, laidLooks := .later }
def AspathNumbersUptoCardSaid : Prop := Claim7.holds Tryd.pinned (.plain (OpenSpec.upto aspathNumbersSpec)) aspathNumbersUptoCard

/-- THE SECOND FORM's CARD OF 'routinglaw17.AspathPrepend'. -/
def aspathPrependUptoCard : Claim7 := { stood := { row := aspathPrependUptoRow, standIns := [], harness := (true, "0a7895fef8fec2db49618af25a10a9803679c24059c9048e2b79055efddd2b1b"), looks := false }, kinds := [], alts := [], laidByText := true, laidKinds := [.data, .data, .data, .data, .pinned], laidTests := true, laidLooks := .later }
def AspathPrependUptoCardSaid : Prop := Claim7.holds Tryd.pinned (.plain (OpenSpec.upto aspathPrependSpec)) aspathPrependUptoCard

/-- THE SECOND FORM's CARD OF 'routinglaw17.AspathBack'. -/
def aspathBackUptoCard : Claim7 := { stood := { row := aspathBackUptoRow, standIns := [], harness := (true, "0a7895fef8fec2db49618af25a10a9803679c24059c9048e2b79055efddd2b1b"), looks := false }, kinds := [], alts := [], laidByText := true, laidKinds := [.data, .data, .data, .data, .pinned], laidTests := true, laidLooks := .later }
def AspathBackUptoCardSaid : Prop := Claim7.holds Tryd.pinned (.plain (OpenSpec.upto aspathBackSpec)) aspathBackUptoCard

/-- THE SECOND FORM's CARD OF 'routinglaw17.AspathParse'. -/
def aspathParseUptoCard : Claim7 := { stood := { row := aspathParseUptoRow, standIns := [], harness := (true, "0a7895fef8fec2db49618af25a10a9803679c24059c9048e2b79055efddd2b1b"), looks := false }, kinds := [], alts := [], laidByText := true, laidKinds := [.data, .data, .data, .data, .pinned], laidTests := true, laidLooks := .later }
def AspathParseUptoCardSaid : Prop := Claim7.holds Tryd.pinned (.plain (OpenSpec.upto aspathParseSpec)) aspathParseUptoCard

/-- THE SECOND FORM's CARD OF 'routinglaw17.AspathMerge'. -/
def aspathMergeUptoCard : Claim7 := { stood := { row := aspathMergeUptoRow, standIns := [], harness := (true, "0a7895fef8fec2db49618af25a10a9803679c24059c9048e2b79055efddd2b1b"), looks := false }, kinds := [], alts := [], laidByText := true, laidKinds := [.data, .data, .data, .data, .pinned], laidTests := true, laidLooks := .later }
def AspathMergeUptoCardSaid : Prop := Claim7.holds Tryd.pinned (.plain (OpenSpec.upto aspathMergeSpec)) aspathMergeUptoCard
end Rows
end Go.Proofs.YteohdanlcaoaiaaDoor
