/-
  DERIVED. GIVEN WITH THE SEED: THE CARDS: each row of YtonckpcbehobhaaDoorRows.lean that lists a variable, with what it lists TIED to the program's text (the seventh form; the later family's looks); each row that meets fmt, with fmt's text TOLD by the authors' own Lean function (tested against real Go, not proved from fmt's source: count such statements apart). THE CARD IS WHAT COUNTS. Prove the row's statement (the work); the ties are given (YtonckpcbehobhaaDoorTie.lean); close each card by the builder's one call (the guide's Derived/Test/ToyasCard.lean, 'card_holds'). Laid BY PROGRAM, IN A SANDBOX (cutbox-door.mjs). By AI agents, Wed Nov 11 2026. No macro, syntax, notation, axiom, sorry.
-/
import Derived.Test.YtonckpcbehobhaaDoorRows
import GoSem.ClaimSeven
namespace Go.Proofs.YtonckpcbehobhaaDoor
namespace Rows

/-- THE TIED CARD OF 'routinglaw03.FieldNumbers'. -/
def fieldNumbersCard : Claim7 := { stood := { row := fieldNumbersRow, standIns := [], harness := (true, "52465ad6881379b389669864c029e3423ecbc93a4c5f90dfb7121fef6213c13c"), looks := false }, kinds := [], alts := [], laidByText := true, laidKinds := [.data, .data, .data, .data, .pinned], laidTests := true, laidLooks := .later }
def FieldNumbersCardSaid : Prop := Claim7.holds Tryd.pinned (.plain (OpenSpec.ofChange fieldNumbersSpec)) fieldNumbersCard

/-- THE TIED CARD OF 'routinglaw03.FieldDecimals'. -/
def fieldDecimalsCard : Claim7 := { stood := { row := fieldDecimalsRow, standIns := [], harness := (true, "52465ad6881379b389669864c029e3423ecbc93a4c5f90dfb7121fef6213c13c"), looks := false }, kinds := [], alts := [], laidByText := true, laidKinds := [.data, .data, .data, .data, .pinned], laidTests := true, laidLooks := .later }
def FieldDecimalsCardSaid : Prop := Claim7.holds Tryd.pinned (.plain (OpenSpec.ofChange fieldDecimalsSpec)) fieldDecimalsCard

/-- THE TIED CARD OF 'routinglaw03.FieldWords'. -/
def fieldWordsCard : Claim7 := { stood := { row := fieldWordsRow, standIns := [], harness := (true, "52465ad6881379b389669864c029e3423ecbc93a4c5f90dfb7121fef6213c13c"), looks := false }, kinds := [], alts := [], laidByText := true, laidKinds := [.data, .data, .data, .data, .pinned], laidTests := true, laidLooks := .later }
def FieldWordsCardSaid : Prop := Claim7.holds Tryd.pinned (.plain (OpenSpec.ofChange fieldWordsSpec)) fieldWordsCard

/-- THE TIED CARD OF 'routinglaw03.FieldBack'. -/
def fieldBackCard : Claim7 := { stood := { row := fieldBackRow, standIns := [], harness := (true, "52465ad6881379b389669864c029e3423ecbc93a4c5f90dfb7121fef6213c13c"), looks := false }, kinds := [], alts := [], laidByText := true, laidKinds := [.data, .data, .data, .data, .pinned], laidTests := true, laidLooks := .later }
def FieldBackCardSaid : Prop := Claim7.holds Tryd.pinned (.plain (OpenSpec.ofChange fieldBackSpec)) fieldBackCard

/-- THE TIED CARD OF 'routinglaw03.FieldLine'. -/
def fieldLineCard : Claim7 := { stood := { row := fieldLineRow, standIns := [], harness := (true, "52465ad6881379b389669864c029e3423ecbc93a4c5f90dfb7121fef6213c13c"), looks := false }, kinds := [], alts := [], laidByText := true, laidKinds := [.data, .data, .data, .data, .pinned], laidTests := true, laidLooks := .later }
def FieldLineCardSaid : Prop := Claim7.holds Tryd.pinned (.plain (OpenSpec.ofChange fieldLineSpec)) fieldLineCard

/-- THE TIED CARD OF 'routinglaw03.FieldTLVs'. -/
def fieldTLVsCard : Claim7 := { stood := { row := fieldTLVsRow, standIns := [], harness := (true, "52465ad6881379b389669864c029e3423ecbc93a4c5f90dfb7121fef6213c13c"), looks := false }, kinds := [], alts := [], laidByText := true, laidKinds := [.data, .data, .data, .data, .pinned], laidTests := true, laidLooks := .later }
def FieldTLVsCardSaid : Prop := Claim7.holds Tryd.pinned (.plain (OpenSpec.ofChange fieldTLVsSpec)) fieldTLVsCard

/-- THE TIED CARD OF 'routinglaw03.FieldList'. -/
def fieldListCard : Claim7 := { stood := { row := fieldListRow, standIns := [], harness := (true, "52465ad6881379b389669864c029e3423ecbc93a4c5f90dfb7121fef6213c13c"), looks := false }, kinds := [], alts := [], laidByText := true, laidKinds := [.data, .data, .data, .data, .pinned], laidTests := true, laidLooks := .later }
def FieldListCardSaid : Prop := Claim7.holds Tryd.pinned (.plain (OpenSpec.ofChange fieldListSpec)) fieldListCard

/-- THE SECOND FORM's CARD OF 'routinglaw03.FieldNumbers'. -/
def fieldNumbersUptoCard : Claim7 := { stood := { row := fieldNumbersUptoRow, standIns := [], harness := (true, "52465ad6881379b389669864c029e3423ecbc93a4c5f90dfb7121fef6213c13c"), looks := false }, kinds := [], alts := [], laidByText := true, laidKinds := [.data, .data, .data, .data, .pinned], laidTests := true, laidLooks := .later }
def FieldNumbersUptoCardSaid : Prop := Claim7.holds Tryd.pinned (.plain (OpenSpec.upto fieldNumbersSpec)) fieldNumbersUptoCard

/-- THE SECOND FORM's CARD OF 'routinglaw03.FieldDecimals'. -/
def fieldDecimalsUptoCard : Claim7 := { stood := { row := fieldDecimalsUptoRow, standIns := [], harness := (true, "52465ad6881379b389669864c029e3423ecbc93a4c5f90dfb7121fef6213c13c"), looks := false }, kinds := [], alts := [], laidByText := true, laidKinds := [.data, .data, .data, .data, .pinned], laidTests := true, laidLooks := .later }
def FieldDecimalsUptoCardSaid : Prop := Claim7.holds Tryd.pinned (.plain (OpenSpec.upto fieldDecimalsSpec)) fieldDecimalsUptoCard

/-- THE SECOND FORM's CARD OF 'routinglaw03.FieldWords'. -/
def fieldWordsUptoCard : Claim7 := { stood := { row := fieldWordsUptoRow, standIns := [], harness := (true, "52465ad6881379b389669864c029e3423ecbc93a4c5f90dfb7121fef6213c13c"), looks := false }, kinds := [], alts := [], laidByText := true, laidKinds := [.data, .data, .data, .data, .pinned], laidTests := true, laidLooks := .later }
def FieldWordsUptoCardSaid : Prop := Claim7.holds Tryd.pinned (.plain (OpenSpec.upto fieldWordsSpec)) fieldWordsUptoCard

/-- THE SECOND FORM's CARD OF 'routinglaw03.FieldBack'. -/
def fieldBackUptoCard : Claim7 := { stood := { row := fieldBackUptoRow, standIns := [], harness := (true, "52465ad6881379b389669864c029e3423ecbc93a4c5f90dfb7121fef6213c13c"), looks := false }, kinds := [], alts := [], laidByText := true, laidKinds := [.data, .data, .data, .data, .pinned], laidTests := true, laidLooks := .later }
def FieldBackUptoCardSaid : Prop := Claim7.holds Tryd.pinned (.plain (OpenSpec.upto fieldBackSpec)) fieldBackUptoCard

/-- THE SECOND FORM's CARD OF 'routinglaw03.FieldLine'. -/
def fieldLineUptoCard : Claim7 := { stood := { row := fieldLineUptoRow, standIns := [], harness := (true, "52465ad6881379b389669864c029e3423ecbc93a4c5f90dfb7121fef6213c13c"), looks := false }, kinds := [], alts := [], laidByText := true, laidKinds := [.data, .data, .data, .data, .pinned], laidTests := true, laidLooks := .later }
def FieldLineUptoCardSaid : Prop := Claim7.holds Tryd.pinned (.plain (OpenSpec.upto fieldLineSpec)) fieldLineUptoCard

/-- THE SECOND FORM's CARD OF 'routinglaw03.FieldTLVs'. -/
def fieldTLVsUptoCard : Claim7 := { stood := { row := fieldTLVsUptoRow, standIns := [], harness := (true, "52465ad6881379b389669864c029e3423ecbc93a4c5f90dfb7121fef6213c13c"), looks := false }, kinds := [], alts := [], laidByText := true, laidKinds := [.data, .data, .data, .data, .pinned], laidTests := true, laidLooks := .later }
def FieldTLVsUptoCardSaid : Prop := Claim7.holds Tryd.pinned (.plain (OpenSpec.upto fieldTLVsSpec)) fieldTLVsUptoCard

/-- THE SECOND FORM's CARD OF 'routinglaw03.FieldList'. -/
def fieldListUptoCard : Claim7 := { stood := { row := fieldListUptoRow, standIns := [], harness := (true, "52465ad6881379b389669864c029e3423ecbc93a4c5f90dfb7121fef6213c13c"), looks := false }, kinds := [], alts := [], laidByText := true, laidKinds := [.data, .data, .data, .data, .pinned], laidTests := true, laidLooks := .later }
def FieldListUptoCardSaid : Prop := Claim7.holds Tryd.pinned (.plain (OpenSpec.upto fieldListSpec)) fieldListUptoCard
end Rows
end Go.Proofs.YtonckpcbehobhaaDoor
