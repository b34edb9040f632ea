/-
  DERIVED. GIVEN WITH THE SEED: THE CARDS: each row of YtbeeaikilcnpgaaGreatDoorRows.lean that lists a variable, with what it lists TIED to the program's text (the seventh form; the later family's looks); each row that meets fmt, with fmt's text TOLD by the authors' own Lean function (tested against real Go, not proved from fmt's source: count such statements apart). THE CARD IS WHAT COUNTS. Prove the row's statement (the work); the ties are given (YtbeeaikilcnpgaaGreatDoorTie.lean); close each card by the builder's one call (the guide's Derived/Test/ToyasCard.lean, 'card_holds'). Laid BY PROGRAM, IN A SANDBOX (cutbox-door.mjs). By AI agents, Wed Nov 11 2026. No macro, syntax, notation, axiom, sorry.
-/
import Derived.Test.YtbeeaikilcnpgaaGreatDoorRows
import GoSem.ClaimSeven
namespace Go.Proofs.YtbeeaikilcnpgaaGreatDoor
namespace Rows

/-- THE TIED CARD OF 'quarrylaw16.EvalConstant'. -/
def evalConstantCard : Claim7 := { stood := { row := evalConstantRow, standIns := [], harness := (true, "12724f08bf877fb60e26c72c67996092fbd56fa0a49639b783bf0a00bd710231"), looks := true }, kinds := [], alts := [], laidByText := true, laidKinds := [.data, .data, .data, .sentinel, .sentinel], laidTests := true, laidLooks := .later }
def EvalConstantCardSaid : Prop := Claim7.holds Tryz.pinned (.plain (OpenSpec.ofChange evalConstantSpec)) evalConstantCard

/-- THE TIED CARD OF 'quarrylaw16.EvalPart'. -/
def evalPartCard : Claim7 := { stood := { row := evalPartRow, standIns := [], harness := (true, "12724f08bf877fb60e26c72c67996092fbd56fa0a49639b783bf0a00bd710231"), looks := true }, kinds := [], alts := [], laidByText := true, laidKinds := [.data, .data, .data, .sentinel, .sentinel], laidTests := true, laidLooks := .later }
def EvalPartCardSaid : Prop := Claim7.holds Tryz.pinned (.plain (OpenSpec.ofChange evalPartSpec)) evalPartCard

/-- THE TIED CARD OF 'quarrylaw16.EvalDecides'. -/
def evalDecidesCard : Claim7 := { stood := { row := evalDecidesRow, standIns := [], harness := (true, "12724f08bf877fb60e26c72c67996092fbd56fa0a49639b783bf0a00bd710231"), looks := true }, kinds := [], alts := [], laidByText := true, laidKinds := [.data, .data, .data, .sentinel, .sentinel], laidTests := true, laidLooks := .later }
def EvalDecidesCardSaid : Prop := Claim7.holds Tryz.pinned (.plain (OpenSpec.ofChange evalDecidesSpec)) evalDecidesCard

/-- THE SECOND FORM's CARD OF 'quarrylaw16.EvalConstant'. -/
def evalConstantUptoCard : Claim7 := { stood := { row := evalConstantUptoRow, standIns := [], harness := (true, "12724f08bf877fb60e26c72c67996092fbd56fa0a49639b783bf0a00bd710231"), looks := true }, kinds := [], alts := [], laidByText := true, laidKinds := [.data, .data, .data, .sentinel, .sentinel], laidTests := true, laidLooks := .later }
def EvalConstantUptoCardSaid : Prop := Claim7.holds Tryz.pinned (.plain (OpenSpec.upto evalConstantSpec)) evalConstantUptoCard

/-- THE SECOND FORM's CARD OF 'quarrylaw16.EvalPart'. -/
def evalPartUptoCard : Claim7 := { stood := { row := evalPartUptoRow, standIns := [], harness := (true, "12724f08bf877fb60e26c72c67996092fbd56fa0a49639b783bf0a00bd710231"), looks := true }, kinds := [], alts := [], laidByText := true, laidKinds := [.data, .data, .data, .sentinel, .sentinel], laidTests := true, laidLooks := .later }
def EvalPartUptoCardSaid : Prop := Claim7.holds Tryz.pinned (.plain (OpenSpec.upto evalPartSpec)) evalPartUptoCard

/-- THE SECOND FORM's CARD OF 'quarrylaw16.EvalDecides'. -/
def evalDecidesUptoCard : Claim7 := { stood := { row := evalDecidesUptoRow, standIns := [], harness := (true, "12724f08bf877fb60e26c72c67996092fbd56fa0a49639b783bf0a00bd710231"), looks := true }, kinds := [], alts := [], laidByText := true, laidKinds := [.data, .data, .data, .sentinel, .sentinel], laidTests := true, laidLooks := .later }
def EvalDecidesUptoCardSaid : Prop := Claim7.holds Tryz.pinned (.plain (OpenSpec.upto evalDecidesSpec)) evalDecidesUptoCard
end Rows
end Go.Proofs.YtbeeaikilcnpgaaGreatDoor
