/-
  DERIVED. GIVEN WITH THE SEED: THE CARDS: each row of YtfpmapbimhdafaaGreatDoorRows.lean that lists a variable, with what it lists TIED to the program's text (the seventh form; the later family's looks); each row that meets fmt, with fmt's text TOLD by the authors' own Lean function (tested against real Go, not proved from fmt's source: count such statements apart). THE CARD IS WHAT COUNTS. Prove the row's statement (the work); the ties are given (YtfpmapbimhdafaaGreatDoorTie.lean); close each card by the builder's one call (the guide's Derived/Test/ToyasCard.lean, 'card_holds'). Laid BY PROGRAM, IN A SANDBOX (cutbox-door.mjs). By AI agents, Wed Nov 11 2026. No macro, syntax, notation, axiom, sorry.
-/
import Derived.Test.YtfpmapbimhdafaaGreatDoorRows
import GoSem.ClaimSeven
namespace Go.Proofs.YtfpmapbimhdafaaGreatDoor
namespace Rows

/-- THE TIED CARD OF 'collatorlaw13.EvalAll'. -/
def evalAllCard : Claim7 := { stood := { row := evalAllRow, standIns := [], harness := (true, "e72ce378c53377c41412adf1bfdef50a33b648048e97ed2bff11a00bf80e8491"), looks := false }, kinds := [], alts := [], laidByText := true, laidKinds := [.data, .data, .data], laidTests := true, laidLooks := .later }
def EvalAllCardSaid : Prop := Claim7.holds Tryz.pinned (.plain (OpenSpec.ofChange evalAllSpec)) evalAllCard

/-- THE TIED CARD OF 'collatorlaw13.EvalRows'. -/
def evalRowsCard : Claim7 := { stood := { row := evalRowsRow, standIns := [], harness := (true, "e72ce378c53377c41412adf1bfdef50a33b648048e97ed2bff11a00bf80e8491"), looks := false }, kinds := [], alts := [], laidByText := true, laidKinds := [.data, .data, .data], laidTests := true, laidLooks := .later }
def EvalRowsCardSaid : Prop := Claim7.holds Tryz.pinned (.plain (OpenSpec.ofChange evalRowsSpec)) evalRowsCard

/-- THE TIED CARD OF 'collatorlaw13.EvalTerms'. -/
def evalTermsCard : Claim7 := { stood := { row := evalTermsRow, standIns := [], harness := (true, "e72ce378c53377c41412adf1bfdef50a33b648048e97ed2bff11a00bf80e8491"), looks := false }, kinds := [], alts := [], laidByText := true, laidKinds := [.data, .data, .data], laidTests := true, laidLooks := .later }
def EvalTermsCardSaid : Prop := Claim7.holds Tryz.pinned (.plain (OpenSpec.ofChange evalTermsSpec)) evalTermsCard

/-- THE TIED CARD OF 'collatorlaw13.EvalElse'. -/
def evalElseCard : Claim7 := { stood := { row := evalElseRow, standIns := [], harness := (true, "e72ce378c53377c41412adf1bfdef50a33b648048e97ed2bff11a00bf80e8491"), looks := false }, kinds := [], alts := [], laidByText := true, laidKinds := [.data, .data, .data], laidTests := true, laidLooks := .later }
def EvalElseCardSaid : Prop := Claim7.holds Tryz.pinned (.plain (OpenSpec.ofChange evalElseSpec)) evalElseCard

/-- THE SECOND FORM's CARD OF 'collatorlaw13.EvalAll'. -/
def evalAllUptoCard : Claim7 := { stood := { row := evalAllUptoRow, standIns := [], harness := (true, "e72ce378c53377c41412adf1bfdef50a33b648048e97ed2bff11a00bf80e8491"), looks := false }, kinds := [], alts := [], laidByText := true, laidKinds := [.data, .data, .data], laidTests := true, laidLooks := .later }
def EvalAllUptoCardSaid : Prop := Claim7.holds Tryz.pinned (.plain (OpenSpec.upto evalAllSpec)) evalAllUptoCard

/-- THE SECOND FORM's CARD OF 'collatorlaw13.EvalRows'. -/
def evalRowsUptoCard : Claim7 := { stood := { row := evalRowsUptoRow, standIns := [], harness := (true, "e72ce378c53377c41412adf1bfdef50a33b648048e97ed2bff11a00bf80e8491"), looks := false }, kinds := [], alts := [], laidByText := true, laidKinds := [.data, .data, .data], laidTests := true, laidLooks := .later }
def EvalRowsUptoCardSaid : Prop := Claim7.holds Tryz.pinned (.plain (OpenSpec.upto evalRowsSpec)) evalRowsUptoCard

/-- THE SECOND FORM's CARD OF 'collatorlaw13.EvalTerms'. -/
def evalTermsUptoCard : Claim7 := { stood := { row := evalTermsUptoRow, standIns := [], harness := (true, "e72ce378c53377c41412adf1bfdef50a33b648048e97ed2bff11a00bf80e8491"), looks := false }, kinds := [], alts := [], laidByText := true, laidKinds := [.data, .data, .data], laidTests := true, laidLooks := .later }
def EvalTermsUptoCardSaid : Prop := Claim7.holds Tryz.pinned (.plain (OpenSpec.upto evalTermsSpec)) evalTermsUptoCard

/-- THE SECOND FORM's CARD OF 'collatorlaw13.EvalElse'. -/
def evalElseUptoCard : Claim7 := { stood := { row := evalElseUptoRow, standIns := [], harness := (true, "e72ce378c53377c41412adf1bfdef50a33b648048e97ed2bff11a00bf80e8491"), looks := false }, kinds := [], alts := [], laidByText := true, laidKinds := [.data, .data, .data], laidTests := true, laidLooks := .later }
def EvalElseUptoCardSaid : Prop := Claim7.holds Tryz.pinned (.plain (OpenSpec.upto evalElseSpec)) evalElseUptoCard
end Rows
end Go.Proofs.YtfpmapbimhdafaaGreatDoor
