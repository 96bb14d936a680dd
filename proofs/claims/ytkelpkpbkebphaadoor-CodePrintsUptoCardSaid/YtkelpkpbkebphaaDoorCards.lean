/-
  DERIVED. GIVEN WITH THE SEED: THE CARDS: each row of YtkelpkpbkebphaaDoorRows.lean that lists a variable, with what it lists TIED to the program's text (the seventh form; the later family's looks); each row that meets fmt, with fmt's text TOLD by the authors' own Lean function (tested against real Go, not proved from fmt's source: count such statements apart). THE CARD IS WHAT COUNTS. Prove the row's statement (the work); the ties are given (YtkelpkpbkebphaaDoorTie.lean); close each card by the builder's one call (the guide's Derived/Test/ToyasCard.lean, 'card_holds'). Laid BY PROGRAM, IN A SANDBOX (cutbox-door.mjs). By AI agents, Wed Nov 11 2026. No macro, syntax, notation, axiom, sorry.
-/
import Derived.Test.YtkelpkpbkebphaaDoorRows
import GoSem.ClaimSeven
namespace Go.Proofs.YtkelpkpbkebphaaDoor
namespace Rows

/-- THE TIED CARD OF 'bailiwicklaw18.CodeJoins'. -/
def codeJoinsCard : Claim7 := { stood := { row := codeJoinsRow, standIns := [], harness := (true, "c480cad268c816ad2442fe52e2d1b1e1eb649bfff5e3f3ae4e0fe8ae10892edc"), looks := false }, kinds := [], alts := [], laidByText := true, laidKinds := [.data, .data, .data, .listed, .data], laidTests := true, laidLooks := .later }
def CodeJoinsCardSaid : Prop := Claim7.holds Tryd.pinned (.plain (OpenSpec.ofChange codeJoinsSpec)) codeJoinsCard

/-- THE TIED CARD OF 'bailiwicklaw18.CodeOrders'. -/
def codeOrdersCard : Claim7 := { stood := { row := codeOrdersRow, standIns := [], harness := (true, "c480cad268c816ad2442fe52e2d1b1e1eb649bfff5e3f3ae4e0fe8ae10892edc"), looks := false }, kinds := [], alts := [], laidByText := true, laidKinds := [.data, .data, .data, .listed, .data], laidTests := true, laidLooks := .later }
def CodeOrdersCardSaid : Prop := Claim7.holds Tryd.pinned (.plain (OpenSpec.ofChange codeOrdersSpec)) codeOrdersCard

/-- THE TIED CARD OF 'bailiwicklaw18.CodeCounts'. -/
def codeCountsCard : Claim7 := { stood := { row := codeCountsRow, standIns := [], harness := (true, "c480cad268c816ad2442fe52e2d1b1e1eb649bfff5e3f3ae4e0fe8ae10892edc"), looks := false }, kinds := [], alts := [], laidByText := true, laidKinds := [.data, .data, .data, .listed, .data], laidTests := true, laidLooks := .later }
def CodeCountsCardSaid : Prop := Claim7.holds Tryd.pinned (.plain (OpenSpec.ofChange codeCountsSpec)) codeCountsCard

/-- THE TIED CARD OF 'bailiwicklaw18.CodeJumps'. -/
def codeJumpsCard : Claim7 := { stood := { row := codeJumpsRow, standIns := [], harness := (true, "c480cad268c816ad2442fe52e2d1b1e1eb649bfff5e3f3ae4e0fe8ae10892edc"), looks := false }, kinds := [], alts := [], laidByText := true, laidKinds := [.data, .data, .data, .listed, .data], laidTests := true, laidLooks := .later }
def CodeJumpsCardSaid : Prop := Claim7.holds Tryd.pinned (.plain (OpenSpec.ofChange codeJumpsSpec)) codeJumpsCard

/-- THE TIED CARD OF 'bailiwicklaw18.CodePrints'. -/
def codePrintsCard : Claim7 := { stood := { row := codePrintsRow, standIns := [], harness := (true, "c480cad268c816ad2442fe52e2d1b1e1eb649bfff5e3f3ae4e0fe8ae10892edc"), looks := false }, kinds := [], alts := [], laidByText := true, laidKinds := [.data, .data, .data, .listed, .data], laidTests := true, laidLooks := .later }
def CodePrintsCardSaid : Prop := Claim7.holds Tryd.pinned (.plain (OpenSpec.ofChange codePrintsSpec)) codePrintsCard

/-- THE TIED CARD OF 'bailiwicklaw19.GasOrders'. -/
def gasOrdersCard : Claim7 := { stood := { row := gasOrdersRow, standIns := [], harness := (true, "c480cad268c816ad2442fe52e2d1b1e1eb649bfff5e3f3ae4e0fe8ae10892edc"), looks := false }, kinds := [], alts := [], laidByText := true, laidKinds := [.data, .data, .data, .listed, .data], laidTests := true, laidLooks := .later }
def GasOrdersCardSaid : Prop := Claim7.holds Tryd.pinned (.plain (OpenSpec.ofChange gasOrdersSpec)) gasOrdersCard

/-- THE SECOND FORM's CARD OF 'bailiwicklaw18.CodeJoins'. -/
def codeJoinsUptoCard : Claim7 := { stood := { row := codeJoinsUptoRow, standIns := [], harness := (true, "c480cad268c816ad2442fe52e2d1b1e1eb649bfff5e3f3ae4e0fe8ae10892edc"), looks := false }, kinds := [], alts := [], laidByText := true, laidKinds := [.data, .data, .data, .listed, .data], laidTests := true, laidLooks := .later }
def CodeJoinsUptoCardSaid : Prop := Claim7.holds Tryd.pinned (.plain (OpenSpec.upto codeJoinsSpec)) codeJoinsUptoCard

/-- THE SECOND FORM's CARD OF 'bailiwicklaw18.CodeOrders'. -/
def codeOrdersUptoCard : Claim7 := { stood := { row := codeOrdersUptoRow, standIns := [], harness := (true, "c480cad268c816ad2442fe52e2d1b1e1eb649bfff5e3f3ae4e0fe8ae10892edc"), looks := false }, kinds := [], alts := [], laidByText := true, laidKinds := [.data, .data, .data, .listed, .data], laidTests := true, laidLooks := .later }
def CodeOrdersUptoCardSaid : Prop := Claim7.holds Tryd.pinned (.plain (OpenSpec.upto codeOrdersSpec)) codeOrdersUptoCard

/-- THE SECOND FORM's CARD OF 'bailiwicklaw18.CodeCounts'. -/
def codeCountsUptoCard : Claim7 := { stood := { row := codeCountsUptoRow, standIns := [], harness := (true, "c480cad268c816ad2442fe52e2d1b1e1eb649bfff5e3f3ae4e0fe8ae10892edc"), looks := false }, kinds := [], alts := [], laidByText := true, laidKinds := [.data, .data, .data, .listed, .data], laidTests := true, laidLooks := .later }
def CodeCountsUptoCardSaid : Prop := Claim7.holds Tryd.pinned (.plain (OpenSpec.upto codeCountsSpec)) codeCountsUptoCard

/-- THE SECOND FORM's CARD OF 'bailiwicklaw18.CodeJumps'. -/
def codeJumpsUptoCard : Claim7 := { stood := { row := codeJumpsUptoRow, standIns := [], harness := (true, "c480cad268c816ad2442fe52e2d1b1e1eb649bfff5e3f3ae4e0fe8ae10892edc"), looks := false }, kinds := [], alts := [], laidByText := true, laidKinds := [.data, .data, .data, .listed, .data], laidTests := true, laidLooks := .later }
def CodeJumpsUptoCardSaid : Prop := Claim7.holds Tryd.pinned (.plain (OpenSpec.upto codeJumpsSpec)) codeJumpsUptoCard

/-- THE SECOND FORM's CARD OF 'bailiwicklaw18.CodePrints'. -/
def codePrintsUptoCard : Claim7 := { stood := { row := codePrintsUptoRow, standIns := [], harness := (true, "c480cad268c816ad2442fe52e2d1b1e1eb649bfff5e3f3ae4e0fe8ae10892edc"), looks := false }, kinds := [], alts := [], laidByText := true, laidKinds := [.data, .data, .data, .listed, .data], laidTests := true, laidLooks := .later }
def CodePrintsUptoCardSaid : Prop := Claim7.holds Tryd.pinned (.plain (OpenSpec.upto codePrintsSpec)) codePrintsUptoCard

/-- THE SECOND FORM's CARD OF 'bailiwicklaw19.GasOrders'. -/
def gasOrdersUptoCard : Claim7 := { stood := { row := gasOrdersUptoRow, standIns := [], harness := (true, "c480cad268c816ad2442fe52e2d1b1e1eb649bfff5e3f3ae4e0fe8ae10892edc"), looks := false }, kinds := [], alts := [], laidByText := true, laidKinds := [.data, .data, .data, .listed, .data], laidTests := true, laidLooks := .later }
def GasOrdersUptoCardSaid : Prop := Claim7.holds Tryd.pinned (.plain (OpenSpec.upto gasOrdersSpec)) gasOrdersUptoCard
end Rows
end Go.Proofs.YtkelpkpbkebphaaDoor
