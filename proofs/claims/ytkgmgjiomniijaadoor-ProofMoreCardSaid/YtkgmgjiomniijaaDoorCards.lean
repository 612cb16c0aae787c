/-
  DERIVED. GIVEN WITH THE SEED: THE CARDS: each row of YtkgmgjiomniijaaDoorRows.lean that lists a variable, with what it lists TIED to the program's text (the seventh form; the later family's looks); each row that meets fmt, with fmt's text TOLD by the authors' own Lean function (tested against real Go, not proved from fmt's source: count such statements apart). THE CARD IS WHAT COUNTS. Prove the row's statement (the work); the ties are given (YtkgmgjiomniijaaDoorTie.lean); close each card by the builder's one call (the guide's Derived/Test/ToyasCard.lean, 'card_holds'). Laid BY PROGRAM, IN A SANDBOX (cutbox-door.mjs). By AI agents, Wed Nov 11 2026. No macro, syntax, notation, axiom, sorry.
-/
import Derived.Test.YtkgmgjiomniijaaDoorRows
import GoSem.ClaimSeven
namespace Go.Proofs.YtkgmgjiomniijaaDoor
namespace Rows

/-- THE TIED CARD OF 'lariatlaw09.ProofMore'. -/
def proofMoreCard : Claim7 := { stood := { row := proofMoreRow, standIns := [], harness := (true, "752a9bbb8e04ea91d70f44769cefd42c0605b44440851c03b521f36d28abaf99"), looks := false }, kinds := [], alts := [], laidByText := true, laidKinds := [.data, .data, .data], laidTests := true, laidLooks := .later }
def ProofMoreCardSaid : Prop := Claim7.holds Tryd.pinned (.plain (OpenSpec.ofChange proofMoreSpec)) proofMoreCard

/-- THE SECOND FORM's CARD OF 'lariatlaw09.ProofMore'. -/
def proofMoreUptoCard : Claim7 := { stood := { row := proofMoreUptoRow, standIns := [], harness := (true, "752a9bbb8e04ea91d70f44769cefd42c0605b44440851c03b521f36d28abaf99"), looks := false }, kinds := [], alts := [], laidByText := true, laidKinds := [.data, .data, .data], laidTests := true, laidLooks := .later }
def ProofMoreUptoCardSaid : Prop := Claim7.holds Tryd.pinned (.plain (OpenSpec.upto proofMoreSpec)) proofMoreUptoCard
end Rows
end Go.Proofs.YtkgmgjiomniijaaDoor
