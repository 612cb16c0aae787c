/-
  DERIVED. GIVEN WITH THE SEED: THE CARDS: each row of YtkgmgjiomniijaaGreatDoorRows.lean that lists a variable, with what it lists TIED to the program's text (the seventh form; the later family's looks); each row that meets fmt, with fmt's text TOLD by the authors' own Lean function (tested against real Go, not proved from fmt's source: count such statements apart). THE CARD IS WHAT COUNTS. Prove the row's statement (the work); the ties are given (YtkgmgjiomniijaaGreatDoorTie.lean); close each card by the builder's one call (the guide's Derived/Test/ToyasCard.lean, 'card_holds'). Laid BY PROGRAM, IN A SANDBOX (cutbox-door.mjs). By AI agents, Wed Nov 11 2026. No macro, syntax, notation, axiom, sorry.
-/
import Derived.Test.YtkgmgjiomniijaaGreatDoorRows
import GoSem.ClaimSeven
namespace Go.Proofs.YtkgmgjiomniijaaGreatDoor
namespace Rows

/-- THE TIED CARD OF 'lariatlaw09.ProofHolds'. -/
def proofHoldsCard : Claim7 := { stood := { row := proofHoldsRow, standIns := [], harness := (true, "f6ba5a3d1505bae4c1a905c0af7d8b517cdff923d8c12b3d90653a5ef82f88e4"), looks := false }, kinds := [], alts := [], laidByText := true, laidKinds := [.data, .data, .data], laidTests := true, laidLooks := .later }
def ProofHoldsCardSaid : Prop := Claim7.holds Tryz.pinned (.plain (OpenSpec.ofChange proofHoldsSpec)) proofHoldsCard

/-- THE TIED CARD OF 'lariatlaw09.ProofResolves'. -/
def proofResolvesCard : Claim7 := { stood := { row := proofResolvesRow, standIns := [], harness := (true, "f6ba5a3d1505bae4c1a905c0af7d8b517cdff923d8c12b3d90653a5ef82f88e4"), looks := false }, kinds := [], alts := [], laidByText := true, laidKinds := [.data, .data, .data], laidTests := true, laidLooks := .later }
def ProofResolvesCardSaid : Prop := Claim7.holds Tryz.pinned (.plain (OpenSpec.ofChange proofResolvesSpec)) proofResolvesCard

/-- THE TIED CARD OF 'lariatlaw09.ProofNames'. -/
def proofNamesCard : Claim7 := { stood := { row := proofNamesRow, standIns := [], harness := (true, "f6ba5a3d1505bae4c1a905c0af7d8b517cdff923d8c12b3d90653a5ef82f88e4"), looks := false }, kinds := [], alts := [], laidByText := true, laidKinds := [.data, .data, .data], laidTests := true, laidLooks := .later }
def ProofNamesCardSaid : Prop := Claim7.holds Tryz.pinned (.plain (OpenSpec.ofChange proofNamesSpec)) proofNamesCard

/-- THE SECOND FORM's CARD OF 'lariatlaw09.ProofHolds'. -/
def proofHoldsUptoCard : Claim7 := { stood := { row := proofHoldsUptoRow, standIns := [], harness := (true, "f6ba5a3d1505bae4c1a905c0af7d8b517cdff923d8c12b3d90653a5ef82f88e4"), looks := false }, kinds := [], alts := [], laidByText := true, laidKinds := [.data, .data, .data], laidTests := true, laidLooks := .later }
def ProofHoldsUptoCardSaid : Prop := Claim7.holds Tryz.pinned (.plain (OpenSpec.upto proofHoldsSpec)) proofHoldsUptoCard

/-- THE SECOND FORM's CARD OF 'lariatlaw09.ProofResolves'. -/
def proofResolvesUptoCard : Claim7 := { stood := { row := proofResolvesUptoRow, standIns := [], harness := (true, "f6ba5a3d1505bae4c1a905c0af7d8b517cdff923d8c12b3d90653a5ef82f88e4"), looks := false }, kinds := [], alts := [], laidByText := true, laidKinds := [.data, .data, .data], laidTests := true, laidLooks := .later }
def ProofResolvesUptoCardSaid : Prop := Claim7.holds Tryz.pinned (.plain (OpenSpec.upto proofResolvesSpec)) proofResolvesUptoCard

/-- THE SECOND FORM's CARD OF 'lariatlaw09.ProofNames'. -/
def proofNamesUptoCard : Claim7 := { stood := { row := proofNamesUptoRow, standIns := [], harness := (true, "f6ba5a3d1505bae4c1a905c0af7d8b517cdff923d8c12b3d90653a5ef82f88e4"), looks := false }, kinds := [], alts := [], laidByText := true, laidKinds := [.data, .data, .data], laidTests := true, laidLooks := .later }
def ProofNamesUptoCardSaid : Prop := Claim7.holds Tryz.pinned (.plain (OpenSpec.upto proofNamesSpec)) proofNamesUptoCard
end Rows
end Go.Proofs.YtkgmgjiomniijaaGreatDoor
