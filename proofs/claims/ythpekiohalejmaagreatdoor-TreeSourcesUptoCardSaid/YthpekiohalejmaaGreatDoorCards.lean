/-
  DERIVED. GIVEN WITH THE SEED: THE CARDS: each row of YthpekiohalejmaaGreatDoorRows.lean that lists a variable, with what it lists TIED to the program's text (the seventh form; the later family's looks); each row that meets fmt, with fmt's text TOLD by the authors' own Lean function (tested against real Go, not proved from fmt's source: count such statements apart). THE CARD IS WHAT COUNTS. Prove the row's statement (the work); the ties are given (YthpekiohalejmaaGreatDoorTie.lean); close each card by the builder's one call (the guide's Derived/Test/ToyasCard.lean, 'card_holds'). Laid BY PROGRAM, IN A SANDBOX (cutbox-door.mjs). By AI agents, Wed Nov 11 2026. No macro, syntax, notation, axiom, sorry.
-/
import Derived.Test.YthpekiohalejmaaGreatDoorRows
import GoSem.ClaimSeven
namespace Go.Proofs.YthpekiohalejmaaGreatDoor
namespace Rows

/-- THE TIED CARD OF 'lariatlaw14.TreeSources'. -/
def treeSourcesCard : Claim7 := { stood := { row := treeSourcesRow, standIns := [], harness := (true, "3aeca5dd144aa1e88526e78d03ac8da245977585613e3f68460475a7d47bb9d9"), looks := false }, kinds := [], alts := [], laidByText := true, laidKinds := [.data, .data, .data], laidTests := true, laidLooks := .later }
def TreeSourcesCardSaid : Prop := Claim7.holds Tryz.pinned (.plain (OpenSpec.ofChange treeSourcesSpec)) treeSourcesCard

/-- THE SECOND FORM's CARD OF 'lariatlaw14.TreeSources'. -/
def treeSourcesUptoCard : Claim7 := { stood := { row := treeSourcesUptoRow, standIns := [], harness := (true, "3aeca5dd144aa1e88526e78d03ac8da245977585613e3f68460475a7d47bb9d9"), looks := false }, kinds := [], alts := [], laidByText := true, laidKinds := [.data, .data, .data], laidTests := true, laidLooks := .later }
def TreeSourcesUptoCardSaid : Prop := Claim7.holds Tryz.pinned (.plain (OpenSpec.upto treeSourcesSpec)) treeSourcesUptoCard
end Rows
end Go.Proofs.YthpekiohalejmaaGreatDoor
