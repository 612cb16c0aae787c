/-
  No cell of these rows narrows 'for every input' (looked for: loops, veiled, ifaces, maps, wideKeys, modest, calm, conditions, laid).
  DERIVED. THE GIVEN ROWS OF THIS SEAT. 4 by the template 'for every input the law returns true; each argument reads behind the call as it read before'; 0 by the template 'total and deterministic' (their statements: YtkffnafmbbpgpaaTotals.lean).
  GIVEN WITH THE SEED: the statements are not yours to turn. If you find one false, say at which input.
  Laid BY PROGRAM, IN A SANDBOX (cutbox-rows.mjs): the forced cells as the released guide's own fill.sh prints them over the translation 5d3679d432e6add5… (all of the seat's roots in one cut). By AI agents, Wed Nov 11 2026. No macro, syntax, notation, axiom, sorry.
-/
import Derived.Test.YtkffnafmbbpgpaaChecked
import GoSem.Claim
import GoSem.ClaimJoined
import GoSem.ClaimMapViews
import Derived.JoinedTies
import Derived.KernelRfl
namespace Go.Proofs.Ytkffnafmbbpgpaa
/- THE CELL 'sum', in the pinned program and in every row, IS THE sha256 OF THE DUMP (.gsa) THAT YtkffnafmbbpgpaaProg.lean LOADS. Nothing in Lean hashes anything: it is a label: what it is worth is what the hold of that sum in a sandbox is worth. -/
noncomputable def Try.pinned : Pinned := { name := "ytkffnafmbbpgpaa", sum := "5d3679d432e6add5a39c512fc8a60d7c222951476591348db497499a0765f17d", checked := Try.checked }
namespace Rows
def none {H : Type} : Left H := { results := [], args := [] }

/-- 'lariatlaw04.TrailNames': WHATEVER THE INPUT: true; the input reads as it did. -/
def trailNamesSpec : ChangeSpec := { name := "trailNames", fn := fun _ => fun
  | [] => { results := [.lit (.bool true)], args := [] }
  | _ => none }
def trailNamesRow : OpenClaim := { program := "ytkffnafmbbpgpaa", sum := "5d3679d432e6add5a39c512fc8a60d7c222951476591348db497499a0765f17d", func := "lariat/lariatlaw04.TrailNames", spec := "trailNames", apart := false }
def TrailNamesSaid : Prop := trailNamesRow.holds Try.pinned (OpenSpec.ofChange trailNamesSpec)

/-- ITS FALSE NEIGHBOUR: 'it returns false'. Refute it at one input. -/
def trailNamesWrong : ChangeSpec := { name := "trailNames", fn := fun _ => fun
  | [] => { results := [.lit (.bool false)], args := [] }
  | _ => none }
def TrailNamesWrongFalsely : Prop := trailNamesRow.holds Try.pinned (OpenSpec.ofChange trailNamesWrong)

/-- 'lariatlaw04.TrailBack': WHATEVER THE INPUT: true; the input reads as it did. -/
def trailBackSpec : ChangeSpec := { name := "trailBack", fn := fun _ => fun
  | [d1, d2] => { results := [.lit (.bool true)], args := [d1, d2] }
  | _ => none }
def trailBackRow : OpenClaim := { program := "ytkffnafmbbpgpaa", sum := "5d3679d432e6add5a39c512fc8a60d7c222951476591348db497499a0765f17d", func := "lariat/lariatlaw04.TrailBack", spec := "trailBack", apart := false }
def TrailBackSaid : Prop := trailBackRow.holds Try.pinned (OpenSpec.ofChange trailBackSpec)

/-- ITS FALSE NEIGHBOUR: 'it returns false'. Refute it at one input. -/
def trailBackWrong : ChangeSpec := { name := "trailBack", fn := fun _ => fun
  | [d1, d2] => { results := [.lit (.bool false)], args := [d1, d2] }
  | _ => none }
def TrailBackWrongFalsely : Prop := trailBackRow.holds Try.pinned (OpenSpec.ofChange trailBackWrong)

/-- 'lariatlaw04.TrailLevels': WHATEVER THE INPUT: true; the input reads as it did. -/
def trailLevelsSpec : ChangeSpec := { name := "trailLevels", fn := fun _ => fun
  | [d] => { results := [.lit (.bool true)], args := [d] }
  | _ => none }
def trailLevelsRow : OpenClaim := { program := "ytkffnafmbbpgpaa", sum := "5d3679d432e6add5a39c512fc8a60d7c222951476591348db497499a0765f17d", func := "lariat/lariatlaw04.TrailLevels", spec := "trailLevels", apart := false }
def TrailLevelsSaid : Prop := trailLevelsRow.holds Try.pinned (OpenSpec.ofChange trailLevelsSpec)

/-- ITS FALSE NEIGHBOUR: 'it returns false'. Refute it at one input. -/
def trailLevelsWrong : ChangeSpec := { name := "trailLevels", fn := fun _ => fun
  | [d] => { results := [.lit (.bool false)], args := [d] }
  | _ => none }
def TrailLevelsWrongFalsely : Prop := trailLevelsRow.holds Try.pinned (OpenSpec.ofChange trailLevelsWrong)

/-- 'lariatlaw04.TrailRuns': WHATEVER THE INPUT: true; the input reads as it did. -/
def trailRunsSpec : ChangeSpec := { name := "trailRuns", fn := fun _ => fun
  | [d1, d2] => { results := [.lit (.bool true)], args := [d1, d2] }
  | _ => none }
def trailRunsRow : OpenClaim := { program := "ytkffnafmbbpgpaa", sum := "5d3679d432e6add5a39c512fc8a60d7c222951476591348db497499a0765f17d", func := "lariat/lariatlaw04.TrailRuns", spec := "trailRuns", apart := false }
def TrailRunsSaid : Prop := trailRunsRow.holds Try.pinned (OpenSpec.ofChange trailRunsSpec)

/-- ITS FALSE NEIGHBOUR: 'it returns false'. Refute it at one input. -/
def trailRunsWrong : ChangeSpec := { name := "trailRuns", fn := fun _ => fun
  | [d1, d2] => { results := [.lit (.bool false)], args := [d1, d2] }
  | _ => none }
def TrailRunsWrongFalsely : Prop := trailRunsRow.holds Try.pinned (OpenSpec.ofChange trailRunsWrong)

/- THE SECOND FORM. 'bulk': how many values and letters a reading holds, each counted each time it is reached (what is shared counts as often as it is met; a slice's spare places count too). A statement '..UptoSaid' is the law's where the arguments, and the package variables that the reading takes, are together of bulk at most 1048576: NARROWER than '..Said'. Prove '..Said' where nothing that the law and all that it calls make is longer than what came in: it says more and counts as full. Else prove '..UptoSaid'. A law counts once. -/
mutual
def uptoBulk {H : Type} : DataW H → Nat
  | .lit (.string bytes) => bytes.length + 1
  | .lit _ => 1
  | .nil => 1
  | .ptr d => uptoBulk d + 1
  | .slice elems spare => uptoBulkAll elems + uptoBulkAll spare + 1
  | .agg parts => uptoBulkAll parts + 1
  | .iface _ d => uptoBulk d + 1
  | .map entries => uptoBulkEntries entries + 1
  | .held _ => 1
def uptoBulkAll {H : Type} : List (DataW H) → Nat
  | [] => 0
  | d :: r => uptoBulk d + uptoBulkAll r
def uptoBulkEntries {H : Type} : List (Lit × DataW H) → Nat
  | [] => 0
  | x :: r => uptoBulkEntry x + uptoBulkEntries r
def uptoBulkEntry {H : Type} : Lit × DataW H → Nat
  | (.string bytes, d) => bytes.length + uptoBulk d + 1
  | (_, d) => uptoBulk d + 1
 end
def uptoSmall : (H : Type) → List (DataW H) → Bool := fun _ ds => decide (uptoBulkAll ds ≤ 1048576)
def OpenSpec.upto (s : _root_.Go.ChangeSpec) : _root_.Go.OpenSpec := { _root_.Go.OpenSpec.ofChange s with cond := some uptoSmall }

/-- 'lariatlaw04.TrailNames', WHERE WHAT IT READS IS OF BULK AT MOST 1048576: true; the input reads as it did. -/
def trailNamesUptoRow : OpenClaim := { program := "ytkffnafmbbpgpaa", sum := "5d3679d432e6add5a39c512fc8a60d7c222951476591348db497499a0765f17d", func := "lariat/lariatlaw04.TrailNames", spec := "trailNames", apart := false, narrowed := true }
def TrailNamesUptoSaid : Prop := trailNamesUptoRow.holds Try.pinned (OpenSpec.upto trailNamesSpec)

/-- 'lariatlaw04.TrailBack', WHERE WHAT IT READS IS OF BULK AT MOST 1048576: true; the input reads as it did. -/
def trailBackUptoRow : OpenClaim := { program := "ytkffnafmbbpgpaa", sum := "5d3679d432e6add5a39c512fc8a60d7c222951476591348db497499a0765f17d", func := "lariat/lariatlaw04.TrailBack", spec := "trailBack", apart := false, narrowed := true }
def TrailBackUptoSaid : Prop := trailBackUptoRow.holds Try.pinned (OpenSpec.upto trailBackSpec)

/-- 'lariatlaw04.TrailLevels', WHERE WHAT IT READS IS OF BULK AT MOST 1048576: true; the input reads as it did. -/
def trailLevelsUptoRow : OpenClaim := { program := "ytkffnafmbbpgpaa", sum := "5d3679d432e6add5a39c512fc8a60d7c222951476591348db497499a0765f17d", func := "lariat/lariatlaw04.TrailLevels", spec := "trailLevels", apart := false, narrowed := true }
def TrailLevelsUptoSaid : Prop := trailLevelsUptoRow.holds Try.pinned (OpenSpec.upto trailLevelsSpec)

/-- 'lariatlaw04.TrailRuns', WHERE WHAT IT READS IS OF BULK AT MOST 1048576: true; the input reads as it did. -/
def trailRunsUptoRow : OpenClaim := { program := "ytkffnafmbbpgpaa", sum := "5d3679d432e6add5a39c512fc8a60d7c222951476591348db497499a0765f17d", func := "lariat/lariatlaw04.TrailRuns", spec := "trailRuns", apart := false, narrowed := true }
def TrailRunsUptoSaid : Prop := trailRunsUptoRow.holds Try.pinned (OpenSpec.upto trailRunsSpec)

end Rows
end Go.Proofs.Ytkffnafmbbpgpaa
