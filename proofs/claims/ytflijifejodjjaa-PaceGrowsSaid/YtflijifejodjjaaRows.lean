/-
  No cell of these rows narrows 'for every input' (looked for: loops, veiled, ifaces, maps, wideKeys, modest, calm, conditions, laid).
  DERIVED. THE GIVEN ROWS OF THIS SEAT. 5 by the template 'for every input the law returns true; each argument reads behind the call as it read before'; 0 by the template 'total and deterministic' (their statements: YtflijifejodjjaaTotals.lean).
  GIVEN WITH THE SEED: the statements are not yours to turn. If you find one false, say at which input.
  Laid BY PROGRAM, IN A SANDBOX (cutbox-rows.mjs): the forced cells as the released guide's own fill.sh prints them over the translation bea2dce3beb52a72… (all of the seat's roots in one cut). By AI agents, Wed Nov 11 2026. No macro, syntax, notation, axiom, sorry.
-/
import Derived.Test.YtflijifejodjjaaChecked
import GoSem.Claim
import GoSem.ClaimJoined
import GoSem.ClaimMapViews
import Derived.JoinedTies
import Derived.KernelRfl
namespace Go.Proofs.Ytflijifejodjjaa
/- THE CELL 'sum', in the pinned program and in every row, IS THE sha256 OF THE DUMP (.gsa) THAT YtflijifejodjjaaProg.lean LOADS. Nothing in Lean hashes anything: it is a label: what it is worth is what the hold of that sum in a sandbox is worth. -/
noncomputable def Try.pinned : Pinned := { name := "ytflijifejodjjaa", sum := "bea2dce3beb52a7213a0c1ba15195c77de762ba39a3ed91b530705aa162d57cc", checked := Try.checked }
namespace Rows
def none {H : Type} : Left H := { results := [], args := [] }

/-- 'lariatlaw07.PaceNames': WHATEVER THE INPUT: true; the input reads as it did. -/
def paceNamesSpec : ChangeSpec := { name := "paceNames", fn := fun _ => fun
  | [] => { results := [.lit (.bool true)], args := [] }
  | _ => none }
def paceNamesRow : OpenClaim := { program := "ytflijifejodjjaa", sum := "bea2dce3beb52a7213a0c1ba15195c77de762ba39a3ed91b530705aa162d57cc", func := "lariat/lariatlaw07.PaceNames", spec := "paceNames", unfollowed := true, recurses := true, apart := false }
def PaceNamesSaid : Prop := paceNamesRow.holds Try.pinned (OpenSpec.ofChange paceNamesSpec)

/-- ITS FALSE NEIGHBOUR: 'it returns false'. Refute it at one input. -/
def paceNamesWrong : ChangeSpec := { name := "paceNames", fn := fun _ => fun
  | [] => { results := [.lit (.bool false)], args := [] }
  | _ => none }
def PaceNamesWrongFalsely : Prop := paceNamesRow.holds Try.pinned (OpenSpec.ofChange paceNamesWrong)

/-- 'lariatlaw07.PaceGrows': WHATEVER THE INPUT: true; the input reads as it did. -/
def paceGrowsSpec : ChangeSpec := { name := "paceGrows", fn := fun _ => fun
  | [d1, d2] => { results := [.lit (.bool true)], args := [d1, d2] }
  | _ => none }
def paceGrowsRow : OpenClaim := { program := "ytflijifejodjjaa", sum := "bea2dce3beb52a7213a0c1ba15195c77de762ba39a3ed91b530705aa162d57cc", func := "lariat/lariatlaw07.PaceGrows", spec := "paceGrows", unfollowed := true, recurses := true, apart := false }
def PaceGrowsSaid : Prop := paceGrowsRow.holds Try.pinned (OpenSpec.ofChange paceGrowsSpec)

/-- ITS FALSE NEIGHBOUR: 'it returns false'. Refute it at one input. -/
def paceGrowsWrong : ChangeSpec := { name := "paceGrows", fn := fun _ => fun
  | [d1, d2] => { results := [.lit (.bool false)], args := [d1, d2] }
  | _ => none }
def PaceGrowsWrongFalsely : Prop := paceGrowsRow.holds Try.pinned (OpenSpec.ofChange paceGrowsWrong)

/-- 'lariatlaw07.PaceAdds': WHATEVER THE INPUT: true; the input reads as it did. -/
def paceAddsSpec : ChangeSpec := { name := "paceAdds", fn := fun _ => fun
  | [d] => { results := [.lit (.bool true)], args := [d] }
  | _ => none }
def paceAddsRow : OpenClaim := { program := "ytflijifejodjjaa", sum := "bea2dce3beb52a7213a0c1ba15195c77de762ba39a3ed91b530705aa162d57cc", func := "lariat/lariatlaw07.PaceAdds", spec := "paceAdds", unfollowed := true, recurses := true, apart := false }
def PaceAddsSaid : Prop := paceAddsRow.holds Try.pinned (OpenSpec.ofChange paceAddsSpec)

/-- ITS FALSE NEIGHBOUR: 'it returns false'. Refute it at one input. -/
def paceAddsWrong : ChangeSpec := { name := "paceAdds", fn := fun _ => fun
  | [d] => { results := [.lit (.bool false)], args := [d] }
  | _ => none }
def PaceAddsWrongFalsely : Prop := paceAddsRow.holds Try.pinned (OpenSpec.ofChange paceAddsWrong)

/-- 'lariatlaw07.PaceRuns': WHATEVER THE INPUT: true; the input reads as it did. -/
def paceRunsSpec : ChangeSpec := { name := "paceRuns", fn := fun _ => fun
  | [d1, d2, d3] => { results := [.lit (.bool true)], args := [d1, d2, d3] }
  | _ => none }
def paceRunsRow : OpenClaim := { program := "ytflijifejodjjaa", sum := "bea2dce3beb52a7213a0c1ba15195c77de762ba39a3ed91b530705aa162d57cc", func := "lariat/lariatlaw07.PaceRuns", spec := "paceRuns", unfollowed := true, recurses := true, apart := false }
def PaceRunsSaid : Prop := paceRunsRow.holds Try.pinned (OpenSpec.ofChange paceRunsSpec)

/-- ITS FALSE NEIGHBOUR: 'it returns false'. Refute it at one input. -/
def paceRunsWrong : ChangeSpec := { name := "paceRuns", fn := fun _ => fun
  | [d1, d2, d3] => { results := [.lit (.bool false)], args := [d1, d2, d3] }
  | _ => none }
def PaceRunsWrongFalsely : Prop := paceRunsRow.holds Try.pinned (OpenSpec.ofChange paceRunsWrong)

/-- 'lariatlaw07.PaceTells': WHATEVER THE INPUT: true; the input reads as it did. -/
def paceTellsSpec : ChangeSpec := { name := "paceTells", fn := fun _ => fun
  | [d1, d2, d3] => { results := [.lit (.bool true)], args := [d1, d2, d3] }
  | _ => none }
def paceTellsRow : OpenClaim := { program := "ytflijifejodjjaa", sum := "bea2dce3beb52a7213a0c1ba15195c77de762ba39a3ed91b530705aa162d57cc", func := "lariat/lariatlaw07.PaceTells", spec := "paceTells", inPlace := ["math/bits.Add64"], unfollowed := true, recurses := true, apart := false }
def PaceTellsSaid : Prop := paceTellsRow.holds Try.pinned (OpenSpec.ofChange paceTellsSpec)

/-- ITS FALSE NEIGHBOUR: 'it returns false'. Refute it at one input. -/
def paceTellsWrong : ChangeSpec := { name := "paceTells", fn := fun _ => fun
  | [d1, d2, d3] => { results := [.lit (.bool false)], args := [d1, d2, d3] }
  | _ => none }
def PaceTellsWrongFalsely : Prop := paceTellsRow.holds Try.pinned (OpenSpec.ofChange paceTellsWrong)

/- THE SECOND FORM. 'bulk': how many values and letters a reading holds, each counted each time it is reached (what is shared counts as often as it is met; a slice's spare places count too). A statement '..UptoSaid' is the law's where the arguments, and the package variables that the reading takes, are together of bulk at most 1048576: NARROWER than '..Said'. Prove '..Said' where nothing that the law and all that it calls make is longer than what came in: it says more and counts as full. Else prove '..UptoSaid'. A law counts once. -/
mutual
def uptoBulk {H : Type} : DataW H → Nat
  | .lit (.string bytes) => bytes.length + 1
  | .lit _ => 1
  | .nil => 1
  | .ptr d => uptoBulk d + 1
  | .slice elems spare => uptoBulkAll elems + uptoBulkAll spare + 1
  | .agg parts => uptoBulkAll parts + 1
  | .iface _ d => uptoBulk d + 1
  | .map entries => uptoBulkEntries entries + 1
  | .held _ => 1
def uptoBulkAll {H : Type} : List (DataW H) → Nat
  | [] => 0
  | d :: r => uptoBulk d + uptoBulkAll r
def uptoBulkEntries {H : Type} : List (Lit × DataW H) → Nat
  | [] => 0
  | x :: r => uptoBulkEntry x + uptoBulkEntries r
def uptoBulkEntry {H : Type} : Lit × DataW H → Nat
  | (.string bytes, d) => bytes.length + uptoBulk d + 1
  | (_, d) => uptoBulk d + 1
 end
def uptoSmall : (H : Type) → List (DataW H) → Bool := fun _ ds => decide (uptoBulkAll ds ≤ 1048576)
def OpenSpec.upto (s : _root_.Go.ChangeSpec) : _root_.Go.OpenSpec := { _root_.Go.OpenSpec.ofChange s with cond := some uptoSmall }

/-- 'lariatlaw07.PaceNames', WHERE WHAT IT READS IS OF BULK AT MOST 1048576: true; the input reads as it did. -/
def paceNamesUptoRow : OpenClaim := { program := "ytflijifejodjjaa", sum := "bea2dce3beb52a7213a0c1ba15195c77de762ba39a3ed91b530705aa162d57cc", func := "lariat/lariatlaw07.PaceNames", spec := "paceNames", unfollowed := true, recurses := true, apart := false, narrowed := true }
def PaceNamesUptoSaid : Prop := paceNamesUptoRow.holds Try.pinned (OpenSpec.upto paceNamesSpec)

/-- 'lariatlaw07.PaceGrows', WHERE WHAT IT READS IS OF BULK AT MOST 1048576: true; the input reads as it did. -/
def paceGrowsUptoRow : OpenClaim := { program := "ytflijifejodjjaa", sum := "bea2dce3beb52a7213a0c1ba15195c77de762ba39a3ed91b530705aa162d57cc", func := "lariat/lariatlaw07.PaceGrows", spec := "paceGrows", unfollowed := true, recurses := true, apart := false, narrowed := true }
def PaceGrowsUptoSaid : Prop := paceGrowsUptoRow.holds Try.pinned (OpenSpec.upto paceGrowsSpec)

/-- 'lariatlaw07.PaceAdds', WHERE WHAT IT READS IS OF BULK AT MOST 1048576: true; the input reads as it did. -/
def paceAddsUptoRow : OpenClaim := { program := "ytflijifejodjjaa", sum := "bea2dce3beb52a7213a0c1ba15195c77de762ba39a3ed91b530705aa162d57cc", func := "lariat/lariatlaw07.PaceAdds", spec := "paceAdds", unfollowed := true, recurses := true, apart := false, narrowed := true }
def PaceAddsUptoSaid : Prop := paceAddsUptoRow.holds Try.pinned (OpenSpec.upto paceAddsSpec)

/-- 'lariatlaw07.PaceRuns', WHERE WHAT IT READS IS OF BULK AT MOST 1048576: true; the input reads as it did. -/
def paceRunsUptoRow : OpenClaim := { program := "ytflijifejodjjaa", sum := "bea2dce3beb52a7213a0c1ba15195c77de762ba39a3ed91b530705aa162d57cc", func := "lariat/lariatlaw07.PaceRuns", spec := "paceRuns", unfollowed := true, recurses := true, apart := false, narrowed := true }
def PaceRunsUptoSaid : Prop := paceRunsUptoRow.holds Try.pinned (OpenSpec.upto paceRunsSpec)

/-- 'lariatlaw07.PaceTells', WHERE WHAT IT READS IS OF BULK AT MOST 1048576: true; the input reads as it did. -/
def paceTellsUptoRow : OpenClaim := { program := "ytflijifejodjjaa", sum := "bea2dce3beb52a7213a0c1ba15195c77de762ba39a3ed91b530705aa162d57cc", func := "lariat/lariatlaw07.PaceTells", spec := "paceTells", inPlace := ["math/bits.Add64"], unfollowed := true, recurses := true, apart := false, narrowed := true }
def PaceTellsUptoSaid : Prop := paceTellsUptoRow.holds Try.pinned (OpenSpec.upto paceTellsSpec)

end Rows
end Go.Proofs.Ytflijifejodjjaa
