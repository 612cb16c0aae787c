/-
  No cell of these rows narrows 'for every input' (looked for: loops, veiled, ifaces, maps, wideKeys, modest, calm, conditions, laid).
  DERIVED. THE GIVEN ROWS OF THIS SEAT. 5 by the template 'for every input the law returns true; each argument reads behind the call as it read before'; 0 by the template 'total and deterministic' (their statements: YtajllmlgihbdhaaTotals.lean).
  GIVEN WITH THE SEED: the statements are not yours to turn. If you find one false, say at which input.
  Laid BY PROGRAM, IN A SANDBOX (cutbox-rows.mjs): the forced cells as the released guide's own fill.sh prints them over the translation 8b4b6dc1ff8bf43d… (all of the seat's roots in one cut). By AI agents, Wed Nov 11 2026. No macro, syntax, notation, axiom, sorry.
-/
import Derived.Test.YtajllmlgihbdhaaChecked
import GoSem.Claim
import GoSem.ClaimJoined
import GoSem.ClaimMapViews
import Derived.JoinedTies
import Derived.KernelRfl
namespace Go.Proofs.Ytajllmlgihbdhaa
/- THE CELL 'sum', in the pinned program and in every row, IS THE sha256 OF THE DUMP (.gsa) THAT YtajllmlgihbdhaaProg.lean LOADS. Nothing in Lean hashes anything: it is a label: what it is worth is what the hold of that sum in a sandbox is worth. -/
noncomputable def Try.pinned : Pinned := { name := "ytajllmlgihbdhaa", sum := "8b4b6dc1ff8bf43d3701e55600b88ff1bb013de11a9bf5e599dd83ed5f6a4d9f", checked := Try.checked }
namespace Rows
def none {H : Type} : Left H := { results := [], args := [] }

/-- 'lariatlaw06.LearnNames': WHATEVER THE INPUT: true; the input reads as it did. -/
def learnNamesSpec : ChangeSpec := { name := "learnNames", fn := fun _ => fun
  | [] => { results := [.lit (.bool true)], args := [] }
  | _ => none }
def learnNamesRow : OpenClaim := { program := "ytajllmlgihbdhaa", sum := "8b4b6dc1ff8bf43d3701e55600b88ff1bb013de11a9bf5e599dd83ed5f6a4d9f", func := "lariat/lariatlaw06.LearnNames", spec := "learnNames", unfollowed := true, recurses := true, apart := false }
def LearnNamesSaid : Prop := learnNamesRow.holds Try.pinned (OpenSpec.ofChange learnNamesSpec)

/-- ITS FALSE NEIGHBOUR: 'it returns false'. Refute it at one input. -/
def learnNamesWrong : ChangeSpec := { name := "learnNames", fn := fun _ => fun
  | [] => { results := [.lit (.bool false)], args := [] }
  | _ => none }
def LearnNamesWrongFalsely : Prop := learnNamesRow.holds Try.pinned (OpenSpec.ofChange learnNamesWrong)

/-- 'lariatlaw06.LearnRefuses': WHATEVER THE INPUT: true; the input reads as it did. -/
def learnRefusesSpec : ChangeSpec := { name := "learnRefuses", fn := fun _ => fun
  | [d1, d2, d3] => { results := [.lit (.bool true)], args := [d1, d2, d3] }
  | _ => none }
def learnRefusesRow : OpenClaim := { program := "ytajllmlgihbdhaa", sum := "8b4b6dc1ff8bf43d3701e55600b88ff1bb013de11a9bf5e599dd83ed5f6a4d9f", func := "lariat/lariatlaw06.LearnRefuses", spec := "learnRefuses", unfollowed := true, recurses := true, apart := false }
def LearnRefusesSaid : Prop := learnRefusesRow.holds Try.pinned (OpenSpec.ofChange learnRefusesSpec)

/-- ITS FALSE NEIGHBOUR: 'it returns false'. Refute it at one input. -/
def learnRefusesWrong : ChangeSpec := { name := "learnRefuses", fn := fun _ => fun
  | [d1, d2, d3] => { results := [.lit (.bool false)], args := [d1, d2, d3] }
  | _ => none }
def LearnRefusesWrongFalsely : Prop := learnRefusesRow.holds Try.pinned (OpenSpec.ofChange learnRefusesWrong)

/-- 'lariatlaw06.LearnFollows': WHATEVER THE INPUT: true; the input reads as it did. -/
def learnFollowsSpec : ChangeSpec := { name := "learnFollows", fn := fun _ => fun
  | [d1, d2] => { results := [.lit (.bool true)], args := [d1, d2] }
  | _ => none }
def learnFollowsRow : OpenClaim := { program := "ytajllmlgihbdhaa", sum := "8b4b6dc1ff8bf43d3701e55600b88ff1bb013de11a9bf5e599dd83ed5f6a4d9f", func := "lariat/lariatlaw06.LearnFollows", spec := "learnFollows", unfollowed := true, recurses := true, apart := false }
def LearnFollowsSaid : Prop := learnFollowsRow.holds Try.pinned (OpenSpec.ofChange learnFollowsSpec)

/-- ITS FALSE NEIGHBOUR: 'it returns false'. Refute it at one input. -/
def learnFollowsWrong : ChangeSpec := { name := "learnFollows", fn := fun _ => fun
  | [d1, d2] => { results := [.lit (.bool false)], args := [d1, d2] }
  | _ => none }
def LearnFollowsWrongFalsely : Prop := learnFollowsRow.holds Try.pinned (OpenSpec.ofChange learnFollowsWrong)

/-- 'lariatlaw06.LearnRuns': WHATEVER THE INPUT: true; the input reads as it did. -/
def learnRunsSpec : ChangeSpec := { name := "learnRuns", fn := fun _ => fun
  | [d1, d2] => { results := [.lit (.bool true)], args := [d1, d2] }
  | _ => none }
def learnRunsRow : OpenClaim := { program := "ytajllmlgihbdhaa", sum := "8b4b6dc1ff8bf43d3701e55600b88ff1bb013de11a9bf5e599dd83ed5f6a4d9f", func := "lariat/lariatlaw06.LearnRuns", spec := "learnRuns", unfollowed := true, recurses := true, apart := false }
def LearnRunsSaid : Prop := learnRunsRow.holds Try.pinned (OpenSpec.ofChange learnRunsSpec)

/-- ITS FALSE NEIGHBOUR: 'it returns false'. Refute it at one input. -/
def learnRunsWrong : ChangeSpec := { name := "learnRuns", fn := fun _ => fun
  | [d1, d2] => { results := [.lit (.bool false)], args := [d1, d2] }
  | _ => none }
def LearnRunsWrongFalsely : Prop := learnRunsRow.holds Try.pinned (OpenSpec.ofChange learnRunsWrong)

/-- 'lariatlaw06.LearnLeads': WHATEVER THE INPUT: true; the input reads as it did. -/
def learnLeadsSpec : ChangeSpec := { name := "learnLeads", fn := fun _ => fun
  | [d1, d2] => { results := [.lit (.bool true)], args := [d1, d2] }
  | _ => none }
def learnLeadsRow : OpenClaim := { program := "ytajllmlgihbdhaa", sum := "8b4b6dc1ff8bf43d3701e55600b88ff1bb013de11a9bf5e599dd83ed5f6a4d9f", func := "lariat/lariatlaw06.LearnLeads", spec := "learnLeads", unfollowed := true, recurses := true, apart := false }
def LearnLeadsSaid : Prop := learnLeadsRow.holds Try.pinned (OpenSpec.ofChange learnLeadsSpec)

/-- ITS FALSE NEIGHBOUR: 'it returns false'. Refute it at one input. -/
def learnLeadsWrong : ChangeSpec := { name := "learnLeads", fn := fun _ => fun
  | [d1, d2] => { results := [.lit (.bool false)], args := [d1, d2] }
  | _ => none }
def LearnLeadsWrongFalsely : Prop := learnLeadsRow.holds Try.pinned (OpenSpec.ofChange learnLeadsWrong)

/- THE SECOND FORM. 'bulk': how many values and letters a reading holds, each counted each time it is reached (what is shared counts as often as it is met; a slice's spare places count too). A statement '..UptoSaid' is the law's where the arguments, and the package variables that the reading takes, are together of bulk at most 1048576: NARROWER than '..Said'. Prove '..Said' where nothing that the law and all that it calls make is longer than what came in: it says more and counts as full. Else prove '..UptoSaid'. A law counts once. -/
mutual
def uptoBulk {H : Type} : DataW H → Nat
  | .lit (.string bytes) => bytes.length + 1
  | .lit _ => 1
  | .nil => 1
  | .ptr d => uptoBulk d + 1
  | .slice elems spare => uptoBulkAll elems + uptoBulkAll spare + 1
  | .agg parts => uptoBulkAll parts + 1
  | .iface _ d => uptoBulk d + 1
  | .map entries => uptoBulkEntries entries + 1
  | .held _ => 1
def uptoBulkAll {H : Type} : List (DataW H) → Nat
  | [] => 0
  | d :: r => uptoBulk d + uptoBulkAll r
def uptoBulkEntries {H : Type} : List (Lit × DataW H) → Nat
  | [] => 0
  | x :: r => uptoBulkEntry x + uptoBulkEntries r
def uptoBulkEntry {H : Type} : Lit × DataW H → Nat
  | (.string bytes, d) => bytes.length + uptoBulk d + 1
  | (_, d) => uptoBulk d + 1
 end
def uptoSmall : (H : Type) → List (DataW H) → Bool := fun _ ds => decide (uptoBulkAll ds ≤ 1048576)
def OpenSpec.upto (s : _root_.Go.ChangeSpec) : _root_.Go.OpenSpec := { _root_.Go.OpenSpec.ofChange s with cond := some uptoSmall }

/-- 'lariatlaw06.LearnNames', WHERE WHAT IT READS IS OF BULK AT MOST 1048576: true; the input reads as it did. -/
def learnNamesUptoRow : OpenClaim := { program := "ytajllmlgihbdhaa", sum := "8b4b6dc1ff8bf43d3701e55600b88ff1bb013de11a9bf5e599dd83ed5f6a4d9f", func := "lariat/lariatlaw06.LearnNames", spec := "learnNames", unfollowed := true, recurses := true, apart := false, narrowed := true }
def LearnNamesUptoSaid : Prop := learnNamesUptoRow.holds Try.pinned (OpenSpec.upto learnNamesSpec)

/-- 'lariatlaw06.LearnRefuses', WHERE WHAT IT READS IS OF BULK AT MOST 1048576: true; the input reads as it did. -/
def learnRefusesUptoRow : OpenClaim := { program := "ytajllmlgihbdhaa", sum := "8b4b6dc1ff8bf43d3701e55600b88ff1bb013de11a9bf5e599dd83ed5f6a4d9f", func := "lariat/lariatlaw06.LearnRefuses", spec := "learnRefuses", unfollowed := true, recurses := true, apart := false, narrowed := true }
def LearnRefusesUptoSaid : Prop := learnRefusesUptoRow.holds Try.pinned (OpenSpec.upto learnRefusesSpec)

/-- 'lariatlaw06.LearnFollows', WHERE WHAT IT READS IS OF BULK AT MOST 1048576: true; the input reads as it did. -/
def learnFollowsUptoRow : OpenClaim := { program := "ytajllmlgihbdhaa", sum := "8b4b6dc1ff8bf43d3701e55600b88ff1bb013de11a9bf5e599dd83ed5f6a4d9f", func := "lariat/lariatlaw06.LearnFollows", spec := "learnFollows", unfollowed := true, recurses := true, apart := false, narrowed := true }
def LearnFollowsUptoSaid : Prop := learnFollowsUptoRow.holds Try.pinned (OpenSpec.upto learnFollowsSpec)

/-- 'lariatlaw06.LearnRuns', WHERE WHAT IT READS IS OF BULK AT MOST 1048576: true; the input reads as it did. -/
def learnRunsUptoRow : OpenClaim := { program := "ytajllmlgihbdhaa", sum := "8b4b6dc1ff8bf43d3701e55600b88ff1bb013de11a9bf5e599dd83ed5f6a4d9f", func := "lariat/lariatlaw06.LearnRuns", spec := "learnRuns", unfollowed := true, recurses := true, apart := false, narrowed := true }
def LearnRunsUptoSaid : Prop := learnRunsUptoRow.holds Try.pinned (OpenSpec.upto learnRunsSpec)

/-- 'lariatlaw06.LearnLeads', WHERE WHAT IT READS IS OF BULK AT MOST 1048576: true; the input reads as it did. -/
def learnLeadsUptoRow : OpenClaim := { program := "ytajllmlgihbdhaa", sum := "8b4b6dc1ff8bf43d3701e55600b88ff1bb013de11a9bf5e599dd83ed5f6a4d9f", func := "lariat/lariatlaw06.LearnLeads", spec := "learnLeads", unfollowed := true, recurses := true, apart := false, narrowed := true }
def LearnLeadsUptoSaid : Prop := learnLeadsUptoRow.holds Try.pinned (OpenSpec.upto learnLeadsSpec)

end Rows
end Go.Proofs.Ytajllmlgihbdhaa
