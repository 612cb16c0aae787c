/-
  No cell of these rows narrows 'for every input' (looked for: loops, veiled, ifaces, maps, wideKeys, modest, calm, conditions, laid).
  DERIVED. THE GIVEN ROWS OF THIS SEAT. 7 by the template 'for every input the law returns true; each argument reads behind the call as it read before'; 0 by the template 'total and deterministic' (their statements: YtmkjajeanjidkaaTotals.lean).
  GIVEN WITH THE SEED: the statements are not yours to turn. If you find one false, say at which input.
  Laid BY PROGRAM, IN A SANDBOX (cutbox-rows.mjs): the forced cells as the released guide's own fill.sh prints them over the translation e78290b3c1ffe5bb… (all of the seat's roots in one cut). By AI agents, Wed Nov 11 2026. No macro, syntax, notation, axiom, sorry.
-/
import Derived.Test.YtmkjajeanjidkaaChecked
import GoSem.Claim
import GoSem.ClaimJoined
import GoSem.ClaimMapViews
import Derived.JoinedTies
import Derived.KernelRfl
namespace Go.Proofs.Ytmkjajeanjidkaa
/- THE CELL 'sum', in the pinned program and in every row, IS THE sha256 OF THE DUMP (.gsa) THAT YtmkjajeanjidkaaProg.lean LOADS. Nothing in Lean hashes anything: it is a label: what it is worth is what the hold of that sum in a sandbox is worth. -/
noncomputable def Try.pinned : Pinned := { name := "ytmkjajeanjidkaa", sum := "e78290b3c1ffe5bb16df8bc5da9dcc12a42d7b58791227ae1da34088d3c5e28a", checked := Try.checked }
namespace Rows
def none {H : Type} : Left H := { results := [], args := [] }

/-- 'lariatlaw01.LitCleans': WHATEVER THE INPUT: true; the input reads as it did. -/
def litCleansSpec : ChangeSpec := { name := "litCleans", fn := fun _ => fun
  | [d] => { results := [.lit (.bool true)], args := [d] }
  | _ => none }
def litCleansRow : OpenClaim := { program := "ytmkjajeanjidkaa", sum := "e78290b3c1ffe5bb16df8bc5da9dcc12a42d7b58791227ae1da34088d3c5e28a", func := "lariat/lariatlaw01.LitCleans", spec := "litCleans", unfollowed := true, recurses := true, apart := false }
def LitCleansSaid : Prop := litCleansRow.holds Try.pinned (OpenSpec.ofChange litCleansSpec)

/-- ITS FALSE NEIGHBOUR: 'it returns false'. Refute it at one input. -/
def litCleansWrong : ChangeSpec := { name := "litCleans", fn := fun _ => fun
  | [d] => { results := [.lit (.bool false)], args := [d] }
  | _ => none }
def LitCleansWrongFalsely : Prop := litCleansRow.holds Try.pinned (OpenSpec.ofChange litCleansWrong)

/-- 'lariatlaw01.LitFollows': WHATEVER THE INPUT: true; the input reads as it did. -/
def litFollowsSpec : ChangeSpec := { name := "litFollows", fn := fun _ => fun
  | [d1, d2, d3] => { results := [.lit (.bool true)], args := [d1, d2, d3] }
  | _ => none }
def litFollowsRow : OpenClaim := { program := "ytmkjajeanjidkaa", sum := "e78290b3c1ffe5bb16df8bc5da9dcc12a42d7b58791227ae1da34088d3c5e28a", func := "lariat/lariatlaw01.LitFollows", spec := "litFollows", unfollowed := true, recurses := true, apart := false }
def LitFollowsSaid : Prop := litFollowsRow.holds Try.pinned (OpenSpec.ofChange litFollowsSpec)

/-- ITS FALSE NEIGHBOUR: 'it returns false'. Refute it at one input. -/
def litFollowsWrong : ChangeSpec := { name := "litFollows", fn := fun _ => fun
  | [d1, d2, d3] => { results := [.lit (.bool false)], args := [d1, d2, d3] }
  | _ => none }
def LitFollowsWrongFalsely : Prop := litFollowsRow.holds Try.pinned (OpenSpec.ofChange litFollowsWrong)

/-- 'lariatlaw01.LitResolves': WHATEVER THE INPUT: true; the input reads as it did. -/
def litResolvesSpec : ChangeSpec := { name := "litResolves", fn := fun _ => fun
  | [d1, d2, d3] => { results := [.lit (.bool true)], args := [d1, d2, d3] }
  | _ => none }
def litResolvesRow : OpenClaim := { program := "ytmkjajeanjidkaa", sum := "e78290b3c1ffe5bb16df8bc5da9dcc12a42d7b58791227ae1da34088d3c5e28a", func := "lariat/lariatlaw01.LitResolves", spec := "litResolves", unfollowed := true, recurses := true, apart := false }
def LitResolvesSaid : Prop := litResolvesRow.holds Try.pinned (OpenSpec.ofChange litResolvesSpec)

/-- ITS FALSE NEIGHBOUR: 'it returns false'. Refute it at one input. -/
def litResolvesWrong : ChangeSpec := { name := "litResolves", fn := fun _ => fun
  | [d1, d2, d3] => { results := [.lit (.bool false)], args := [d1, d2, d3] }
  | _ => none }
def LitResolvesWrongFalsely : Prop := litResolvesRow.holds Try.pinned (OpenSpec.ofChange litResolvesWrong)

/-- 'lariatlaw01.LitNames': WHATEVER THE INPUT: true; the input reads as it did. -/
def litNamesSpec : ChangeSpec := { name := "litNames", fn := fun _ => fun
  | [] => { results := [.lit (.bool true)], args := [] }
  | _ => none }
def litNamesRow : OpenClaim := { program := "ytmkjajeanjidkaa", sum := "e78290b3c1ffe5bb16df8bc5da9dcc12a42d7b58791227ae1da34088d3c5e28a", func := "lariat/lariatlaw01.LitNames", spec := "litNames", unfollowed := true, recurses := true, apart := false }
def LitNamesSaid : Prop := litNamesRow.holds Try.pinned (OpenSpec.ofChange litNamesSpec)

/-- ITS FALSE NEIGHBOUR: 'it returns false'. Refute it at one input. -/
def litNamesWrong : ChangeSpec := { name := "litNames", fn := fun _ => fun
  | [] => { results := [.lit (.bool false)], args := [] }
  | _ => none }
def LitNamesWrongFalsely : Prop := litNamesRow.holds Try.pinned (OpenSpec.ofChange litNamesWrong)

/-- 'lariatlaw01.LitTells': WHATEVER THE INPUT: true; the input reads as it did. -/
def litTellsSpec : ChangeSpec := { name := "litTells", fn := fun _ => fun
  | [d1, d2] => { results := [.lit (.bool true)], args := [d1, d2] }
  | _ => none }
def litTellsRow : OpenClaim := { program := "ytmkjajeanjidkaa", sum := "e78290b3c1ffe5bb16df8bc5da9dcc12a42d7b58791227ae1da34088d3c5e28a", func := "lariat/lariatlaw01.LitTells", spec := "litTells", unfollowed := true, recurses := true, apart := false }
def LitTellsSaid : Prop := litTellsRow.holds Try.pinned (OpenSpec.ofChange litTellsSpec)

/-- ITS FALSE NEIGHBOUR: 'it returns false'. Refute it at one input. -/
def litTellsWrong : ChangeSpec := { name := "litTells", fn := fun _ => fun
  | [d1, d2] => { results := [.lit (.bool false)], args := [d1, d2] }
  | _ => none }
def LitTellsWrongFalsely : Prop := litTellsRow.holds Try.pinned (OpenSpec.ofChange litTellsWrong)

/-- 'lariatlaw01.LitPlaces': WHATEVER THE INPUT: true; the input reads as it did. -/
def litPlacesSpec : ChangeSpec := { name := "litPlaces", fn := fun _ => fun
  | [d1, d2] => { results := [.lit (.bool true)], args := [d1, d2] }
  | _ => none }
def litPlacesRow : OpenClaim := { program := "ytmkjajeanjidkaa", sum := "e78290b3c1ffe5bb16df8bc5da9dcc12a42d7b58791227ae1da34088d3c5e28a", func := "lariat/lariatlaw01.LitPlaces", spec := "litPlaces", unfollowed := true, recurses := true, apart := false }
def LitPlacesSaid : Prop := litPlacesRow.holds Try.pinned (OpenSpec.ofChange litPlacesSpec)

/-- ITS FALSE NEIGHBOUR: 'it returns false'. Refute it at one input. -/
def litPlacesWrong : ChangeSpec := { name := "litPlaces", fn := fun _ => fun
  | [d1, d2] => { results := [.lit (.bool false)], args := [d1, d2] }
  | _ => none }
def LitPlacesWrongFalsely : Prop := litPlacesRow.holds Try.pinned (OpenSpec.ofChange litPlacesWrong)

/-- 'lariatlaw01.LitTurns': WHATEVER THE INPUT: true; the input reads as it did. -/
def litTurnsSpec : ChangeSpec := { name := "litTurns", fn := fun _ => fun
  | [d] => { results := [.lit (.bool true)], args := [d] }
  | _ => none }
def litTurnsRow : OpenClaim := { program := "ytmkjajeanjidkaa", sum := "e78290b3c1ffe5bb16df8bc5da9dcc12a42d7b58791227ae1da34088d3c5e28a", func := "lariat/lariatlaw01.LitTurns", spec := "litTurns", unfollowed := true, recurses := true, apart := false }
def LitTurnsSaid : Prop := litTurnsRow.holds Try.pinned (OpenSpec.ofChange litTurnsSpec)

/-- ITS FALSE NEIGHBOUR: 'it returns false'. Refute it at one input. -/
def litTurnsWrong : ChangeSpec := { name := "litTurns", fn := fun _ => fun
  | [d] => { results := [.lit (.bool false)], args := [d] }
  | _ => none }
def LitTurnsWrongFalsely : Prop := litTurnsRow.holds Try.pinned (OpenSpec.ofChange litTurnsWrong)

/- THE SECOND FORM. 'bulk': how many values and letters a reading holds, each counted each time it is reached (what is shared counts as often as it is met; a slice's spare places count too). A statement '..UptoSaid' is the law's where the arguments, and the package variables that the reading takes, are together of bulk at most 1048576: NARROWER than '..Said'. Prove '..Said' where nothing that the law and all that it calls make is longer than what came in: it says more and counts as full. Else prove '..UptoSaid'. A law counts once. -/
mutual
def uptoBulk {H : Type} : DataW H → Nat
  | .lit (.string bytes) => bytes.length + 1
  | .lit _ => 1
  | .nil => 1
  | .ptr d => uptoBulk d + 1
  | .slice elems spare => uptoBulkAll elems + uptoBulkAll spare + 1
  | .agg parts => uptoBulkAll parts + 1
  | .iface _ d => uptoBulk d + 1
  | .map entries => uptoBulkEntries entries + 1
  | .held _ => 1
def uptoBulkAll {H : Type} : List (DataW H) → Nat
  | [] => 0
  | d :: r => uptoBulk d + uptoBulkAll r
def uptoBulkEntries {H : Type} : List (Lit × DataW H) → Nat
  | [] => 0
  | x :: r => uptoBulkEntry x + uptoBulkEntries r
def uptoBulkEntry {H : Type} : Lit × DataW H → Nat
  | (.string bytes, d) => bytes.length + uptoBulk d + 1
  | (_, d) => uptoBulk d + 1
 end
def uptoSmall : (H : Type) → List (DataW H) → Bool := fun _ ds => decide (uptoBulkAll ds ≤ 1048576)
def OpenSpec.upto (s : _root_.Go.ChangeSpec) : _root_.Go.OpenSpec := { _root_.Go.OpenSpec.ofChange s with cond := some uptoSmall }

/-- 'lariatlaw01.LitCleans', WHERE WHAT IT READS IS OF BULK AT MOST 1048576: true; the input reads as it did. -/
def litCleansUptoRow : OpenClaim := { program := "ytmkjajeanjidkaa", sum := "e78290b3c1ffe5bb16df8bc5da9dcc12a42d7b58791227ae1da34088d3c5e28a", func := "lariat/lariatlaw01.LitCleans", spec := "litCleans", unfollowed := true, recurses := true, apart := false, narrowed := true }
def LitCleansUptoSaid : Prop := litCleansUptoRow.holds Try.pinned (OpenSpec.upto litCleansSpec)

/-- 'lariatlaw01.LitFollows', WHERE WHAT IT READS IS OF BULK AT MOST 1048576: true; the input reads as it did. -/
def litFollowsUptoRow : OpenClaim := { program := "ytmkjajeanjidkaa", sum := "e78290b3c1ffe5bb16df8bc5da9dcc12a42d7b58791227ae1da34088d3c5e28a", func := "lariat/lariatlaw01.LitFollows", spec := "litFollows", unfollowed := true, recurses := true, apart := false, narrowed := true }
def LitFollowsUptoSaid : Prop := litFollowsUptoRow.holds Try.pinned (OpenSpec.upto litFollowsSpec)

/-- 'lariatlaw01.LitResolves', WHERE WHAT IT READS IS OF BULK AT MOST 1048576: true; the input reads as it did. -/
def litResolvesUptoRow : OpenClaim := { program := "ytmkjajeanjidkaa", sum := "e78290b3c1ffe5bb16df8bc5da9dcc12a42d7b58791227ae1da34088d3c5e28a", func := "lariat/lariatlaw01.LitResolves", spec := "litResolves", unfollowed := true, recurses := true, apart := false, narrowed := true }
def LitResolvesUptoSaid : Prop := litResolvesUptoRow.holds Try.pinned (OpenSpec.upto litResolvesSpec)

/-- 'lariatlaw01.LitNames', WHERE WHAT IT READS IS OF BULK AT MOST 1048576: true; the input reads as it did. -/
def litNamesUptoRow : OpenClaim := { program := "ytmkjajeanjidkaa", sum := "e78290b3c1ffe5bb16df8bc5da9dcc12a42d7b58791227ae1da34088d3c5e28a", func := "lariat/lariatlaw01.LitNames", spec := "litNames", unfollowed := true, recurses := true, apart := false, narrowed := true }
def LitNamesUptoSaid : Prop := litNamesUptoRow.holds Try.pinned (OpenSpec.upto litNamesSpec)

/-- 'lariatlaw01.LitTells', WHERE WHAT IT READS IS OF BULK AT MOST 1048576: true; the input reads as it did. -/
def litTellsUptoRow : OpenClaim := { program := "ytmkjajeanjidkaa", sum := "e78290b3c1ffe5bb16df8bc5da9dcc12a42d7b58791227ae1da34088d3c5e28a", func := "lariat/lariatlaw01.LitTells", spec := "litTells", unfollowed := true, recurses := true, apart := false, narrowed := true }
def LitTellsUptoSaid : Prop := litTellsUptoRow.holds Try.pinned (OpenSpec.upto litTellsSpec)

/-- 'lariatlaw01.LitPlaces', WHERE WHAT IT READS IS OF BULK AT MOST 1048576: true; the input reads as it did. -/
def litPlacesUptoRow : OpenClaim := { program := "ytmkjajeanjidkaa", sum := "e78290b3c1ffe5bb16df8bc5da9dcc12a42d7b58791227ae1da34088d3c5e28a", func := "lariat/lariatlaw01.LitPlaces", spec := "litPlaces", unfollowed := true, recurses := true, apart := false, narrowed := true }
def LitPlacesUptoSaid : Prop := litPlacesUptoRow.holds Try.pinned (OpenSpec.upto litPlacesSpec)

/-- 'lariatlaw01.LitTurns', WHERE WHAT IT READS IS OF BULK AT MOST 1048576: true; the input reads as it did. -/
def litTurnsUptoRow : OpenClaim := { program := "ytmkjajeanjidkaa", sum := "e78290b3c1ffe5bb16df8bc5da9dcc12a42d7b58791227ae1da34088d3c5e28a", func := "lariat/lariatlaw01.LitTurns", spec := "litTurns", unfollowed := true, recurses := true, apart := false, narrowed := true }
def LitTurnsUptoSaid : Prop := litTurnsUptoRow.holds Try.pinned (OpenSpec.upto litTurnsSpec)

end Rows
end Go.Proofs.Ytmkjajeanjidkaa
