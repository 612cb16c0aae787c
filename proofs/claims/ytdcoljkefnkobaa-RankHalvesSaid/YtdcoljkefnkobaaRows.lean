/-
  No cell of these rows narrows 'for every input' (looked for: loops, veiled, ifaces, maps, wideKeys, modest, calm, conditions, laid).
  DERIVED. THE GIVEN ROWS OF THIS SEAT. 5 by the template 'for every input the law returns true; each argument reads behind the call as it read before'; 0 by the template 'total and deterministic' (their statements: YtdcoljkefnkobaaTotals.lean).
  GIVEN WITH THE SEED: the statements are not yours to turn. If you find one false, say at which input.
  Laid BY PROGRAM, IN A SANDBOX (cutbox-rows.mjs): the forced cells as the released guide's own fill.sh prints them over the translation 4420b4902c242314… (all of the seat's roots in one cut). By AI agents, Wed Nov 11 2026. No macro, syntax, notation, axiom, sorry.
-/
import Derived.Test.YtdcoljkefnkobaaChecked
import GoSem.Claim
import GoSem.ClaimJoined
import GoSem.ClaimMapViews
import Derived.JoinedTies
import Derived.KernelRfl
namespace Go.Proofs.Ytdcoljkefnkobaa
/- THE CELL 'sum', in the pinned program and in every row, IS THE sha256 OF THE DUMP (.gsa) THAT YtdcoljkefnkobaaProg.lean LOADS. Nothing in Lean hashes anything: it is a label: what it is worth is what the hold of that sum in a sandbox is worth. -/
noncomputable def Try.pinned : Pinned := { name := "ytdcoljkefnkobaa", sum := "4420b4902c242314453b89e76a9631e4ff14898578bc287ba63f76300ea0b897", checked := Try.checked }
namespace Rows
def none {H : Type} : Left H := { results := [], args := [] }

/-- 'lariatlaw03.RankNames': WHATEVER THE INPUT: true; the input reads as it did. -/
def rankNamesSpec : ChangeSpec := { name := "rankNames", fn := fun _ => fun
  | [] => { results := [.lit (.bool true)], args := [] }
  | _ => none }
def rankNamesRow : OpenClaim := { program := "ytdcoljkefnkobaa", sum := "4420b4902c242314453b89e76a9631e4ff14898578bc287ba63f76300ea0b897", func := "lariat/lariatlaw03.RankNames", spec := "rankNames", unfollowed := true, recurses := true, apart := false }
def RankNamesSaid : Prop := rankNamesRow.holds Try.pinned (OpenSpec.ofChange rankNamesSpec)

/-- ITS FALSE NEIGHBOUR: 'it returns false'. Refute it at one input. -/
def rankNamesWrong : ChangeSpec := { name := "rankNames", fn := fun _ => fun
  | [] => { results := [.lit (.bool false)], args := [] }
  | _ => none }
def RankNamesWrongFalsely : Prop := rankNamesRow.holds Try.pinned (OpenSpec.ofChange rankNamesWrong)

/-- 'lariatlaw03.RankEqual': WHATEVER THE INPUT: true; the input reads as it did. -/
def rankEqualSpec : ChangeSpec := { name := "rankEqual", fn := fun _ => fun
  | [d1, d2] => { results := [.lit (.bool true)], args := [d1, d2] }
  | _ => none }
def rankEqualRow : OpenClaim := { program := "ytdcoljkefnkobaa", sum := "4420b4902c242314453b89e76a9631e4ff14898578bc287ba63f76300ea0b897", func := "lariat/lariatlaw03.RankEqual", spec := "rankEqual", unfollowed := true, recurses := true, apart := false }
def RankEqualSaid : Prop := rankEqualRow.holds Try.pinned (OpenSpec.ofChange rankEqualSpec)

/-- ITS FALSE NEIGHBOUR: 'it returns false'. Refute it at one input. -/
def rankEqualWrong : ChangeSpec := { name := "rankEqual", fn := fun _ => fun
  | [d1, d2] => { results := [.lit (.bool false)], args := [d1, d2] }
  | _ => none }
def RankEqualWrongFalsely : Prop := rankEqualRow.holds Try.pinned (OpenSpec.ofChange rankEqualWrong)

/-- 'lariatlaw03.RankRuns': WHATEVER THE INPUT: true; the input reads as it did. -/
def rankRunsSpec : ChangeSpec := { name := "rankRuns", fn := fun _ => fun
  | [d1, d2] => { results := [.lit (.bool true)], args := [d1, d2] }
  | _ => none }
def rankRunsRow : OpenClaim := { program := "ytdcoljkefnkobaa", sum := "4420b4902c242314453b89e76a9631e4ff14898578bc287ba63f76300ea0b897", func := "lariat/lariatlaw03.RankRuns", spec := "rankRuns", unfollowed := true, recurses := true, apart := false }
def RankRunsSaid : Prop := rankRunsRow.holds Try.pinned (OpenSpec.ofChange rankRunsSpec)

/-- ITS FALSE NEIGHBOUR: 'it returns false'. Refute it at one input. -/
def rankRunsWrong : ChangeSpec := { name := "rankRuns", fn := fun _ => fun
  | [d1, d2] => { results := [.lit (.bool false)], args := [d1, d2] }
  | _ => none }
def RankRunsWrongFalsely : Prop := rankRunsRow.holds Try.pinned (OpenSpec.ofChange rankRunsWrong)

/-- 'lariatlaw03.RankSorts': WHATEVER THE INPUT: true; the input reads as it did. -/
def rankSortsSpec : ChangeSpec := { name := "rankSorts", fn := fun _ => fun
  | [d1, d2] => { results := [.lit (.bool true)], args := [d1, d2] }
  | _ => none }
def rankSortsRow : OpenClaim := { program := "ytdcoljkefnkobaa", sum := "4420b4902c242314453b89e76a9631e4ff14898578bc287ba63f76300ea0b897", func := "lariat/lariatlaw03.RankSorts", spec := "rankSorts", unfollowed := true, recurses := true, apart := false }
def RankSortsSaid : Prop := rankSortsRow.holds Try.pinned (OpenSpec.ofChange rankSortsSpec)

/-- ITS FALSE NEIGHBOUR: 'it returns false'. Refute it at one input. -/
def rankSortsWrong : ChangeSpec := { name := "rankSorts", fn := fun _ => fun
  | [d1, d2] => { results := [.lit (.bool false)], args := [d1, d2] }
  | _ => none }
def RankSortsWrongFalsely : Prop := rankSortsRow.holds Try.pinned (OpenSpec.ofChange rankSortsWrong)

/-- 'lariatlaw03.RankHalves': WHATEVER THE INPUT: true; the input reads as it did. -/
def rankHalvesSpec : ChangeSpec := { name := "rankHalves", fn := fun _ => fun
  | [d1, d2] => { results := [.lit (.bool true)], args := [d1, d2] }
  | _ => none }
def rankHalvesRow : OpenClaim := { program := "ytdcoljkefnkobaa", sum := "4420b4902c242314453b89e76a9631e4ff14898578bc287ba63f76300ea0b897", func := "lariat/lariatlaw03.RankHalves", spec := "rankHalves", unfollowed := true, recurses := true, apart := false }
def RankHalvesSaid : Prop := rankHalvesRow.holds Try.pinned (OpenSpec.ofChange rankHalvesSpec)

/-- ITS FALSE NEIGHBOUR: 'it returns false'. Refute it at one input. -/
def rankHalvesWrong : ChangeSpec := { name := "rankHalves", fn := fun _ => fun
  | [d1, d2] => { results := [.lit (.bool false)], args := [d1, d2] }
  | _ => none }
def RankHalvesWrongFalsely : Prop := rankHalvesRow.holds Try.pinned (OpenSpec.ofChange rankHalvesWrong)

/- THE SECOND FORM. 'bulk': how many values and letters a reading holds, each counted each time it is reached (what is shared counts as often as it is met; a slice's spare places count too). A statement '..UptoSaid' is the law's where the arguments, and the package variables that the reading takes, are together of bulk at most 1048576: NARROWER than '..Said'. Prove '..Said' where nothing that the law and all that it calls make is longer than what came in: it says more and counts as full. Else prove '..UptoSaid'. A law counts once. -/
mutual
def uptoBulk {H : Type} : DataW H → Nat
  | .lit (.string bytes) => bytes.length + 1
  | .lit _ => 1
  | .nil => 1
  | .ptr d => uptoBulk d + 1
  | .slice elems spare => uptoBulkAll elems + uptoBulkAll spare + 1
  | .agg parts => uptoBulkAll parts + 1
  | .iface _ d => uptoBulk d + 1
  | .map entries => uptoBulkEntries entries + 1
  | .held _ => 1
def uptoBulkAll {H : Type} : List (DataW H) → Nat
  | [] => 0
  | d :: r => uptoBulk d + uptoBulkAll r
def uptoBulkEntries {H : Type} : List (Lit × DataW H) → Nat
  | [] => 0
  | x :: r => uptoBulkEntry x + uptoBulkEntries r
def uptoBulkEntry {H : Type} : Lit × DataW H → Nat
  | (.string bytes, d) => bytes.length + uptoBulk d + 1
  | (_, d) => uptoBulk d + 1
 end
def uptoSmall : (H : Type) → List (DataW H) → Bool := fun _ ds => decide (uptoBulkAll ds ≤ 1048576)
def OpenSpec.upto (s : _root_.Go.ChangeSpec) : _root_.Go.OpenSpec := { _root_.Go.OpenSpec.ofChange s with cond := some uptoSmall }

/-- 'lariatlaw03.RankNames', WHERE WHAT IT READS IS OF BULK AT MOST 1048576: true; the input reads as it did. -/
def rankNamesUptoRow : OpenClaim := { program := "ytdcoljkefnkobaa", sum := "4420b4902c242314453b89e76a9631e4ff14898578bc287ba63f76300ea0b897", func := "lariat/lariatlaw03.RankNames", spec := "rankNames", unfollowed := true, recurses := true, apart := false, narrowed := true }
def RankNamesUptoSaid : Prop := rankNamesUptoRow.holds Try.pinned (OpenSpec.upto rankNamesSpec)

/-- 'lariatlaw03.RankEqual', WHERE WHAT IT READS IS OF BULK AT MOST 1048576: true; the input reads as it did. -/
def rankEqualUptoRow : OpenClaim := { program := "ytdcoljkefnkobaa", sum := "4420b4902c242314453b89e76a9631e4ff14898578bc287ba63f76300ea0b897", func := "lariat/lariatlaw03.RankEqual", spec := "rankEqual", unfollowed := true, recurses := true, apart := false, narrowed := true }
def RankEqualUptoSaid : Prop := rankEqualUptoRow.holds Try.pinned (OpenSpec.upto rankEqualSpec)

/-- 'lariatlaw03.RankRuns', WHERE WHAT IT READS IS OF BULK AT MOST 1048576: true; the input reads as it did. -/
def rankRunsUptoRow : OpenClaim := { program := "ytdcoljkefnkobaa", sum := "4420b4902c242314453b89e76a9631e4ff14898578bc287ba63f76300ea0b897", func := "lariat/lariatlaw03.RankRuns", spec := "rankRuns", unfollowed := true, recurses := true, apart := false, narrowed := true }
def RankRunsUptoSaid : Prop := rankRunsUptoRow.holds Try.pinned (OpenSpec.upto rankRunsSpec)

/-- 'lariatlaw03.RankSorts', WHERE WHAT IT READS IS OF BULK AT MOST 1048576: true; the input reads as it did. -/
def rankSortsUptoRow : OpenClaim := { program := "ytdcoljkefnkobaa", sum := "4420b4902c242314453b89e76a9631e4ff14898578bc287ba63f76300ea0b897", func := "lariat/lariatlaw03.RankSorts", spec := "rankSorts", unfollowed := true, recurses := true, apart := false, narrowed := true }
def RankSortsUptoSaid : Prop := rankSortsUptoRow.holds Try.pinned (OpenSpec.upto rankSortsSpec)

/-- 'lariatlaw03.RankHalves', WHERE WHAT IT READS IS OF BULK AT MOST 1048576: true; the input reads as it did. -/
def rankHalvesUptoRow : OpenClaim := { program := "ytdcoljkefnkobaa", sum := "4420b4902c242314453b89e76a9631e4ff14898578bc287ba63f76300ea0b897", func := "lariat/lariatlaw03.RankHalves", spec := "rankHalves", unfollowed := true, recurses := true, apart := false, narrowed := true }
def RankHalvesUptoSaid : Prop := rankHalvesUptoRow.holds Try.pinned (OpenSpec.upto rankHalvesSpec)

end Rows
end Go.Proofs.Ytdcoljkefnkobaa
