/-
  No cell of these rows narrows 'for every input' (looked for: loops, veiled, ifaces, maps, wideKeys, modest, calm, conditions, laid).
  DERIVED. THE GIVEN ROWS OF THIS SEAT. 3 by the template 'for every input the law returns true; each argument reads behind the call as it read before'; 0 by the template 'total and deterministic' (their statements: YtpllmfoaahaciaaTotals.lean).
  GIVEN WITH THE SEED: the statements are not yours to turn. If you find one false, say at which input.
  Laid BY PROGRAM, IN A SANDBOX (cutbox-rows.mjs): the forced cells as the released guide's own fill.sh prints them over the translation a2b027522b8efeda… (all of the seat's roots in one cut). By AI agents, Wed Nov 11 2026. No macro, syntax, notation, axiom, sorry.
-/
import Derived.Test.YtpllmfoaahaciaaChecked
import GoSem.Claim
import GoSem.ClaimJoined
import GoSem.ClaimMapViews
import Derived.JoinedTies
import Derived.KernelRfl
namespace Go.Proofs.Ytpllmfoaahaciaa
/- THE CELL 'sum', in the pinned program and in every row, IS THE sha256 OF THE DUMP (.gsa) THAT YtpllmfoaahaciaaProg.lean LOADS. Nothing in Lean hashes anything: it is a label: what it is worth is what the hold of that sum in a sandbox is worth. -/
noncomputable def Try.pinned : Pinned := { name := "ytpllmfoaahaciaa", sum := "a2b027522b8efeda54243adf4e01f8a5ce001998093be0d894b9ac85f32e3075", checked := Try.checked }
namespace Rows
def none {H : Type} : Left H := { results := [], args := [] }

/-- 'lariatlaw12.KnitNames': WHATEVER THE INPUT: true; the input reads as it did. -/
def knitNamesSpec : ChangeSpec := { name := "knitNames", fn := fun _ => fun
  | [] => { results := [.lit (.bool true)], args := [] }
  | _ => none }
def knitNamesRow : OpenClaim := { program := "ytpllmfoaahaciaa", sum := "a2b027522b8efeda54243adf4e01f8a5ce001998093be0d894b9ac85f32e3075", func := "lariat/lariatlaw12.KnitNames", spec := "knitNames", unfollowed := true, recurses := true, plainKeys := false, apart := false }
def KnitNamesSaid : Prop := knitNamesRow.holds Try.pinned (OpenSpec.ofChange knitNamesSpec)

/-- ITS FALSE NEIGHBOUR: 'it returns false'. Refute it at one input. -/
def knitNamesWrong : ChangeSpec := { name := "knitNames", fn := fun _ => fun
  | [] => { results := [.lit (.bool false)], args := [] }
  | _ => none }
def KnitNamesWrongFalsely : Prop := knitNamesRow.holds Try.pinned (OpenSpec.ofChange knitNamesWrong)

/-- 'lariatlaw12.KnitOnce': WHATEVER THE INPUT: true; the input reads as it did. -/
def knitOnceSpec : ChangeSpec := { name := "knitOnce", fn := fun _ => fun
  | [d1, d2, d3] => { results := [.lit (.bool true)], args := [d1, d2, d3] }
  | _ => none }
def knitOnceRow : OpenClaim := { program := "ytpllmfoaahaciaa", sum := "a2b027522b8efeda54243adf4e01f8a5ce001998093be0d894b9ac85f32e3075", func := "lariat/lariatlaw12.KnitOnce", spec := "knitOnce", unfollowed := true, recurses := true, plainKeys := false, apart := false }
def KnitOnceSaid : Prop := knitOnceRow.holds Try.pinned (OpenSpec.ofChange knitOnceSpec)

/-- ITS FALSE NEIGHBOUR: 'it returns false'. Refute it at one input. -/
def knitOnceWrong : ChangeSpec := { name := "knitOnce", fn := fun _ => fun
  | [d1, d2, d3] => { results := [.lit (.bool false)], args := [d1, d2, d3] }
  | _ => none }
def KnitOnceWrongFalsely : Prop := knitOnceRow.holds Try.pinned (OpenSpec.ofChange knitOnceWrong)

/-- 'lariatlaw12.KnitRuns': WHATEVER THE INPUT: true; the input reads as it did. -/
def knitRunsSpec : ChangeSpec := { name := "knitRuns", fn := fun _ => fun
  | [d1, d2, d3] => { results := [.lit (.bool true)], args := [d1, d2, d3] }
  | _ => none }
def knitRunsRow : OpenClaim := { program := "ytpllmfoaahaciaa", sum := "a2b027522b8efeda54243adf4e01f8a5ce001998093be0d894b9ac85f32e3075", func := "lariat/lariatlaw12.KnitRuns", spec := "knitRuns", unfollowed := true, recurses := true, plainKeys := false, apart := false }
def KnitRunsSaid : Prop := knitRunsRow.holds Try.pinned (OpenSpec.ofChange knitRunsSpec)

/-- ITS FALSE NEIGHBOUR: 'it returns false'. Refute it at one input. -/
def knitRunsWrong : ChangeSpec := { name := "knitRuns", fn := fun _ => fun
  | [d1, d2, d3] => { results := [.lit (.bool false)], args := [d1, d2, d3] }
  | _ => none }
def KnitRunsWrongFalsely : Prop := knitRunsRow.holds Try.pinned (OpenSpec.ofChange knitRunsWrong)

/- THE SECOND FORM. 'bulk': how many values and letters a reading holds, each counted each time it is reached (what is shared counts as often as it is met; a slice's spare places count too). A statement '..UptoSaid' is the law's where the arguments, and the package variables that the reading takes, are together of bulk at most 1048576: NARROWER than '..Said'. Prove '..Said' where nothing that the law and all that it calls make is longer than what came in: it says more and counts as full. Else prove '..UptoSaid'. A law counts once. -/
mutual
def uptoBulk {H : Type} : DataW H → Nat
  | .lit (.string bytes) => bytes.length + 1
  | .lit _ => 1
  | .nil => 1
  | .ptr d => uptoBulk d + 1
  | .slice elems spare => uptoBulkAll elems + uptoBulkAll spare + 1
  | .agg parts => uptoBulkAll parts + 1
  | .iface _ d => uptoBulk d + 1
  | .map entries => uptoBulkEntries entries + 1
  | .held _ => 1
def uptoBulkAll {H : Type} : List (DataW H) → Nat
  | [] => 0
  | d :: r => uptoBulk d + uptoBulkAll r
def uptoBulkEntries {H : Type} : List (Lit × DataW H) → Nat
  | [] => 0
  | x :: r => uptoBulkEntry x + uptoBulkEntries r
def uptoBulkEntry {H : Type} : Lit × DataW H → Nat
  | (.string bytes, d) => bytes.length + uptoBulk d + 1
  | (_, d) => uptoBulk d + 1
 end
def uptoSmall : (H : Type) → List (DataW H) → Bool := fun _ ds => decide (uptoBulkAll ds ≤ 1048576)
def OpenSpec.upto (s : _root_.Go.ChangeSpec) : _root_.Go.OpenSpec := { _root_.Go.OpenSpec.ofChange s with cond := some uptoSmall }

/-- 'lariatlaw12.KnitNames', WHERE WHAT IT READS IS OF BULK AT MOST 1048576: true; the input reads as it did. -/
def knitNamesUptoRow : OpenClaim := { program := "ytpllmfoaahaciaa", sum := "a2b027522b8efeda54243adf4e01f8a5ce001998093be0d894b9ac85f32e3075", func := "lariat/lariatlaw12.KnitNames", spec := "knitNames", unfollowed := true, recurses := true, plainKeys := false, apart := false, narrowed := true }
def KnitNamesUptoSaid : Prop := knitNamesUptoRow.holds Try.pinned (OpenSpec.upto knitNamesSpec)

/-- 'lariatlaw12.KnitOnce', WHERE WHAT IT READS IS OF BULK AT MOST 1048576: true; the input reads as it did. -/
def knitOnceUptoRow : OpenClaim := { program := "ytpllmfoaahaciaa", sum := "a2b027522b8efeda54243adf4e01f8a5ce001998093be0d894b9ac85f32e3075", func := "lariat/lariatlaw12.KnitOnce", spec := "knitOnce", unfollowed := true, recurses := true, plainKeys := false, apart := false, narrowed := true }
def KnitOnceUptoSaid : Prop := knitOnceUptoRow.holds Try.pinned (OpenSpec.upto knitOnceSpec)

/-- 'lariatlaw12.KnitRuns', WHERE WHAT IT READS IS OF BULK AT MOST 1048576: true; the input reads as it did. -/
def knitRunsUptoRow : OpenClaim := { program := "ytpllmfoaahaciaa", sum := "a2b027522b8efeda54243adf4e01f8a5ce001998093be0d894b9ac85f32e3075", func := "lariat/lariatlaw12.KnitRuns", spec := "knitRuns", unfollowed := true, recurses := true, plainKeys := false, apart := false, narrowed := true }
def KnitRunsUptoSaid : Prop := knitRunsUptoRow.holds Try.pinned (OpenSpec.upto knitRunsSpec)

end Rows
end Go.Proofs.Ytpllmfoaahaciaa
