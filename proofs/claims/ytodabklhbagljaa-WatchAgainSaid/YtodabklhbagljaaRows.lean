/-
  No cell of these rows narrows 'for every input' (looked for: loops, veiled, ifaces, maps, wideKeys, modest, calm, conditions, laid).
  DERIVED. THE GIVEN ROWS OF THIS SEAT. 5 by the template 'for every input the law returns true; each argument reads behind the call as it read before'; 0 by the template 'total and deterministic' (their statements: YtodabklhbagljaaTotals.lean).
  GIVEN WITH THE SEED: the statements are not yours to turn. If you find one false, say at which input.
  Laid BY PROGRAM, IN A SANDBOX (cutbox-rows.mjs): the forced cells as the released guide's own fill.sh prints them over the translation f7f62e501f0f6392… (all of the seat's roots in one cut). By AI agents, Wed Nov 11 2026. No macro, syntax, notation, axiom, sorry.
-/
import Derived.Test.YtodabklhbagljaaChecked
import GoSem.Claim
import GoSem.ClaimJoined
import GoSem.ClaimMapViews
import Derived.JoinedTies
import Derived.KernelRfl
namespace Go.Proofs.Ytodabklhbagljaa
/- THE CELL 'sum', in the pinned program and in every row, IS THE sha256 OF THE DUMP (.gsa) THAT YtodabklhbagljaaProg.lean LOADS. Nothing in Lean hashes anything: it is a label: what it is worth is what the hold of that sum in a sandbox is worth. -/
noncomputable def Try.pinned : Pinned := { name := "ytodabklhbagljaa", sum := "f7f62e501f0f63924340c4c62f4e49a109cbed87a754cfa5db2a833ae8c5ec3e", checked := Try.checked }
namespace Rows
def none {H : Type} : Left H := { results := [], args := [] }

/-- 'lariatlaw05.WatchOrders': WHATEVER THE INPUT: true; the input reads as it did. -/
def watchOrdersSpec : ChangeSpec := { name := "watchOrders", fn := fun _ => fun
  | [d1, d2, d3] => { results := [.lit (.bool true)], args := [d1, d2, d3] }
  | _ => none }
def watchOrdersRow : OpenClaim := { program := "ytodabklhbagljaa", sum := "f7f62e501f0f63924340c4c62f4e49a109cbed87a754cfa5db2a833ae8c5ec3e", func := "lariat/lariatlaw05.WatchOrders", spec := "watchOrders", unfollowed := true, recurses := true, apart := false }
def WatchOrdersSaid : Prop := watchOrdersRow.holds Try.pinned (OpenSpec.ofChange watchOrdersSpec)

/-- ITS FALSE NEIGHBOUR: 'it returns false'. Refute it at one input. -/
def watchOrdersWrong : ChangeSpec := { name := "watchOrders", fn := fun _ => fun
  | [d1, d2, d3] => { results := [.lit (.bool false)], args := [d1, d2, d3] }
  | _ => none }
def WatchOrdersWrongFalsely : Prop := watchOrdersRow.holds Try.pinned (OpenSpec.ofChange watchOrdersWrong)

/-- 'lariatlaw05.WatchMore': WHATEVER THE INPUT: true; the input reads as it did. -/
def watchMoreSpec : ChangeSpec := { name := "watchMore", fn := fun _ => fun
  | [d1, d2, d3] => { results := [.lit (.bool true)], args := [d1, d2, d3] }
  | _ => none }
def watchMoreRow : OpenClaim := { program := "ytodabklhbagljaa", sum := "f7f62e501f0f63924340c4c62f4e49a109cbed87a754cfa5db2a833ae8c5ec3e", func := "lariat/lariatlaw05.WatchMore", spec := "watchMore", unfollowed := true, recurses := true, apart := false }
def WatchMoreSaid : Prop := watchMoreRow.holds Try.pinned (OpenSpec.ofChange watchMoreSpec)

/-- ITS FALSE NEIGHBOUR: 'it returns false'. Refute it at one input. -/
def watchMoreWrong : ChangeSpec := { name := "watchMore", fn := fun _ => fun
  | [d1, d2, d3] => { results := [.lit (.bool false)], args := [d1, d2, d3] }
  | _ => none }
def WatchMoreWrongFalsely : Prop := watchMoreRow.holds Try.pinned (OpenSpec.ofChange watchMoreWrong)

/-- 'lariatlaw05.WatchAgain': WHATEVER THE INPUT: true; the input reads as it did. -/
def watchAgainSpec : ChangeSpec := { name := "watchAgain", fn := fun _ => fun
  | [d1, d2] => { results := [.lit (.bool true)], args := [d1, d2] }
  | _ => none }
def watchAgainRow : OpenClaim := { program := "ytodabklhbagljaa", sum := "f7f62e501f0f63924340c4c62f4e49a109cbed87a754cfa5db2a833ae8c5ec3e", func := "lariat/lariatlaw05.WatchAgain", spec := "watchAgain", unfollowed := true, recurses := true, apart := false }
def WatchAgainSaid : Prop := watchAgainRow.holds Try.pinned (OpenSpec.ofChange watchAgainSpec)

/-- ITS FALSE NEIGHBOUR: 'it returns false'. Refute it at one input. -/
def watchAgainWrong : ChangeSpec := { name := "watchAgain", fn := fun _ => fun
  | [d1, d2] => { results := [.lit (.bool false)], args := [d1, d2] }
  | _ => none }
def WatchAgainWrongFalsely : Prop := watchAgainRow.holds Try.pinned (OpenSpec.ofChange watchAgainWrong)

/-- 'lariatlaw05.WatchNames': WHATEVER THE INPUT: true; the input reads as it did. -/
def watchNamesSpec : ChangeSpec := { name := "watchNames", fn := fun _ => fun
  | [] => { results := [.lit (.bool true)], args := [] }
  | _ => none }
def watchNamesRow : OpenClaim := { program := "ytodabklhbagljaa", sum := "f7f62e501f0f63924340c4c62f4e49a109cbed87a754cfa5db2a833ae8c5ec3e", func := "lariat/lariatlaw05.WatchNames", spec := "watchNames", unfollowed := true, recurses := true, apart := false }
def WatchNamesSaid : Prop := watchNamesRow.holds Try.pinned (OpenSpec.ofChange watchNamesSpec)

/-- ITS FALSE NEIGHBOUR: 'it returns false'. Refute it at one input. -/
def watchNamesWrong : ChangeSpec := { name := "watchNames", fn := fun _ => fun
  | [] => { results := [.lit (.bool false)], args := [] }
  | _ => none }
def WatchNamesWrongFalsely : Prop := watchNamesRow.holds Try.pinned (OpenSpec.ofChange watchNamesWrong)

/-- 'lariatlaw05.WatchRuns': WHATEVER THE INPUT: true; the input reads as it did. -/
def watchRunsSpec : ChangeSpec := { name := "watchRuns", fn := fun _ => fun
  | [d1, d2] => { results := [.lit (.bool true)], args := [d1, d2] }
  | _ => none }
def watchRunsRow : OpenClaim := { program := "ytodabklhbagljaa", sum := "f7f62e501f0f63924340c4c62f4e49a109cbed87a754cfa5db2a833ae8c5ec3e", func := "lariat/lariatlaw05.WatchRuns", spec := "watchRuns", unfollowed := true, recurses := true, apart := false }
def WatchRunsSaid : Prop := watchRunsRow.holds Try.pinned (OpenSpec.ofChange watchRunsSpec)

/-- ITS FALSE NEIGHBOUR: 'it returns false'. Refute it at one input. -/
def watchRunsWrong : ChangeSpec := { name := "watchRuns", fn := fun _ => fun
  | [d1, d2] => { results := [.lit (.bool false)], args := [d1, d2] }
  | _ => none }
def WatchRunsWrongFalsely : Prop := watchRunsRow.holds Try.pinned (OpenSpec.ofChange watchRunsWrong)

/- THE SECOND FORM. 'bulk': how many values and letters a reading holds, each counted each time it is reached (what is shared counts as often as it is met; a slice's spare places count too). A statement '..UptoSaid' is the law's where the arguments, and the package variables that the reading takes, are together of bulk at most 1048576: NARROWER than '..Said'. Prove '..Said' where nothing that the law and all that it calls make is longer than what came in: it says more and counts as full. Else prove '..UptoSaid'. A law counts once. -/
mutual
def uptoBulk {H : Type} : DataW H → Nat
  | .lit (.string bytes) => bytes.length + 1
  | .lit _ => 1
  | .nil => 1
  | .ptr d => uptoBulk d + 1
  | .slice elems spare => uptoBulkAll elems + uptoBulkAll spare + 1
  | .agg parts => uptoBulkAll parts + 1
  | .iface _ d => uptoBulk d + 1
  | .map entries => uptoBulkEntries entries + 1
  | .held _ => 1
def uptoBulkAll {H : Type} : List (DataW H) → Nat
  | [] => 0
  | d :: r => uptoBulk d + uptoBulkAll r
def uptoBulkEntries {H : Type} : List (Lit × DataW H) → Nat
  | [] => 0
  | x :: r => uptoBulkEntry x + uptoBulkEntries r
def uptoBulkEntry {H : Type} : Lit × DataW H → Nat
  | (.string bytes, d) => bytes.length + uptoBulk d + 1
  | (_, d) => uptoBulk d + 1
 end
def uptoSmall : (H : Type) → List (DataW H) → Bool := fun _ ds => decide (uptoBulkAll ds ≤ 1048576)
def OpenSpec.upto (s : _root_.Go.ChangeSpec) : _root_.Go.OpenSpec := { _root_.Go.OpenSpec.ofChange s with cond := some uptoSmall }

/-- 'lariatlaw05.WatchOrders', WHERE WHAT IT READS IS OF BULK AT MOST 1048576: true; the input reads as it did. -/
def watchOrdersUptoRow : OpenClaim := { program := "ytodabklhbagljaa", sum := "f7f62e501f0f63924340c4c62f4e49a109cbed87a754cfa5db2a833ae8c5ec3e", func := "lariat/lariatlaw05.WatchOrders", spec := "watchOrders", unfollowed := true, recurses := true, apart := false, narrowed := true }
def WatchOrdersUptoSaid : Prop := watchOrdersUptoRow.holds Try.pinned (OpenSpec.upto watchOrdersSpec)

/-- 'lariatlaw05.WatchMore', WHERE WHAT IT READS IS OF BULK AT MOST 1048576: true; the input reads as it did. -/
def watchMoreUptoRow : OpenClaim := { program := "ytodabklhbagljaa", sum := "f7f62e501f0f63924340c4c62f4e49a109cbed87a754cfa5db2a833ae8c5ec3e", func := "lariat/lariatlaw05.WatchMore", spec := "watchMore", unfollowed := true, recurses := true, apart := false, narrowed := true }
def WatchMoreUptoSaid : Prop := watchMoreUptoRow.holds Try.pinned (OpenSpec.upto watchMoreSpec)

/-- 'lariatlaw05.WatchAgain', WHERE WHAT IT READS IS OF BULK AT MOST 1048576: true; the input reads as it did. -/
def watchAgainUptoRow : OpenClaim := { program := "ytodabklhbagljaa", sum := "f7f62e501f0f63924340c4c62f4e49a109cbed87a754cfa5db2a833ae8c5ec3e", func := "lariat/lariatlaw05.WatchAgain", spec := "watchAgain", unfollowed := true, recurses := true, apart := false, narrowed := true }
def WatchAgainUptoSaid : Prop := watchAgainUptoRow.holds Try.pinned (OpenSpec.upto watchAgainSpec)

/-- 'lariatlaw05.WatchNames', WHERE WHAT IT READS IS OF BULK AT MOST 1048576: true; the input reads as it did. -/
def watchNamesUptoRow : OpenClaim := { program := "ytodabklhbagljaa", sum := "f7f62e501f0f63924340c4c62f4e49a109cbed87a754cfa5db2a833ae8c5ec3e", func := "lariat/lariatlaw05.WatchNames", spec := "watchNames", unfollowed := true, recurses := true, apart := false, narrowed := true }
def WatchNamesUptoSaid : Prop := watchNamesUptoRow.holds Try.pinned (OpenSpec.upto watchNamesSpec)

/-- 'lariatlaw05.WatchRuns', WHERE WHAT IT READS IS OF BULK AT MOST 1048576: true; the input reads as it did. -/
def watchRunsUptoRow : OpenClaim := { program := "ytodabklhbagljaa", sum := "f7f62e501f0f63924340c4c62f4e49a109cbed87a754cfa5db2a833ae8c5ec3e", func := "lariat/lariatlaw05.WatchRuns", spec := "watchRuns", unfollowed := true, recurses := true, apart := false, narrowed := true }
def WatchRunsUptoSaid : Prop := watchRunsUptoRow.holds Try.pinned (OpenSpec.upto watchRunsSpec)

end Rows
end Go.Proofs.Ytodabklhbagljaa
