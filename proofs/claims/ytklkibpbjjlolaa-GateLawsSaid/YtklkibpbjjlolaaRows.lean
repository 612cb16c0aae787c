/-
  No cell of these rows narrows 'for every input' (looked for: loops, veiled, ifaces, maps, wideKeys, modest, calm, conditions, laid).
  DERIVED. THE GIVEN ROWS OF THIS SEAT. 5 by the template 'for every input the law returns true; each argument reads behind the call as it read before'; 0 by the template 'total and deterministic' (their statements: YtklkibpbjjlolaaTotals.lean).
  GIVEN WITH THE SEED: the statements are not yours to turn. If you find one false, say at which input.
  Laid BY PROGRAM, IN A SANDBOX (cutbox-rows.mjs): the forced cells as the released guide's own fill.sh prints them over the translation b6ae0c704bd3c5c1… (all of the seat's roots in one cut). By AI agents, Wed Nov 11 2026. No macro, syntax, notation, axiom, sorry.
-/
import Derived.Test.YtklkibpbjjlolaaChecked
import GoSem.Claim
import GoSem.ClaimJoined
import GoSem.ClaimMapViews
import Derived.JoinedTies
import Derived.KernelRfl
namespace Go.Proofs.Ytklkibpbjjlolaa
/- THE CELL 'sum', in the pinned program and in every row, IS THE sha256 OF THE DUMP (.gsa) THAT YtklkibpbjjlolaaProg.lean LOADS. Nothing in Lean hashes anything: it is a label: what it is worth is what the hold of that sum in a sandbox is worth. -/
noncomputable def Try.pinned : Pinned := { name := "ytklkibpbjjlolaa", sum := "b6ae0c704bd3c5c1c88f7a21736a4d849b28699c76240d9f0e27427c3dbc28a9", checked := Try.checked }
namespace Rows
def none {H : Type} : Left H := { results := [], args := [] }

/-- 'lariatlaw10.GateLaws': WHATEVER THE INPUT: true; the input reads as it did. -/
def gateLawsSpec : ChangeSpec := { name := "gateLaws", fn := fun _ => fun
  | [d1, d2, d3] => { results := [.lit (.bool true)], args := [d1, d2, d3] }
  | _ => none }
def gateLawsRow : OpenClaim := { program := "ytklkibpbjjlolaa", sum := "b6ae0c704bd3c5c1c88f7a21736a4d849b28699c76240d9f0e27427c3dbc28a9", func := "lariat/lariatlaw10.GateLaws", spec := "gateLaws", unfollowed := true, recurses := true, plainKeys := false, apart := false }
def GateLawsSaid : Prop := gateLawsRow.holds Try.pinned (OpenSpec.ofChange gateLawsSpec)

/-- ITS FALSE NEIGHBOUR: 'it returns false'. Refute it at one input. -/
def gateLawsWrong : ChangeSpec := { name := "gateLaws", fn := fun _ => fun
  | [d1, d2, d3] => { results := [.lit (.bool false)], args := [d1, d2, d3] }
  | _ => none }
def GateLawsWrongFalsely : Prop := gateLawsRow.holds Try.pinned (OpenSpec.ofChange gateLawsWrong)

/-- 'lariatlaw10.GateOnce': WHATEVER THE INPUT: true; the input reads as it did. -/
def gateOnceSpec : ChangeSpec := { name := "gateOnce", fn := fun _ => fun
  | [d1, d2] => { results := [.lit (.bool true)], args := [d1, d2] }
  | _ => none }
def gateOnceRow : OpenClaim := { program := "ytklkibpbjjlolaa", sum := "b6ae0c704bd3c5c1c88f7a21736a4d849b28699c76240d9f0e27427c3dbc28a9", func := "lariat/lariatlaw10.GateOnce", spec := "gateOnce", unfollowed := true, recurses := true, plainKeys := false, apart := false }
def GateOnceSaid : Prop := gateOnceRow.holds Try.pinned (OpenSpec.ofChange gateOnceSpec)

/-- ITS FALSE NEIGHBOUR: 'it returns false'. Refute it at one input. -/
def gateOnceWrong : ChangeSpec := { name := "gateOnce", fn := fun _ => fun
  | [d1, d2] => { results := [.lit (.bool false)], args := [d1, d2] }
  | _ => none }
def GateOnceWrongFalsely : Prop := gateOnceRow.holds Try.pinned (OpenSpec.ofChange gateOnceWrong)

/-- 'lariatlaw10.GateRuns': WHATEVER THE INPUT: true; the input reads as it did. -/
def gateRunsSpec : ChangeSpec := { name := "gateRuns", fn := fun _ => fun
  | [d1, d2] => { results := [.lit (.bool true)], args := [d1, d2] }
  | _ => none }
def gateRunsRow : OpenClaim := { program := "ytklkibpbjjlolaa", sum := "b6ae0c704bd3c5c1c88f7a21736a4d849b28699c76240d9f0e27427c3dbc28a9", func := "lariat/lariatlaw10.GateRuns", spec := "gateRuns", unfollowed := true, recurses := true, plainKeys := false, apart := false }
def GateRunsSaid : Prop := gateRunsRow.holds Try.pinned (OpenSpec.ofChange gateRunsSpec)

/-- ITS FALSE NEIGHBOUR: 'it returns false'. Refute it at one input. -/
def gateRunsWrong : ChangeSpec := { name := "gateRuns", fn := fun _ => fun
  | [d1, d2] => { results := [.lit (.bool false)], args := [d1, d2] }
  | _ => none }
def GateRunsWrongFalsely : Prop := gateRunsRow.holds Try.pinned (OpenSpec.ofChange gateRunsWrong)

/-- 'lariatlaw10.GateNames': WHATEVER THE INPUT: true; the input reads as it did. -/
def gateNamesSpec : ChangeSpec := { name := "gateNames", fn := fun _ => fun
  | [] => { results := [.lit (.bool true)], args := [] }
  | _ => none }
def gateNamesRow : OpenClaim := { program := "ytklkibpbjjlolaa", sum := "b6ae0c704bd3c5c1c88f7a21736a4d849b28699c76240d9f0e27427c3dbc28a9", func := "lariat/lariatlaw10.GateNames", spec := "gateNames", unfollowed := true, recurses := true, plainKeys := false, apart := false }
def GateNamesSaid : Prop := gateNamesRow.holds Try.pinned (OpenSpec.ofChange gateNamesSpec)

/-- ITS FALSE NEIGHBOUR: 'it returns false'. Refute it at one input. -/
def gateNamesWrong : ChangeSpec := { name := "gateNames", fn := fun _ => fun
  | [] => { results := [.lit (.bool false)], args := [] }
  | _ => none }
def GateNamesWrongFalsely : Prop := gateNamesRow.holds Try.pinned (OpenSpec.ofChange gateNamesWrong)

/-- 'lariatlaw10.GateCones': WHATEVER THE INPUT: true; the input reads as it did. -/
def gateConesSpec : ChangeSpec := { name := "gateCones", fn := fun _ => fun
  | [d1, d2, d3] => { results := [.lit (.bool true)], args := [d1, d2, d3] }
  | _ => none }
def gateConesRow : OpenClaim := { program := "ytklkibpbjjlolaa", sum := "b6ae0c704bd3c5c1c88f7a21736a4d849b28699c76240d9f0e27427c3dbc28a9", func := "lariat/lariatlaw10.GateCones", spec := "gateCones", unfollowed := true, recurses := true, plainKeys := false, apart := false }
def GateConesSaid : Prop := gateConesRow.holds Try.pinned (OpenSpec.ofChange gateConesSpec)

/-- ITS FALSE NEIGHBOUR: 'it returns false'. Refute it at one input. -/
def gateConesWrong : ChangeSpec := { name := "gateCones", fn := fun _ => fun
  | [d1, d2, d3] => { results := [.lit (.bool false)], args := [d1, d2, d3] }
  | _ => none }
def GateConesWrongFalsely : Prop := gateConesRow.holds Try.pinned (OpenSpec.ofChange gateConesWrong)

/- THE SECOND FORM. 'bulk': how many values and letters a reading holds, each counted each time it is reached (what is shared counts as often as it is met; a slice's spare places count too). A statement '..UptoSaid' is the law's where the arguments, and the package variables that the reading takes, are together of bulk at most 1048576: NARROWER than '..Said'. Prove '..Said' where nothing that the law and all that it calls make is longer than what came in: it says more and counts as full. Else prove '..UptoSaid'. A law counts once. -/
mutual
def uptoBulk {H : Type} : DataW H → Nat
  | .lit (.string bytes) => bytes.length + 1
  | .lit _ => 1
  | .nil => 1
  | .ptr d => uptoBulk d + 1
  | .slice elems spare => uptoBulkAll elems + uptoBulkAll spare + 1
  | .agg parts => uptoBulkAll parts + 1
  | .iface _ d => uptoBulk d + 1
  | .map entries => uptoBulkEntries entries + 1
  | .held _ => 1
def uptoBulkAll {H : Type} : List (DataW H) → Nat
  | [] => 0
  | d :: r => uptoBulk d + uptoBulkAll r
def uptoBulkEntries {H : Type} : List (Lit × DataW H) → Nat
  | [] => 0
  | x :: r => uptoBulkEntry x + uptoBulkEntries r
def uptoBulkEntry {H : Type} : Lit × DataW H → Nat
  | (.string bytes, d) => bytes.length + uptoBulk d + 1
  | (_, d) => uptoBulk d + 1
 end
def uptoSmall : (H : Type) → List (DataW H) → Bool := fun _ ds => decide (uptoBulkAll ds ≤ 1048576)
def OpenSpec.upto (s : _root_.Go.ChangeSpec) : _root_.Go.OpenSpec := { _root_.Go.OpenSpec.ofChange s with cond := some uptoSmall }

/-- 'lariatlaw10.GateLaws', WHERE WHAT IT READS IS OF BULK AT MOST 1048576: true; the input reads as it did. -/
def gateLawsUptoRow : OpenClaim := { program := "ytklkibpbjjlolaa", sum := "b6ae0c704bd3c5c1c88f7a21736a4d849b28699c76240d9f0e27427c3dbc28a9", func := "lariat/lariatlaw10.GateLaws", spec := "gateLaws", unfollowed := true, recurses := true, plainKeys := false, apart := false, narrowed := true }
def GateLawsUptoSaid : Prop := gateLawsUptoRow.holds Try.pinned (OpenSpec.upto gateLawsSpec)

/-- 'lariatlaw10.GateOnce', WHERE WHAT IT READS IS OF BULK AT MOST 1048576: true; the input reads as it did. -/
def gateOnceUptoRow : OpenClaim := { program := "ytklkibpbjjlolaa", sum := "b6ae0c704bd3c5c1c88f7a21736a4d849b28699c76240d9f0e27427c3dbc28a9", func := "lariat/lariatlaw10.GateOnce", spec := "gateOnce", unfollowed := true, recurses := true, plainKeys := false, apart := false, narrowed := true }
def GateOnceUptoSaid : Prop := gateOnceUptoRow.holds Try.pinned (OpenSpec.upto gateOnceSpec)

/-- 'lariatlaw10.GateRuns', WHERE WHAT IT READS IS OF BULK AT MOST 1048576: true; the input reads as it did. -/
def gateRunsUptoRow : OpenClaim := { program := "ytklkibpbjjlolaa", sum := "b6ae0c704bd3c5c1c88f7a21736a4d849b28699c76240d9f0e27427c3dbc28a9", func := "lariat/lariatlaw10.GateRuns", spec := "gateRuns", unfollowed := true, recurses := true, plainKeys := false, apart := false, narrowed := true }
def GateRunsUptoSaid : Prop := gateRunsUptoRow.holds Try.pinned (OpenSpec.upto gateRunsSpec)

/-- 'lariatlaw10.GateNames', WHERE WHAT IT READS IS OF BULK AT MOST 1048576: true; the input reads as it did. -/
def gateNamesUptoRow : OpenClaim := { program := "ytklkibpbjjlolaa", sum := "b6ae0c704bd3c5c1c88f7a21736a4d849b28699c76240d9f0e27427c3dbc28a9", func := "lariat/lariatlaw10.GateNames", spec := "gateNames", unfollowed := true, recurses := true, plainKeys := false, apart := false, narrowed := true }
def GateNamesUptoSaid : Prop := gateNamesUptoRow.holds Try.pinned (OpenSpec.upto gateNamesSpec)

/-- 'lariatlaw10.GateCones', WHERE WHAT IT READS IS OF BULK AT MOST 1048576: true; the input reads as it did. -/
def gateConesUptoRow : OpenClaim := { program := "ytklkibpbjjlolaa", sum := "b6ae0c704bd3c5c1c88f7a21736a4d849b28699c76240d9f0e27427c3dbc28a9", func := "lariat/lariatlaw10.GateCones", spec := "gateCones", unfollowed := true, recurses := true, plainKeys := false, apart := false, narrowed := true }
def GateConesUptoSaid : Prop := gateConesUptoRow.holds Try.pinned (OpenSpec.upto gateConesSpec)

end Rows
end Go.Proofs.Ytklkibpbjjlolaa
