/-
  No cell of these rows narrows 'for every input' (looked for: loops, veiled, ifaces, maps, wideKeys, modest, calm, conditions, laid).
  DERIVED. THE GIVEN ROWS OF THIS SEAT. 5 by the template 'for every input the law returns true; each argument reads behind the call as it read before'; 0 by the template 'total and deterministic' (their statements: YtcibiidebknkgaaGreatTotals.lean).
  GIVEN WITH THE SEED: the statements are not yours to turn. If you find one false, say at which input.
  Laid BY PROGRAM, IN A SANDBOX (cutbox-rows.mjs): the forced cells as the released guide's own fill.sh prints them over the translation 90966a4e1c0434f0… (all of the seat's roots in one cut). By AI agents, Wed Nov 11 2026. No macro, syntax, notation, axiom, sorry.
-/
import Derived.Test.YtcibiidebknkgaaGreatChecked
import GoSem.Claim
import GoSem.ClaimJoined
import GoSem.ClaimMapViews
import Derived.JoinedTies
import Derived.KernelRfl
namespace Go.Proofs.YtcibiidebknkgaaGreat
/- THE CELL 'sum', in the pinned program and in every row, IS THE sha256 OF THE DUMP (.gsa) THAT YtcibiidebknkgaaGreatProg.lean LOADS. Nothing in Lean hashes anything: it is a label: what it is worth is what the hold of that sum in a sandbox is worth. -/
noncomputable def Tryz.pinned : Pinned := { name := "ytcibiidebknkgaagreat", sum := "90966a4e1c0434f09378aadea95101de67d7bb80d4dd51a166d995b3692e2931", checked := Tryz.checked }
namespace Rows
def none {H : Type} : Left H := { results := [], args := [] }

/-- 'lariatlaw08.SatNames': WHATEVER THE INPUT: true; the input reads as it did. -/
def satNamesSpec : ChangeSpec := { name := "satNames", fn := fun _ => fun
  | [] => { results := [.lit (.bool true)], args := [] }
  | _ => none }
def satNamesRow : OpenClaim := { program := "ytcibiidebknkgaagreat", sum := "90966a4e1c0434f09378aadea95101de67d7bb80d4dd51a166d995b3692e2931", func := "lariat/lariatlaw08.SatNames", spec := "satNames", unfollowed := true, recurses := true, apart := false }
def SatNamesSaid : Prop := satNamesRow.holds Tryz.pinned (OpenSpec.ofChange satNamesSpec)

/-- ITS FALSE NEIGHBOUR: 'it returns false'. Refute it at one input. -/
def satNamesWrong : ChangeSpec := { name := "satNames", fn := fun _ => fun
  | [] => { results := [.lit (.bool false)], args := [] }
  | _ => none }
def SatNamesWrongFalsely : Prop := satNamesRow.holds Tryz.pinned (OpenSpec.ofChange satNamesWrong)

/-- 'lariatlaw08.SatAgrees': WHATEVER THE INPUT: true; the input reads as it did. -/
def satAgreesSpec : ChangeSpec := { name := "satAgrees", fn := fun _ => fun
  | [d1, d2, d3] => { results := [.lit (.bool true)], args := [d1, d2, d3] }
  | _ => none }
def satAgreesRow : OpenClaim := { program := "ytcibiidebknkgaagreat", sum := "90966a4e1c0434f09378aadea95101de67d7bb80d4dd51a166d995b3692e2931", func := "lariat/lariatlaw08.SatAgrees", spec := "satAgrees", unfollowed := true, recurses := true, apart := false }
def SatAgreesSaid : Prop := satAgreesRow.holds Tryz.pinned (OpenSpec.ofChange satAgreesSpec)

/-- ITS FALSE NEIGHBOUR: 'it returns false'. Refute it at one input. -/
def satAgreesWrong : ChangeSpec := { name := "satAgrees", fn := fun _ => fun
  | [d1, d2, d3] => { results := [.lit (.bool false)], args := [d1, d2, d3] }
  | _ => none }
def SatAgreesWrongFalsely : Prop := satAgreesRow.holds Tryz.pinned (OpenSpec.ofChange satAgreesWrong)

/-- 'lariatlaw08.SatCounts': WHATEVER THE INPUT: true; the input reads as it did. -/
def satCountsSpec : ChangeSpec := { name := "satCounts", fn := fun _ => fun
  | [d1, d2, d3] => { results := [.lit (.bool true)], args := [d1, d2, d3] }
  | _ => none }
def satCountsRow : OpenClaim := { program := "ytcibiidebknkgaagreat", sum := "90966a4e1c0434f09378aadea95101de67d7bb80d4dd51a166d995b3692e2931", func := "lariat/lariatlaw08.SatCounts", spec := "satCounts", unfollowed := true, recurses := true, apart := false }
def SatCountsSaid : Prop := satCountsRow.holds Tryz.pinned (OpenSpec.ofChange satCountsSpec)

/-- ITS FALSE NEIGHBOUR: 'it returns false'. Refute it at one input. -/
def satCountsWrong : ChangeSpec := { name := "satCounts", fn := fun _ => fun
  | [d1, d2, d3] => { results := [.lit (.bool false)], args := [d1, d2, d3] }
  | _ => none }
def SatCountsWrongFalsely : Prop := satCountsRow.holds Tryz.pinned (OpenSpec.ofChange satCountsWrong)

/-- 'lariatlaw08.SatAll': WHATEVER THE INPUT: true; the input reads as it did. -/
def satAllSpec : ChangeSpec := { name := "satAll", fn := fun _ => fun
  | [d1, d2] => { results := [.lit (.bool true)], args := [d1, d2] }
  | _ => none }
def satAllRow : OpenClaim := { program := "ytcibiidebknkgaagreat", sum := "90966a4e1c0434f09378aadea95101de67d7bb80d4dd51a166d995b3692e2931", func := "lariat/lariatlaw08.SatAll", spec := "satAll", unfollowed := true, recurses := true, apart := false }
def SatAllSaid : Prop := satAllRow.holds Tryz.pinned (OpenSpec.ofChange satAllSpec)

/-- ITS FALSE NEIGHBOUR: 'it returns false'. Refute it at one input. -/
def satAllWrong : ChangeSpec := { name := "satAll", fn := fun _ => fun
  | [d1, d2] => { results := [.lit (.bool false)], args := [d1, d2] }
  | _ => none }
def SatAllWrongFalsely : Prop := satAllRow.holds Tryz.pinned (OpenSpec.ofChange satAllWrong)

/-- 'lariatlaw08.SatMore': WHATEVER THE INPUT: true; the input reads as it did. -/
def satMoreSpec : ChangeSpec := { name := "satMore", fn := fun _ => fun
  | [d1, d2, d3] => { results := [.lit (.bool true)], args := [d1, d2, d3] }
  | _ => none }
def satMoreRow : OpenClaim := { program := "ytcibiidebknkgaagreat", sum := "90966a4e1c0434f09378aadea95101de67d7bb80d4dd51a166d995b3692e2931", func := "lariat/lariatlaw08.SatMore", spec := "satMore", unfollowed := true, recurses := true, apart := false }
def SatMoreSaid : Prop := satMoreRow.holds Tryz.pinned (OpenSpec.ofChange satMoreSpec)

/-- ITS FALSE NEIGHBOUR: 'it returns false'. Refute it at one input. -/
def satMoreWrong : ChangeSpec := { name := "satMore", fn := fun _ => fun
  | [d1, d2, d3] => { results := [.lit (.bool false)], args := [d1, d2, d3] }
  | _ => none }
def SatMoreWrongFalsely : Prop := satMoreRow.holds Tryz.pinned (OpenSpec.ofChange satMoreWrong)

/- THE SECOND FORM. 'bulk': how many values and letters a reading holds, each counted each time it is reached (what is shared counts as often as it is met; a slice's spare places count too). A statement '..UptoSaid' is the law's where the arguments, and the package variables that the reading takes, are together of bulk at most 1048576: NARROWER than '..Said'. Prove '..Said' where nothing that the law and all that it calls make is longer than what came in: it says more and counts as full. Else prove '..UptoSaid'. A law counts once. -/
mutual
def uptoBulk {H : Type} : DataW H → Nat
  | .lit (.string bytes) => bytes.length + 1
  | .lit _ => 1
  | .nil => 1
  | .ptr d => uptoBulk d + 1
  | .slice elems spare => uptoBulkAll elems + uptoBulkAll spare + 1
  | .agg parts => uptoBulkAll parts + 1
  | .iface _ d => uptoBulk d + 1
  | .map entries => uptoBulkEntries entries + 1
  | .held _ => 1
def uptoBulkAll {H : Type} : List (DataW H) → Nat
  | [] => 0
  | d :: r => uptoBulk d + uptoBulkAll r
def uptoBulkEntries {H : Type} : List (Lit × DataW H) → Nat
  | [] => 0
  | x :: r => uptoBulkEntry x + uptoBulkEntries r
def uptoBulkEntry {H : Type} : Lit × DataW H → Nat
  | (.string bytes, d) => bytes.length + uptoBulk d + 1
  | (_, d) => uptoBulk d + 1
 end
def uptoSmall : (H : Type) → List (DataW H) → Bool := fun _ ds => decide (uptoBulkAll ds ≤ 1048576)
def OpenSpec.upto (s : _root_.Go.ChangeSpec) : _root_.Go.OpenSpec := { _root_.Go.OpenSpec.ofChange s with cond := some uptoSmall }

/-- 'lariatlaw08.SatNames', WHERE WHAT IT READS IS OF BULK AT MOST 1048576: true; the input reads as it did. -/
def satNamesUptoRow : OpenClaim := { program := "ytcibiidebknkgaagreat", sum := "90966a4e1c0434f09378aadea95101de67d7bb80d4dd51a166d995b3692e2931", func := "lariat/lariatlaw08.SatNames", spec := "satNames", unfollowed := true, recurses := true, apart := false, narrowed := true }
def SatNamesUptoSaid : Prop := satNamesUptoRow.holds Tryz.pinned (OpenSpec.upto satNamesSpec)

/-- 'lariatlaw08.SatAgrees', WHERE WHAT IT READS IS OF BULK AT MOST 1048576: true; the input reads as it did. -/
def satAgreesUptoRow : OpenClaim := { program := "ytcibiidebknkgaagreat", sum := "90966a4e1c0434f09378aadea95101de67d7bb80d4dd51a166d995b3692e2931", func := "lariat/lariatlaw08.SatAgrees", spec := "satAgrees", unfollowed := true, recurses := true, apart := false, narrowed := true }
def SatAgreesUptoSaid : Prop := satAgreesUptoRow.holds Tryz.pinned (OpenSpec.upto satAgreesSpec)

/-- 'lariatlaw08.SatCounts', WHERE WHAT IT READS IS OF BULK AT MOST 1048576: true; the input reads as it did. -/
def satCountsUptoRow : OpenClaim := { program := "ytcibiidebknkgaagreat", sum := "90966a4e1c0434f09378aadea95101de67d7bb80d4dd51a166d995b3692e2931", func := "lariat/lariatlaw08.SatCounts", spec := "satCounts", unfollowed := true, recurses := true, apart := false, narrowed := true }
def SatCountsUptoSaid : Prop := satCountsUptoRow.holds Tryz.pinned (OpenSpec.upto satCountsSpec)

/-- 'lariatlaw08.SatAll', WHERE WHAT IT READS IS OF BULK AT MOST 1048576: true; the input reads as it did. -/
def satAllUptoRow : OpenClaim := { program := "ytcibiidebknkgaagreat", sum := "90966a4e1c0434f09378aadea95101de67d7bb80d4dd51a166d995b3692e2931", func := "lariat/lariatlaw08.SatAll", spec := "satAll", unfollowed := true, recurses := true, apart := false, narrowed := true }
def SatAllUptoSaid : Prop := satAllUptoRow.holds Tryz.pinned (OpenSpec.upto satAllSpec)

/-- 'lariatlaw08.SatMore', WHERE WHAT IT READS IS OF BULK AT MOST 1048576: true; the input reads as it did. -/
def satMoreUptoRow : OpenClaim := { program := "ytcibiidebknkgaagreat", sum := "90966a4e1c0434f09378aadea95101de67d7bb80d4dd51a166d995b3692e2931", func := "lariat/lariatlaw08.SatMore", spec := "satMore", unfollowed := true, recurses := true, apart := false, narrowed := true }
def SatMoreUptoSaid : Prop := satMoreUptoRow.holds Tryz.pinned (OpenSpec.upto satMoreSpec)

end Rows
end Go.Proofs.YtcibiidebknkgaaGreat
