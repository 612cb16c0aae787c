/- An engine: a clause less. -/
import Derived.Test.YtajllmlgihbdhaaWatchB
set_option linter.unusedVariables false
set_option linter.unusedSimpArgs false
namespace Go.Proofs.Ytajllmlgihbdhaa
open Go Go.Vc Go.Watch
open Go.Trail (Ent value find upto okLit litsV)
set_option maxHeartbeats 4000000
set_option maxRecDepth 100000

theorem row_off : ∀ {R : List Cr} {id : Nat} {a : Option Addr} {k : Nat} {c : Cls}, R[id]? = some (a, k, c) → (R.flatMap row3).set (id * 3 + 1) (.bool false) = (R.set id (a, k, { c with on := false })).flatMap row3
  | [], id, a, k, c, h => by simp at h
  | x :: R, 0, a, k, c, h => by
    simp at h; subst h
    rfl
  | x :: R, id + 1, a, k, c, h => by
    have ih := row_off (R := R) (id := id) (a := a) (k := k) (c := c) (by simpa using h)
    rw [List.set_cons_succ, List.flatMap_cons, List.flatMap_cons, ← ih]
    rw [List.set_append_right _ _ (by rw [row3_len]; omega), row3_len]
    congr 2; omega
theorem big_same {R : List Cr} {id : Nat} {x y : Cr} (hx : R[id]? = some x) (h : clauR y = clauR x) : bigR (fun _ x => clauR x) (R.set id y) = bigR (fun _ x => clauR x) R := by
  unfold bigR
  have e1 := bigL_set (f := fun (_ : Nat) (x : Cr) => clauR x) (xs := R) (k := 0) (i := id) (y := y)
  have e2 := bigL_set (f := fun (_ : Nat) (x : Cr) => clauR x) (xs := R) (k := 0) (i := id) (y := x)
  have e3 : R.set id x = R := by
    apply List.ext_getElem?
    intro j
    rw [List.getElem?_set]
    by_cases e : id = j
    · subst e; rw [if_pos rfl, if_pos (List.getElem?_eq_some_iff.1 hx).1, hx]
    · rw [if_neg e]
  rw [e3] at e2
  rw [← e1]
  simp only [h] at e1 ⊢
  rw [e2]
/-- Does a literal need a clause? -/
def needs (E : List Ent) (id : Int) (x : Int) : Prop := (knownOf E (Trail.var x)).2.2 = id ∧ value E x = 1
instance (E : List Ent) (id x : Int) : Decidable (needs E id x) := by unfold needs; infer_instance

end Go.Proofs.Ytajllmlgihbdhaa
