/- The law of orders: its function answers true. -/
import Derived.Test.YtkgmgjiomniijaaDoorWatchL
set_option linter.unusedVariables false
set_option linter.unusedSimpArgs false
namespace Go.Watch
open Go.Trail
section
variable {S : Nat → Prop} {s : St} {n : Nat}
theorem free_fit {E : List Ent} {x : Int} (h : Go.Proofs.YtkgmgjiomniijaaDoor.freeNo n E x = 0) : okLit x = true ∧ var x ≤ n ∧ find E (var x) = none := by
  unfold Go.Proofs.YtkgmgjiomniijaaDoor.freeNo at h
  split at h
  · rename_i h1
    split at h
    · rename_i h2; exact ⟨var_pos.1 h1.1, h1.2, h2⟩
    · cases h
  · cases h
theorem free_cases {E : List Ent} {x : Int} : Go.Proofs.YtkgmgjiomniijaaDoor.freeNo n E x = 0 ∨ Go.Proofs.YtkgmgjiomniijaaDoor.freeNo n E x = 41 ∨ Go.Proofs.YtkgmgjiomniijaaDoor.freeNo n E x = 42 := by
  unfold Go.Proofs.YtkgmgjiomniijaaDoor.freeNo
  split
  · split
    · exact .inl rfl
    · exact .inr (.inr rfl)
  · exact .inr (.inl rfl)
end
theorem gamL_mem {L L' : List (List Int)} (h : ∀ k, k ∈ L → k ∈ L') {c : List Int} (hc : GamL L c) : GamL L' c := by
  obtain ⟨k, hk, h1⟩ := hc
  exact ⟨k, h k hk, h1⟩
end Go.Watch
namespace Go.Proofs.YtkgmgjiomniijaaDoor
open Go Go.Vc Go.Watch
open Go.Trail (Ent value find upto okLit litsV)
set_option maxHeartbeats 4000000
set_option maxRecDepth 100000

abbrev Fl := Option Addr × Nat × List Int
def flV (x : Fl) : Value := .slice x.1 x.2.2.length x.2.1
/-- A formula's clauses in memory. -/
structure FSrc (w : World) (a : Option Addr) (C : List (List Int)) (R : List Fl) : Prop where
  eq : R.map (fun x : Fl => x.2.2) = C
  rows : Src w a C.length 1 (R.map flV)
  cls : ∀ x ∈ R, Src w x.1 x.2.2.length 1 (x.2.2.map lV) ∧ x.2.2.length ≤ 9223372036854775807
theorem FSrc.len {w : World} {a : Option Addr} {C : List (List Int)} {R : List Fl} (h : FSrc w a C R) : R.length = C.length := by rw [← h.eq, List.length_map]
theorem FSrc.at {w : World} {a : Option Addr} {C : List (List Int)} {R : List Fl} (h : FSrc w a C R) {i : Nat} (hi : i < C.length) : ∃ x, R[i]? = some x ∧ C[i]? = some x.2.2 ∧ Src w x.1 x.2.2.length 1 (x.2.2.map lV) ∧ x.2.2.length ≤ 9223372036854775807 := by
  have hl := h.len
  have hx : R[i]? = some R[i] := List.getElem?_eq_getElem (by omega)
  have e := congrArg (fun l : List (List Int) => l[i]?) h.eq
  simp only [List.getElem?_map, hx, Option.map_some] at e
  exact ⟨_, hx, e.symm, h.cls _ (List.getElem_mem _)⟩

section
variable {w0 w W : World} {l : List Res} {eb : Nat} {s : St} {S : Nat → Prop} {m : Nat} {Δ : Int → Prop} {a xa : Option Addr} {c cx : Nat} {C : List (List Int)} {R : List Fl} {X : List Int} {n : Int}

/-- A literal decided on one engine. -/
theorem hDecide (H : Sep w0 w (engR eb s :: l)) {k : Nat} {L : List (List Int)} {S' : Nat → Prop} (h : Has S s k L Δ m) {x : Int} (hD : s.D ≤ 1000000) (hS : ∀ L, S' L → S L ∨ L = s.D + 1) (hS2 : S' (s.D + 1)) (hlate : ∀ e ∈ s.E.drop s.h, ∀ L, S' L → e.lev ≤ L → s.D + 1 ≤ L) :
    Does Tryd.prog 39 #[.pointer (some ⟨eb, 0, none⟩), lV x] w fun v w' => (v = .int .i64 0 ∧ freeNo s.n s.E x = 0 ∧ okLit x = true ∧ Has S' (Watch.decide' s x) k L (fun y => Δ y ∨ y = x) m ∧ Sep w0 w' (engR eb (Watch.decide' s x) :: l)) ∨
      ((∃ z : Int, v = .int .i64 z ∧ z ≠ 0 ∧ -1000 ≤ z ∧ z ≤ 1000) ∧ freeNo s.n s.E x ≠ 0 ∧ Sep w0 w' (engR eb s :: l)) := by
  refine (eDecide H hD).mono ?_
  rintro v w' ⟨rfl, H⟩
  rcases free_cases (n := s.n) (E := s.E) (x := x) with h0 | h0 | h0
  · obtain ⟨h1, h2, h3⟩ := free_fit h0
    rw [h0] at H ⊢
    rw [if_pos rfl] at H
    refine .inl ⟨by rw [if_neg (by decide)], rfl, h1, h.decide' h1 (by rw [← h.n]; exact h2) (Trail.value_none h.good.inv h1 h3) hS hS2 hlate, H⟩
  · rw [h0] at H ⊢
    rw [if_neg (by decide)] at H
    exact .inr ⟨⟨51, by rw [if_pos rfl], by decide, by decide, by decide⟩, by decide, H⟩
  · rw [h0] at H ⊢
    rw [if_neg (by decide)] at H
    exact .inr ⟨⟨42, by rw [if_neg (by decide)], by decide, by decide, by decide⟩, by decide, H⟩

end
end Go.Proofs.YtkgmgjiomniijaaDoor
