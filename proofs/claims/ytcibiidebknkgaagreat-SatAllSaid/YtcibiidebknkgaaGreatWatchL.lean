/- The chapter's example; names. -/
import Derived.Test.YtcibiidebknkgaaGreatWatchF
set_option linter.unusedVariables false
set_option linter.unusedSimpArgs false
namespace Go.Watch
open Go.Trail
section
variable {S : Nat → Prop} {s : St}
theorem Good.find_at (hg : Good S s) {e : Ent} (he : e ∈ s.E) : find s.E (var e.lit) = some e := by
  have hl := (hg.inv.ok e he).1
  have hv : 0 < var e.lit := var_pos.2 hl
  cases hf : find s.E (var e.lit) with
  | none =>
    rw [find_none (by omega)] at hf
    exact (hf e he rfl).elim
  | some g =>
    obtain ⟨h1, h2, _⟩ := find_some hf
    have h3 : var g.lit = var e.lit := by omega
    congr 1
    obtain ⟨i, hi⟩ := List.getElem?_of_mem h1
    obtain ⟨j, hj⟩ := List.getElem?_of_mem he
    obtain ⟨hi1, hi2⟩ := List.getElem?_eq_some_iff.1 hi
    obtain ⟨hj1, hj2⟩ := List.getElem?_eq_some_iff.1 hj
    have ho := hg.inv.once
    rw [List.pairwise_iff_getElem] at ho
    rcases Nat.lt_trichotomy i j with hlt | heq | hgt
    · exact (ho i j hi1 hj1 hlt (by rw [hi2, hj2]; exact h3)).elim
    · subst heq; rw [← hi2, ← hj2]
    · exact (ho j i hj1 hi1 hgt (by rw [hi2, hj2]; exact h3.symm)).elim
end
def D1 : Int → Prop := fun y => False ∨ y = -1
theorem fo_alive : ∀ x, Fo (GamL [[1, 2]]) D1 x → x = -1 ∨ x = 2 := by
  intro x h
  induction h with
  | dec h => rcases h with h | h; exact h.elim; exact .inl h
  | @cls c x hc hx _ ih =>
    obtain ⟨k, hk, _, h3⟩ := hc
    simp at hk; subst hk
    have hx2 := (h3 x).1 hx
    simp at hx2
    rcases hx2 with rfl | rfl
    · have := ih 2 ((h3 2).2 (by simp)) (by decide)
      omega
    · exact .inr rfl
theorem no_alive : ¬ Conf (GamL [[1, 2]]) D1 := by
  rintro ⟨c, ⟨k, hk, _, h3⟩, h⟩
  simp at hk; subst hk
  have := fo_alive _ (h 2 ((h3 2).2 (by simp)))
  omega
theorem is_alive : Fo (GamL [[1, 2]]) D1 2 := .cls (c := [1, 2]) ⟨[1, 2], by simp, by decide, fun x => Iff.rfl⟩ (by simp) fun y hy hne => by
  simp at hy
  rcases hy with rfl | rfl
  · exact .dec (.inr rfl)
  · exact (hne rfl).elim
theorem fo_name : ∀ x, Fo (GamL [[1]]) (fun _ => False) x → x = 1 := by
  intro x h
  induction h with
  | dec h => exact h.elim
  | @cls c x hc hx _ ih =>
    obtain ⟨k, hk, _, h3⟩ := hc
    simp at hk; subst hk
    have hx2 := (h3 x).1 hx
    simpa using hx2
theorem no_name : ¬ Conf (GamL [[1]]) (fun _ => False) := by
  rintro ⟨c, ⟨k, hk, _, h3⟩, h⟩
  simp at hk; subst hk
  have := fo_name _ (h 1 ((h3 1).2 (by simp)))
  omega
theorem is_name : Fo (GamL [[1]]) (fun _ => False) 1 := .cls (c := [1]) ⟨[1], by simp, by decide, fun x => Iff.rfl⟩ (by simp) fun y hy hne => by
  simp at hy
  exact (hne hy).elim
theorem Out.fine_of {L : List (List Int)} {Δ : Int → Prop} {s : St} {z : Int} (h : Out L Δ s z) (hn : ¬ Conf (GamL L) Δ) : z = -1 ∧ (∀ x, tru s.E x ↔ Fo (GamL L) Δ x) ∧ s.h = s.E.length ∧ s.F = [] := by
  cases h with
  | fine _ h2 h3 h4 => exact ⟨rfl, h2, h3, h4⟩
  | bad id h => exact (hn h).elim
end Go.Watch
namespace Go.Proofs.YtcibiidebknkgaaGreat
open Go Go.Vc Go.Watch
open Go.Trail (Ent value find upto okLit litsV)
set_option maxHeartbeats 4000000
set_option maxRecDepth 100000
section
variable {w0 w : World} {l : List Res} {eb : Nat} {s : St} {S : Nat → Prop} {n m : Nat} {L : List (List Int)} {Δ : Int → Prop}

end
end Go.Proofs.YtcibiidebknkgaaGreat
