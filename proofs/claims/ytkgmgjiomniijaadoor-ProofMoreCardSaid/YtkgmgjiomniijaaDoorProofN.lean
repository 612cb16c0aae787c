/- The chapter's example on proofs. -/
import Derived.Test.YtkgmgjiomniijaaDoorProofL
set_option linter.unusedVariables false
set_option linter.unusedSimpArgs false
namespace Go.Watch
open Go.Trail
def exP : List (List Int) := [[1, 2], [1, -2]]
def exA : List (List Int × Bool) := [([1, 2], true), ([1, -2], true)]
def exT (x : Int) : Prop := x = 1 ∨ x = -2
theorem exP_foll : Foll exA [1] := by
  refine .inr ⟨[1, -2], ⟨[1, -2], by decide, by decide, fun x => Iff.rfl⟩, fun y hy => ?_⟩
  have h1 : NegC [1] (-1) := ⟨1, by decide, rfl⟩
  simp at hy
  rcases hy with rfl | rfl
  · exact .dec h1
  · exact .cls (c := [1, 2]) ⟨[1, 2], by decide, by decide, fun x => Iff.rfl⟩ (by simp) fun y hy hne => by
      simp at hy
      rcases hy with rfl | rfl
      · exact .dec h1
      · exact (hne rfl).elim
theorem exP_not {A : List (List Int × Bool)} (hA : ∀ x ∈ A, (1 : Int) ∈ x.1) : ¬ Foll A [2] := by
  intro h
  obtain ⟨y, hy, hT⟩ := h.holds (T := exT) (fun c hc => ⟨1, hA _ hc, .inl rfl⟩) (fun x hx hx' => by unfold exT at hx hx'; omega) (fun y hy _ => by
    simp at hy; subst hy; exact .inr rfl)
  simp at hy; subst hy
  unfold exT at hT; omega
theorem exP_run : Run exA [(false, [1]), (false, [2])] (some 1) :=
  .go (o := some 0) (.inr ⟨rfl, exP_foll, rfl⟩) (.stuck (.inr ⟨rfl, exP_not (by decide)⟩))
theorem exP_clean {c k : List Int} (hc : c ∈ ([[1, 2], [1, -2], [1], [2]] : List (List Int))) (h : Lit.Clean c k) : k = c := by
  have h2 : Lit.Clean c c := ⟨by simp at hc; rcases hc with rfl | rfl | rfl | rfl <;> decide, fun x => Iff.rfl⟩
  exact Lit.Clean.same (by simp at hc; rcases hc with rfl | rfl | rfl | rfl <;> decide) h h2 fun x => Iff.rfl
theorem exP_K {K : List (List Int)} (hl : K.length = exP.length) (h : ∀ (i : Nat) c k, exP[i]? = some c → K[i]? = some k → Lit.Clean c k) : (K.map fun k => (k, true)) = exA := by
  match K, hl with
  | [a, b], _ =>
    have h1 := exP_clean (by decide) (h 0 _ _ rfl rfl)
    have h2 := exP_clean (by decide) (h 1 _ _ rfl rfl)
    rw [h1, h2]; rfl
end Go.Watch
namespace Go.Proofs.YtkgmgjiomniijaaDoor
open Go Go.Vc Go.Watch Go.Lit
open Go.Trail (Ent value find upto okLit litsV)
set_option maxHeartbeats 4000000
set_option maxRecDepth 100000
section
variable {w0 w : World} {l : List Res}
theorem pAlive (H : Sep w0 w l) (hp : Pow w0) : Does Tryd.prog 4 #[] w fun v w' => v = .bool true ∧ Sep w0 w' l := by
  refine Does_intro tok (args := []) (Tryd.call4 _ _) Tryd.func4 rfl (by rfl) ?_
  (repeat first | refine go ?_ | ((try conv => whnf); (first | (refine St_gate ?_; refine xS ?_) | (refine StN_gate ?_; refine xN ?_)); clear H; intro w H))
  (refine Nw_sep H ?_; clear H; intro b1 w H; (try simp only [Value.cells, List.toList_toArray, List.append_nil, List.cons_append, List.nil_append] at H))
  (repeat first | refine go ?_ | ((try conv => whnf); (first | (refine St_gate ?_; refine xS ?_) | (refine StN_gate ?_; refine xN ?_)); clear H; intro w H))
  (refine Nw_sep H ?_; clear H; intro b2 w H; (try simp only [Value.cells, List.toList_toArray, List.append_nil, List.cons_append, List.nil_append] at H))
  (repeat first | refine go ?_ | ((try conv => whnf); (first | (refine St_gate ?_; refine xS ?_) | (refine StN_gate ?_; refine xN ?_)); clear H; intro w H))
  (refine Nw_sep H ?_; clear H; intro b3 w H; (try simp only [Value.cells, List.toList_toArray, List.append_nil, List.cons_append, List.nil_append] at H))
  (repeat first | refine go ?_ | ((try conv => whnf); (first | (refine St_gate ?_; refine xS ?_) | (refine StN_gate ?_; refine xN ?_)); clear H; intro w H))
  (refine Nw_sep H ?_; clear H; intro fb w H; (try simp only [Value.cells, List.toList_toArray, List.append_nil, List.cons_append, List.nil_append] at H))
  (repeat first | refine go ?_ | ((try conv => whnf); (first | (refine St_gate ?_; refine xS ?_) | (refine StN_gate ?_; refine xN ?_)); clear H; intro w H))
  (refine Nw_sep H ?_; clear H; intro xb w H; (try simp only [Value.cells, List.toList_toArray, List.append_nil, List.cons_append, List.nil_append] at H))
  (repeat first | refine go ?_ | ((try conv => whnf); (first | (refine St_gate ?_; refine xS ?_) | (refine StN_gate ?_; refine xN ?_)); clear H; intro w H))
  have hF : ∀ {w' : World} {l' : List Res}, Sep w0 w' (l' ++ (cellsR b3 33 [.slice (some ⟨b1, 0, none⟩) 2 2, .slice (some ⟨b2, 0, none⟩) 2 2] :: cellsR b2 32 [lV 1, lV (-2)] :: cellsR b1 32 [lV 1, lV 2] :: l)) → FSrc w' (some ⟨b3, 0, none⟩) exP [(some ⟨b1, 0, none⟩, 2, [1, 2]), (some ⟨b2, 0, none⟩, 2, [1, -2])] :=
    fun h => ⟨rfl, h.srcCM 2 1 (List.mem_append_right _ (.head _)) rfl (by decide), fun x hx => by
      simp only [List.mem_cons, List.not_mem_nil, or_false] at hx
      rcases hx with rfl | rfl
      · exact ⟨h.srcCM 2 1 (List.mem_append_right _ (.tail _ (.tail _ (.head _)))) rfl (by decide), show 2 ≤ _ by decide⟩
      · exact ⟨h.srcCM 2 1 (List.mem_append_right _ (.tail _ (.head _))) rfl (by decide), show 2 ≤ _ by decide⟩⟩
  have hsm : ∀ x ∈ ([(some ⟨b1, 0, none⟩, 2, [1, 2]), (some ⟨b2, 0, none⟩, 2, [1, -2])] : List Fl), x.2.2.length ≤ 35184372087808 := fun x hx => by
    simp only [List.mem_cons, List.not_mem_nil, or_false] at hx
    rcases hx with rfl | rfl <;> exact show 2 ≤ _ by decide
  refine Call_of (pFollows (C := exP) (z := 2) (xs := [1]) H hp (fun {w'} {l'} h => hF (l' := l' ++ [_, _]) (by simpa using h)) hsm (by decide) (fun h => h.srcCM 1 1 (List.mem_append_right _ (.head _)) rfl (by decide)) (by decide) (by decide)) ?_
  clear H
  rintro _ w ⟨(⟨hf, _⟩ | ⟨_, K, own, b, rfl, hK, hc, hown, hb⟩), H⟩
  · exact absurd hf (by decide)
  obtain rfl := exP_clean (by decide) hown
  rw [exP_K hK hc] at hb
  obtain rfl : b = true := hb.2 exP_foll
  clear hK hc hown hb
  replace H := H.tail
  (repeat first | refine go ?_ | ((try conv => whnf); (first | (refine St_gate ?_; refine xS ?_) | (refine StN_gate ?_; refine xN ?_)); clear H; intro w H))
  (refine Nw_sep H ?_; clear H; intro xb2 w H; (try simp only [Value.cells, List.toList_toArray, List.append_nil, List.cons_append, List.nil_append] at H))
  (repeat first | refine go ?_ | ((try conv => whnf); (first | (refine St_gate ?_; refine xS ?_) | (refine StN_gate ?_; refine xN ?_)); clear H; intro w H))
  refine Call_of (pFollows (C := exP) (z := 2) (xs := [2]) H hp (fun {w'} {l'} h => hF (l' := l' ++ [_, _]) (by simpa using h)) hsm (by decide) (fun h => h.srcCM 1 1 (List.mem_append_right _ (.head _)) rfl (by decide)) (by decide) (by decide)) ?_
  clear H
  rintro _ w ⟨(⟨hf, _⟩ | ⟨_, K, own, b, rfl, hK, hc, hown, hb⟩), H⟩
  · exact absurd hf (by decide)
  obtain rfl := exP_clean (by decide) hown
  rw [exP_K hK hc] at hb
  obtain rfl : b = false := Bool.eq_false_iff.2 fun h => exP_not (by decide) (hb.1 h)
  clear hK hc hown hb
  replace H := H.tail
  (repeat first | refine go ?_ | ((try conv => whnf); (first | (refine St_gate ?_; refine xS ?_) | (refine StN_gate ?_; refine xN ?_)); clear H; intro w H))
  (refine Nw_sep H ?_; clear H; intro c1 w H; (try simp only [Value.cells, List.toList_toArray, List.append_nil, List.cons_append, List.nil_append] at H))
  (repeat first | refine go ?_ | ((try conv => whnf); (first | (refine St_gate ?_; refine xS ?_) | (refine StN_gate ?_; refine xN ?_)); clear H; intro w H))
  (refine Nw_sep H ?_; clear H; intro c2 w H; (try simp only [Value.cells, List.toList_toArray, List.append_nil, List.cons_append, List.nil_append] at H))
  (repeat first | refine go ?_ | ((try conv => whnf); (first | (refine St_gate ?_; refine xS ?_) | (refine StN_gate ?_; refine xN ?_)); clear H; intro w H))
  (refine Nw_sep H ?_; clear H; intro c3 w H; (try simp only [Value.cells, List.toList_toArray, List.append_nil, List.cons_append, List.nil_append] at H))
  (repeat first | refine go ?_ | ((try conv => whnf); (first | (refine St_gate ?_; refine xS ?_) | (refine StN_gate ?_; refine xN ?_)); clear H; intro w H))
  have hstp : Steps [(false, (some ⟨c1, 0, none⟩, 1, [1])), (false, (some ⟨c2, 0, none⟩, 1, [2]))] [(false, [1]), (false, [2])] := by
    refine ⟨rfl, fun i x s hx hs => ?_⟩
    match i, hx, hs with
    | 0, hx, hs => cases hx; cases hs; exact ⟨rfl, by decide, fun x => Iff.rfl⟩
    | 1, hx, hs => cases hx; cases hs; exact ⟨rfl, by decide, fun x => Iff.rfl⟩
  refine Call_of (pCheck (C := exP) (z := 2) (G := [(false, (some ⟨c1, 0, none⟩, 1, [1])), (false, (some ⟨c2, 0, none⟩, 1, [2]))]) H hp (fun {w'} {l'} h => hF (l' := l' ++ [_, _, _, _]) (by simpa using h)) hsm (by decide)
    (fun h => ⟨h.srcCM 2 2 (List.mem_append_right _ (.head _)) rfl (by decide), fun x hx => by
      simp only [List.mem_cons, List.not_mem_nil, or_false] at hx
      rcases hx with rfl | rfl
      · exact h.srcCM 1 1 (List.mem_append_right _ (.tail _ (.tail _ (.head _)))) rfl (by decide)
      · exact h.srcCM 1 1 (List.mem_append_right _ (.tail _ (.head _))) rfl (by decide)⟩) (by show 2 ≤ _; decide) (fun x hx => by
      simp only [List.mem_cons, List.not_mem_nil, or_false] at hx
      rcases hx with rfl | rfl <;> exact show 1 ≤ _ by decide) (by decide)) ?_
  clear H
  rintro _ w ⟨(⟨hf, _⟩ | ⟨_, n, K, o, hn, _, rfl, hK, hc, hrun⟩), H⟩
  · exact absurd hf (show ¬ (openZ 2 exP [[1], [2]] [] = false) by decide)
  replace hrun := hrun _ hstp
  rw [exP_K hK hc] at hrun
  obtain rfl := exP_run.det hrun
  clear hK hc hrun hstp hn hF hsm
  (repeat first | refine go ?_ | ((try conv => whnf); (first | (refine St_gate ?_; refine xS ?_) | (refine StN_gate ?_; refine xN ?_)); clear H; intro w H))
  exact Ret_in ⟨rfl, H.tail.tail.tail.tail.tail.tail.tail⟩
end
end Go.Proofs.YtkgmgjiomniijaaDoor
