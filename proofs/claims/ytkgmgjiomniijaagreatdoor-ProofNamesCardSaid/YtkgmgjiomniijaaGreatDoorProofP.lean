/- The names' law on proofs. -/
import Derived.Test.YtkgmgjiomniijaaGreatDoorProofN
set_option linter.unusedVariables false
set_option linter.unusedSimpArgs false
namespace Go.Proofs.YtkgmgjiomniijaaGreatDoor
open Go Go.Vc Go.Watch Go.Lit
open Go.Trail (Ent value find upto okLit litsV)
set_option maxHeartbeats 4000000
set_option maxRecDepth 100000
section
variable {w0 w : World} {l : List Res} {z : Int} {la : Option Addr} {lc cc : Nat}
theorem FSrc.nil (w : World) : FSrc w none [] [] := ⟨rfl, ⟨rfl, fun j u h => by simp at h⟩, fun x hx => by cases hx⟩
theorem pProvesNo {goal : List Int} {ga : Option Addr} {gc : Nat} (H : Sep w0 w l) (hp : Pow w0) (hg : ∀ {w' : World} {l' : List Res}, Sep w0 w' (l' ++ l) → Src w' ga goal.length 1 (goal.map lV)) (hgm : goal.length ≤ 900000) (ho : openZ z [] [] goal = false) :
    Does Tryz.prog 14 #[.agg #[.int .i64 z, .slice none 0 cc], .slice ga goal.length gc, .slice none 0 lc] w fun v w' => v = .tuple #[.bool false, .int .i64 91] ∧ Sep w0 w' l := by
  refine Does_intro tok (Tryz.call14 _ _) Tryz.func14 rfl (by rfl) ?_
  (repeat first | refine go ?_ | ((try conv => whnf); (first | (refine St_gate ?_; refine xS ?_) | (refine StN_gate ?_; refine xN ?_)); clear H; intro w H))
  (refine Nw_sep H ?_; clear H; intro fb w H; (try simp only [Value.cells, List.toList_toArray, List.append_nil, List.cons_append, List.nil_append] at H))
  (repeat first | refine go ?_ | ((try conv => whnf); (first | (refine St_gate ?_; refine xS ?_) | (refine StN_gate ?_; refine xN ?_)); clear H; intro w H))
  refine Call_of (pOpen (C := []) (R := []) (G := []) (goal := goal) H hp (fun _ => FSrc.nil _) (fun x hx => by cases hx) (by decide) (fun {w'} {l'} h => ⟨⟨rfl, fun j u h => by simp at h⟩, fun x hx => by cases hx⟩) (by decide) (fun x hx => by cases hx)
    (fun {w'} {l'} h => hg (l' := l' ++ [_]) (by simpa using h)) (by omega)) ?_
  clear H
  rintro _ w (⟨_, rfl, H⟩ | ⟨ho2, _⟩)
  · (repeat first | refine go ?_ | ((try conv => whnf); (first | (refine St_gate ?_; refine xS ?_) | (refine StN_gate ?_; refine xN ?_)); clear H; intro w H))
    exact Ret_in ⟨rfl, H.tail⟩
  · exact absurd ho2 (by rw [show logL [] = [] from rfl, ho]; decide)
theorem foll_nil : ¬ Foll [] [1] := by
  rintro (h | ⟨c, ⟨k, hk, _⟩, _⟩)
  · exact absurd h (by decide)
  · simp [hand] at hk
theorem pNeedNo {ga : Option Addr} {gc : Nat} (H : Sep w0 w l) (hp : Pow w0) (hg : ∀ {w' : World} {l' : List Res}, Sep w0 w' (l' ++ l) → LSrc w' la [(false, (ga, gc, [1]))]) :
    Does Tryz.prog 15 #[.agg #[.int .i64 1, .slice none 0 cc], .slice la 1 lc] w fun v w' => v = .tuple #[.slice none 0 0, .int .i64 91] ∧ Sep w0 w' l := by
  refine Does_intro tok (Tryz.call15 _ _) Tryz.func15 rfl (by rfl) ?_
  (repeat first | refine go ?_ | ((try conv => whnf); (first | (refine St_gate ?_; refine xS ?_) | (refine StN_gate ?_; refine xN ?_)); clear H; intro w H))
  (refine Nw_sep H ?_; clear H; intro fb w H; (try simp only [Value.cells, List.toList_toArray, List.append_nil, List.cons_append, List.nil_append] at H))
  (repeat first | refine go ?_ | ((try conv => whnf); (first | (refine St_gate ?_; refine xS ?_) | (refine StN_gate ?_; refine xN ?_)); clear H; intro w H))
  refine Call_of (pOpen (z := 1) (C := []) (R := []) (G := [(false, (ga, gc, [1]))]) (goal := []) H hp (fun _ => FSrc.nil _) (fun x hx => by cases hx) (by decide) (fun {w'} {l'} h => hg (l' := l' ++ [_]) (by simpa using h)) (show 1 ≤ _ by decide) (fun x hx => by
      simp only [List.mem_cons, List.not_mem_nil, or_false] at hx; subst hx; show 1 ≤ _; decide)
    (fun {w'} {l'} h => ⟨rfl, fun j u h => by simp at h⟩) (by decide)) ?_
  clear H
  rintro _ w (⟨ho, _⟩ | ⟨_, n, pb, K, hn, rfl, hK, _, H⟩)
  · exact absurd ho (show ¬ (openZ 1 [] [[1]] [] = false) by decide)
  obtain rfl : n = 1 := by omega
  obtain rfl : K = [] := List.length_eq_zero_iff.1 hK
  (repeat first | refine go ?_ | ((try conv => whnf); (first | (refine St_gate ?_; refine xS ?_) | (refine StN_gate ?_; refine xN ?_)); clear H; intro w H))
  refine make_sep tok H rfl rfl rfl rfl rfl (by decide) 1 1 rfl rfl (by omega) (by omega) (by unfold maxLen; omega) ?_
  clear H
  intro na w H
  (repeat first | refine go ?_ | ((try conv => whnf); (first | (refine St_gate ?_; refine xS ?_) | (refine StN_gate ?_; refine xN ?_)); clear H; intro w H))
  refine Nw_mapD (enc := fun i : Int => .int .i64 i) H ?_
  clear H
  intro mb w H
  (repeat first | refine go ?_ | ((try conv => whnf); (first | (refine St_gate ?_; refine xS ?_) | (refine StN_gate ?_; refine xN ?_)); clear H; intro w H))
  replace H : Sep w0 w (mapD mb (fun i : Int => Value.int .i64 i) (fun _ => none) 0 :: ownR (some ⟨na, 0, none⟩) 1 1 49 1 [.slice none 0 0] :: benR pb 1 [] 0 :: cellsR fb 24 [.int .i64 1, .slice none 0 cc] :: l) := H
  refine Loop_intro (fun _ : Unit => [(30, .int .i64 0)]) (fun _ w => Sep w0 w (mapD mb (fun i : Int => Value.int .i64 i) (fun _ => none) 0 :: ownR (some ⟨na, 0, none⟩) 1 1 49 1 [.slice none 0 0] :: benR pb 1 [] 0 :: cellsR fb 24 [.int .i64 1, .slice none 0 cc] :: l)) (fun _ => 1) () ⟨rfl, trivial⟩ H ?_
  clear H
  rintro _ w H
  have hs1 := (hg (l' := [_, _, _, _]) H).rows
  obtain ⟨b, o, rfl⟩ := hs1.addr (show 0 < 2 by decide)
  refine Br_true ?_
  refine Ix_in 0 rfl (by decide) ?_
  refine LdN_src hs1 (vs := [.bool false, .slice ga 1 gc]) rfl rfl ?_
  clear hs1
  (repeat first | refine go ?_ | ((try conv => whnf); (first | (refine St_gate ?_; refine xS ?_) | (refine StN_gate ?_; refine xN ?_)); clear H; intro w H))
  (refine Nw_sep H ?_; clear H; intro sb w H; (try simp only [Value.cells, List.toList_toArray, List.append_nil, List.cons_append, List.nil_append] at H))
  (repeat first | refine go ?_ | ((try conv => whnf); (first | (refine St_gate ?_; refine xS ?_) | (refine StN_gate ?_; refine xN ?_)); clear H; intro w H))
  replace H := H.tp 3
  refine Call_of (bFollows (xs := [1]) H (fun {w'} {l'} h => (hg (l' := l' ++ [_, _, _, _]) (by simpa using h)).each _ (.head _)) (show 1 ≤ _ by decide) (by decide) (by decide) (by decide) (by decide)) ?_
  clear H
  rintro _ w ⟨own, b, hc, rfl, hb, H⟩
  obtain rfl := exP_clean (by decide) hc
  obtain rfl : b = false := Bool.eq_false_iff.2 fun h => foll_nil (hb.1 h)
  (repeat first | refine go ?_ | ((try conv => whnf); (first | (refine St_gate ?_; refine xS ?_) | (refine StN_gate ?_; refine xN ?_)); clear H; intro w H))
  exact Ret_in ⟨rfl, H.tail.tail.tail.tail.tail⟩
theorem pNames (H : Sep w0 w l) (hp : Pow w0) : Does Tryz.prog 5 #[] w fun v w' => v = .bool true ∧ Sep w0 w' l := by
  refine Does_intro tok (args := []) (Tryz.call5 _ _) Tryz.func5 rfl (by rfl) ?_
  (repeat first | refine go ?_ | ((try conv => whnf); (first | (refine St_gate ?_; refine xS ?_) | (refine StN_gate ?_; refine xN ?_)); clear H; intro w H))
  (refine Nw_sep H ?_; clear H; intro xb w H; (try simp only [Value.cells, List.toList_toArray, List.append_nil, List.cons_append, List.nil_append] at H))
  (repeat first | refine go ?_ | ((try conv => whnf); (first | (refine St_gate ?_; refine xS ?_) | (refine StN_gate ?_; refine xN ?_)); clear H; intro w H))
  refine Call_of (pFollows (C := []) (R := []) (z := 0) (xs := [1]) H hp (fun _ => FSrc.nil _) (fun x hx => by cases hx) (by decide) (fun h => h.srcCM 1 1 (List.mem_append_right _ (.head _)) rfl (by decide)) (by decide) (by decide)) ?_
  clear H
  rintro _ w ⟨(⟨_, rfl⟩ | ⟨hf, _⟩), H⟩
  case inr => exact absurd hf (by decide)
  (repeat first | refine go ?_ | ((try conv => whnf); (first | (refine St_gate ?_; refine xS ?_) | (refine StN_gate ?_; refine xN ?_)); clear H; intro w H))
  refine Call_of (pCheck (C := []) (R := []) (G := []) (z := -1) H hp (fun _ => FSrc.nil _) (fun x hx => by cases hx) (by decide) (fun {w'} {l'} h => ⟨⟨rfl, fun j u h => by simp at h⟩, fun x hx => by cases hx⟩) (by decide) (fun x hx => by cases hx) (by decide)) ?_
  clear H
  rintro _ w ⟨(⟨_, rfl⟩ | ⟨hf, _⟩), H⟩
  case inr => exact absurd hf (by decide)
  (repeat first | refine go ?_ | ((try conv => whnf); (first | (refine St_gate ?_; refine xS ?_) | (refine StN_gate ?_; refine xN ?_)); clear H; intro w H))
  (refine Nw_sep H ?_; clear H; intro gb w H; (try simp only [Value.cells, List.toList_toArray, List.append_nil, List.cons_append, List.nil_append] at H))
  (repeat first | refine go ?_ | ((try conv => whnf); (first | (refine St_gate ?_; refine xS ?_) | (refine StN_gate ?_; refine xN ?_)); clear H; intro w H))
  refine Call_of (pProvesNo (z := 1) (goal := [0]) H hp (fun h => h.srcCM 1 1 (List.mem_append_right _ (.head _)) rfl (by decide)) (by decide) (by decide)) ?_
  clear H
  rintro _ w ⟨rfl, H⟩
  (repeat first | refine go ?_ | ((try conv => whnf); (first | (refine St_gate ?_; refine xS ?_) | (refine StN_gate ?_; refine xN ?_)); clear H; intro w H))
  (refine Nw_sep H ?_; clear H; intro nb w H; (try simp only [Value.cells, List.toList_toArray, List.append_nil, List.cons_append, List.nil_append] at H))
  (repeat first | refine go ?_ | ((try conv => whnf); (first | (refine St_gate ?_; refine xS ?_) | (refine StN_gate ?_; refine xN ?_)); clear H; intro w H))
  (refine Nw_sep H ?_; clear H; intro lb w H; (try simp only [Value.cells, List.toList_toArray, List.append_nil, List.cons_append, List.nil_append] at H))
  (repeat first | refine go ?_ | ((try conv => whnf); (first | (refine St_gate ?_; refine xS ?_) | (refine StN_gate ?_; refine xN ?_)); clear H; intro w H))
  refine Call_of (pNeedNo H hp (fun h => ⟨h.srcCM 1 2 (List.mem_append_right _ (.head _)) rfl (by decide), fun x hx => by
      simp only [List.mem_cons, List.not_mem_nil, or_false] at hx
      subst hx
      exact h.srcCM 1 1 (List.mem_append_right _ (.tail _ (.head _))) rfl (by decide)⟩)) ?_
  clear H
  rintro _ w ⟨rfl, H⟩
  (repeat first | refine go ?_ | ((try conv => whnf); (first | (refine St_gate ?_; refine xS ?_) | (refine StN_gate ?_; refine xN ?_)); clear H; intro w H))
  refine Call_of (pAlive H hp) ?_
  clear H
  rintro _ w ⟨rfl, H⟩
  (repeat first | refine go ?_ | ((try conv => whnf); (first | (refine St_gate ?_; refine xS ?_) | (refine StN_gate ?_; refine xN ?_)); clear H; intro w H))
  exact Ret_in ⟨rfl, H.tail.tail.tail.tail⟩
end
end Go.Proofs.YtkgmgjiomniijaaGreatDoor
