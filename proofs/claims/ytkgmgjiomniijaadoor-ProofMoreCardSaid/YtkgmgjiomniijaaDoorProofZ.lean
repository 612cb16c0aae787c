/- Which formulas and clauses can be; a bench for a formula. -/
import Derived.Test.YtkgmgjiomniijaaDoorProofY
set_option linter.unusedVariables false
set_option linter.unusedSimpArgs false
namespace Go.Watch
/-- Are all literals of the variables up to z? -/
def fitZ (z : Int) (c : List Int) : Bool := c.all fun x => Lit.one x && decide ((Trail.var x : Int) ≤ z)
theorem fitZ_nat {n : Nat} {c : List Int} : fitZ n c = fitB n c := by
  unfold fitZ fitB
  congr 1
  funext x
  congr 1
  rw [Bool.eq_iff_iff, decide_eq_true_iff, decide_eq_true_iff]
  omega
def sumL (C : List (List Int)) : Nat := (C.map fun c => c.length).sum
def rightZ (z : Int) (C : List (List Int)) : Bool := decide (0 ≤ z) && decide (z ≤ 262144) && decide (C.length ≤ 1048576) && decide (sumL C ≤ 4194304) && C.all (fitZ z)
theorem sumL_next {C : List (List Int)} {i : Nat} {c : List Int} (h : C[i]? = some c) : sumL (C.take (i + 1)) = sumL (C.take i) + c.length := by
  unfold sumL
  rw [List.take_add_one, h, List.map_append, List.sum_append]; simp
theorem sumL_le (C : List (List Int)) (i : Nat) : sumL (C.take i) ≤ sumL C := by
  unfold sumL
  conv => rhs; rw [← List.take_append_drop i C, List.map_append, List.sum_append]
  omega
end Go.Watch
namespace Go.Proofs.YtkgmgjiomniijaaDoor
open Go Go.Vc Go.Watch Go.Lit
open Go.Trail (Ent value find upto okLit litsV)
set_option maxHeartbeats 4000000
set_option maxRecDepth 100000
section
variable {w0 w : World} {l : List Res} {pb eb mb n m fb : Nat} {s : St} {A : List (List Int × Bool)} {fr z : Int} {v2 : Value}
theorem fit1 (x : Int) (z : Int) : (decide (Lit.var x = 0) || decide (z < Lit.var x)) = !(Lit.one x && decide ((Trail.var x : Int) ≤ z)) := by
  rw [var_var]
  have h : Lit.one x = true ↔ 0 < Trail.var x := by rw [one_ok]; exact Trail.var_pos.symm
  cases ho : Lit.one x with
  | true =>
    have := h.1 ho
    rw [decide_eq_false (by omega), Bool.false_or, Bool.true_and]
    rw [Bool.eq_iff_iff]; simp
  | false =>
    have : ¬ 0 < Trail.var x := fun h2 => by rw [h.2 h2] at ho; cases ho
    rw [decide_eq_true (by omega)]; rfl

theorem pFits1 (H : Sep w0 w l) (hm : cellsR fb 24 [.int .i64 z, v2] ∈ l) (x : Int) : Does Tryd.prog 26 #[lV x, .pointer (some ⟨fb, 0, none⟩)] w fun v w' => v = .bool (!(Lit.one x && decide ((Trail.var x : Int) ≤ z))) ∧ Sep w0 w' l := by
  refine Does_intro tok (Tryd.call26 _ _) Tryd.func26 rfl (by rfl) ?_
  rw [← fit1]
  (repeat first | refine go ?_ | ((try conv => whnf); (first | (refine St_gate ?_; refine xS ?_) | (refine StN_gate ?_; refine xN ?_)); clear H; intro w H))
  refine Draw_intro mixed [0, 1, 2, 3, 4, 6, 7, 5, 8, 9, 10] (by decide +kernel) (fun w _ fd => ?_); replace H := H.fr fd; clear fd
  (repeat first | refine go ?_ | ((try conv => whnf); (first | (refine St_gate ?_; refine xS ?_) | (refine StN_gate ?_; refine xN ?_)); clear H; intro w H))
  refine Call_of (fVar (x := x) _) ?_
  rintro _ _ ⟨rfl, rfl⟩
  by_cases h0 : Lit.var x = 0
  · rw [decide_eq_true h0]
    (repeat first | refine go ?_ | ((try conv => whnf); (first | (refine St_gate ?_; refine xS ?_) | (refine StN_gate ?_; refine xN ?_)); clear H; intro w H))
    exact Ret_in ⟨rfl, H⟩
  · rw [decide_eq_false h0]
    (repeat first | refine go ?_ | ((try conv => whnf); (first | (refine St_gate ?_; refine xS ?_) | (refine StN_gate ?_; refine xN ?_)); clear H; intro w H))
    (try conv => whnf)
    refine Ld_m H hm rfl ?_
    (repeat first | refine go ?_ | ((try conv => whnf); (first | (refine St_gate ?_; refine xS ?_) | (refine StN_gate ?_; refine xN ?_)); clear H; intro w H))
    refine Call_of (fVar (x := x) _) ?_
    rintro _ _ ⟨rfl, rfl⟩
    (try conv => whnf)
    (repeat (refine Kept_gate ?_; refine Kept_in (Sep.cellAt H hm (by rfl)) ?_))
    (repeat first | refine go ?_ | ((try conv => whnf); (first | (refine St_gate ?_; refine xS ?_) | (refine StN_gate ?_; refine xN ?_)); clear H; intro w H))
    exact Ret_in ⟨rfl, H⟩
theorem pRight1 (H : Sep w0 w l) (hm : cellsR fb 24 [.int .i64 z, v2] ∈ l) (x : Int) : Does Tryd.prog 28 #[lV x, .pointer (some ⟨fb, 0, none⟩)] w fun v w' => v = .bool (!(Lit.one x && decide ((Trail.var x : Int) ≤ z))) ∧ Sep w0 w' l := by
  refine Does_intro tok (Tryd.call28 _ _) Tryd.func28 rfl (by rfl) ?_
  rw [← fit1]
  (repeat first | refine go ?_ | ((try conv => whnf); (first | (refine St_gate ?_; refine xS ?_) | (refine StN_gate ?_; refine xN ?_)); clear H; intro w H))
  refine Draw_intro mixed [0, 1, 2, 3, 4, 6, 7, 5, 8, 9, 10] (by decide +kernel) (fun w _ fd => ?_); replace H := H.fr fd; clear fd
  (repeat first | refine go ?_ | ((try conv => whnf); (first | (refine St_gate ?_; refine xS ?_) | (refine StN_gate ?_; refine xN ?_)); clear H; intro w H))
  refine Call_of (fVar (x := x) _) ?_
  rintro _ _ ⟨rfl, rfl⟩
  by_cases h0 : Lit.var x = 0
  · rw [decide_eq_true h0]
    (repeat first | refine go ?_ | ((try conv => whnf); (first | (refine St_gate ?_; refine xS ?_) | (refine StN_gate ?_; refine xN ?_)); clear H; intro w H))
    exact Ret_in ⟨rfl, H⟩
  · rw [decide_eq_false h0]
    (repeat first | refine go ?_ | ((try conv => whnf); (first | (refine St_gate ?_; refine xS ?_) | (refine StN_gate ?_; refine xN ?_)); clear H; intro w H))
    (try conv => whnf)
    refine Ld_m H hm rfl ?_
    (repeat first | refine go ?_ | ((try conv => whnf); (first | (refine St_gate ?_; refine xS ?_) | (refine StN_gate ?_; refine xN ?_)); clear H; intro w H))
    refine Call_of (fVar (x := x) _) ?_
    rintro _ _ ⟨rfl, rfl⟩
    (try conv => whnf)
    (repeat (refine Kept_gate ?_; refine Kept_in (Sep.cellAt H hm (by rfl)) ?_))
    (repeat first | refine go ?_ | ((try conv => whnf); (first | (refine St_gate ?_; refine xS ?_) | (refine StN_gate ?_; refine xN ?_)); clear H; intro w H))
    exact Ret_in ⟨rfl, H⟩
theorem any_fit (z : Int) (c : List Int) : (!c.any fun x => !(Lit.one x && decide ((Trail.var x : Int) ≤ z))) = fitZ z c := by
  unfold fitZ
  rw [List.not_any_eq_all_not]
  congr 1
  funext x
  simp
theorem pFits (H : Sep w0 w l) {xs : List Int} {a : Option Addr} {c : Nat} (hs : ∀ {w' : World} {l' : List Res}, Sep w0 w' (l' ++ l) → Src w' a xs.length 1 (xs.map lV)) (hx : xs.length ≤ maxLen) :
    Does Tryd.prog 14 #[.agg #[.int .i64 z, v2], .slice a xs.length c] w fun v w' => v = .bool (fitZ z xs) ∧ Sep w0 w' l := by
  refine Does_intro tok (Tryd.call14 _ _) Tryd.func14 rfl (by rfl) ?_
  (repeat first | refine go ?_ | ((try conv => whnf); (first | (refine St_gate ?_; refine xS ?_) | (refine StN_gate ?_; refine xN ?_)); clear H; intro w H))
  (refine Nw_sep H ?_; clear H; intro fb w H; (try simp only [Value.cells, List.toList_toArray, List.append_nil, List.cons_append, List.nil_append] at H))
  (repeat first | refine go ?_ | ((try conv => whnf); (first | (refine St_gate ?_; refine xS ?_) | (refine StN_gate ?_; refine xN ?_)); clear H; intro w H))
  refine Call_of (litCContainsS (Q := fun w => Sep w0 w (cellsR fb 24 [.int .i64 z, v2] :: l)) (p := fun x => !(Lit.one x && decide ((Trail.var x : Int) ≤ z))) H (fun w' h => hs (l' := [_]) h) hx fun x hx w' h => pFits1 h (.head _) x) ?_
  clear H
  rintro _ w ⟨rfl, H⟩
  (repeat first | refine go ?_ | ((try conv => whnf); (first | (refine St_gate ?_; refine xS ?_) | (refine StN_gate ?_; refine xN ?_)); clear H; intro w H))
  exact Ret_in ⟨by rw [any_fit]; rfl, H.tail⟩
variable {C : List (List Int)} {R : List Fl} {ca : Option Addr} {cc : Nat}
theorem pRight (H : Sep w0 w l) (hs : ∀ {w' : World} {l' : List Res}, Sep w0 w' (l' ++ l) → FSrc w' ca C R) (hsm : ∀ x ∈ R, x.2.2.length ≤ 35184372087808) :
    Does Tryd.prog 15 #[.agg #[.int .i64 z, .slice ca C.length cc]] w fun v w' => v = .bool (rightZ z C) ∧ Sep w0 w' l := by
  refine Does_intro tok (Tryd.call15 _ _) Tryd.func15 rfl (by rfl) ?_
  (repeat first | refine go ?_ | ((try conv => whnf); (first | (refine St_gate ?_; refine xS ?_) | (refine StN_gate ?_; refine xN ?_)); clear H; intro w H))
  (refine Nw_sep H ?_; clear H; intro fb w H; (try simp only [Value.cells, List.toList_toArray, List.append_nil, List.cons_append, List.nil_append] at H))
  (repeat first | refine go ?_ | ((try conv => whnf); (first | (refine St_gate ?_; refine xS ?_) | (refine StN_gate ?_; refine xN ?_)); clear H; intro w H))
  by_cases h1 : z < 0
  · (repeat first | refine go ?_ | ((try conv => whnf); (first | (refine St_gate ?_; refine xS ?_) | (refine StN_gate ?_; refine xN ?_)); clear H; intro w H))
    exact Ret_in ⟨by unfold rightZ; rw [decide_eq_false (p := 0 ≤ z) (by omega)]; rfl, H.tail⟩
  by_cases h2 : 262144 < z
  · (repeat first | refine go ?_ | ((try conv => whnf); (first | (refine St_gate ?_; refine xS ?_) | (refine StN_gate ?_; refine xN ?_)); clear H; intro w H))
    exact Ret_in ⟨by unfold rightZ; rw [decide_eq_false (p := z ≤ 262144) (by omega), Bool.and_false]; rfl, H.tail⟩
  by_cases h3 : 1048576 < C.length
  · (repeat first | refine go ?_ | ((try conv => whnf); (first | (refine St_gate ?_; refine xS ?_) | (refine StN_gate ?_; refine xN ?_)); clear H; intro w H))
    exact Ret_in ⟨by unfold rightZ; rw [decide_eq_false (p := C.length ≤ 1048576) (by omega), Bool.and_false]; rfl, H.tail⟩
  have hr : rightZ z C = (decide (sumL C ≤ 4194304) && C.all (fitZ z)) := by
    unfold rightZ
    rw [decide_eq_true (p := 0 ≤ z) (by omega), decide_eq_true (p := z ≤ 262144) (by omega), decide_eq_true (p := C.length ≤ 1048576) (by omega)]
    rfl
  rw [hr]
  (repeat first | refine go ?_ | ((try conv => whnf); (first | (refine St_gate ?_; refine xS ?_) | (refine StN_gate ?_; refine xN ?_)); clear H; intro w H))
  refine Loop_intro (fun i : Nat => [(23, .int .i64 (i : Int)), (3, .int .i64 (sumL (C.take i) : Nat))]) (fun i w => (i ≤ C.length ∧ sumL (C.take i) ≤ 4194304 ∧ ∀ c ∈ C.take i, fitZ z c = true) ∧ Sep w0 w (cellsR fb 24 [.int .i64 z, .slice ca C.length cc] :: l)) (fun i => C.length - i)
    0 ⟨rfl, rfl, trivial⟩ ⟨⟨Nat.zero_le _, Nat.zero_le _, by simp⟩, H⟩ ?_
  clear H
  rintro i w ⟨⟨hi, hsum, hfit⟩, H⟩
  refine Br_dec (fun k1 => ?_) (fun k1 => ?_)
  · have hlt : i < C.length := by omega
    have hf : FSrc w ca C R := hs (l' := [_]) H
    obtain ⟨⟨ya, yc, ys⟩, hy, hyC, hys, hyl⟩ := hf.at hlt
    have hysm := hsm _ (List.mem_of_getElem? hy)
    simp only [] at hyC hys hyl hysm
    have hnx := sumL_next hyC
    have htk : C.take (i + 1) = C.take i ++ [ys] := by rw [List.take_add_one, hyC]; rfl
    have hle := sumL_le C (i + 1)
    obtain ⟨rb, ro, rfl⟩ := hf.rows.addr (by rw [List.length_map, hf.len]; omega)
    refine Ix_in i rfl hlt ?_
    refine Ld_src (j := i) hf.rows (v := .slice ya ys.length yc) (by rw [List.getElem?_map, hy]; rfl) ?_
    (repeat first | refine go ?_ | ((try conv => whnf); (first | (refine St_gate ?_; refine xS ?_) | (refine StN_gate ?_; refine xN ?_)); clear H; intro w H))
    by_cases h4 : 4194304 < sumL (C.take i) + ys.length
    · (repeat first | refine go ?_ | ((try conv => whnf); (first | (refine St_gate ?_; refine xS ?_) | (refine StN_gate ?_; refine xN ?_)); clear H; intro w H))
      exact Ret_in ⟨by rw [decide_eq_false (p := sumL C ≤ 4194304) (by omega)]; rfl, H.tail⟩
    · (repeat first | refine go ?_ | ((try conv => whnf); (first | (refine St_gate ?_; refine xS ?_) | (refine StN_gate ?_; refine xN ?_)); clear H; intro w H))
      refine Call_of (litCContainsS (Q := fun w => Sep w0 w (cellsR fb 24 [.int .i64 z, .slice (some ⟨rb, ro, none⟩) C.length cc] :: l)) (p := fun x => !(Lit.one x && decide ((Trail.var x : Int) ≤ z))) H (fun w' h => by
        obtain ⟨x', hx', _, hs', _⟩ := (hs (l' := [_]) h).at hlt
        rw [hy] at hx'; cases hx'
        exact hs') (by unfold maxLen; omega) fun x hx w' h => pRight1 h (.head _) x) ?_
      clear H
      rintro _ w ⟨rfl, H⟩
      have hany := any_fit z ys
      cases hq : ys.any fun x => !(Lit.one x && decide ((Trail.var x : Int) ≤ z)) with
      | true =>
        rw [hq] at hany
        (repeat first | refine go ?_ | ((try conv => whnf); (first | (refine St_gate ?_; refine xS ?_) | (refine StN_gate ?_; refine xN ?_)); clear H; intro w H))
        refine Ret_in ⟨?_, H.tail⟩
        have : C.all (fitZ z) = false := List.all_eq_false.2 ⟨ys, List.mem_of_getElem? hyC, by rw [← hany]; exact Bool.false_ne_true⟩
        rw [this, Bool.and_false]; rfl
      | false =>
        rw [hq] at hany
        (repeat first | refine go ?_ | ((try conv => whnf); (first | (refine St_gate ?_; refine xS ?_) | (refine StN_gate ?_; refine xN ?_)); clear H; intro w H))
        refine ⟨i + 1, ⟨congrArg some (vint (by omega)), congrArg some (vint (by rw [hnx]; omega)), trivial⟩, ⟨⟨by omega, by omega, fun c hc => ?_⟩, H⟩, by omega⟩
        rw [htk, List.mem_append, List.mem_singleton] at hc
        rcases hc with hc | rfl
        · exact hfit c hc
        · exact hany.symm
  · obtain rfl : i = C.length := by omega
    rw [List.take_length] at hsum hfit
    (repeat first | refine go ?_ | ((try conv => whnf); (first | (refine St_gate ?_; refine xS ?_) | (refine StN_gate ?_; refine xN ?_)); clear H; intro w H))
    exact Ret_in ⟨by rw [decide_eq_true hsum, List.all_eq_true.2 hfit]; rfl, H.tail⟩
end
end Go.Proofs.YtkgmgjiomniijaaDoor
