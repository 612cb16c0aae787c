/- The reference's resolving. -/
import Derived.Test.YtkgmgjiomniijaaGreatDoorLitE
import Derived.Test.YtkgmgjiomniijaaGreatDoorLitC
set_option linter.unusedVariables false
set_option linter.unusedSimpArgs false
namespace Go.Proofs.YtkgmgjiomniijaaGreatDoor
open Go Go.Vc Go.Lit
set_option maxHeartbeats 4000000
set_option maxRecDepth 100000

section
variable {w0 w : World} {l : List Res}

theorem rResolve {xs ys : List Int} {a b : Option Addr} {c d : Nat} {v : Int} (H : Sep w0 w l) (hs : ∀ {w' : World} {l' : List Res}, Sep w0 w' (l' ++ l) → Src w' a xs.length 1 (xs.map lV)) (ht : ∀ {w' : World} {l' : List Res}, Sep w0 w' (l' ++ l) → Src w' b ys.length 1 (ys.map lV))
    (hm : xs.length ≤ 10000000) (hn : ys.length ≤ 10000000) (hv1 : -9223372036854775808 ≤ v) (hv2 : v ≤ 9223372036854775807) :
    Does Tryz.prog 10 #[.slice a xs.length c, .slice b ys.length d, .int .i64 v] w fun r w' =>
      (resOk xs ys v = false ∧ r = .tuple #[.slice none 0 0, .int .i64 11] ∧ Sep w0 w' l) ∨
      (resOk xs ys v = true ∧ ∃ a' c' out, r = .tuple #[.slice a' out.length c', .int .i64 0] ∧ Lit.Clean (resL xs ys v) out ∧ out.length ≤ xs.length + ys.length ∧ Sep w0 w' (ownR a' out.length c' 41 1 (out.map lV) :: l)) := by
  refine Does_intro tok (Tryz.call10 _ _) Tryz.func10 rfl (by rfl) ?_
  (repeat first | refine go ?_ | ((try conv => whnf); (first | (refine St_gate ?_; refine xS ?_) | (refine StN_gate ?_; refine xN ?_)); clear H; intro w H))
  refine Call_of (rRight (hs (l' := []) H) (by omega)) ?_
  rintro _ _ ⟨rfl, rfl⟩
  cases h1 : xs.all Lit.one with
  | false =>
    (repeat first | refine go ?_ | ((try conv => whnf); (first | (refine St_gate ?_; refine xS ?_) | (refine StN_gate ?_; refine xN ?_)); clear H; intro w H))
    exact Ret_in (.inl ⟨by unfold resOk; rw [h1]; rfl, rfl, H⟩)
  | true =>
  (repeat first | refine go ?_ | ((try conv => whnf); (first | (refine St_gate ?_; refine xS ?_) | (refine StN_gate ?_; refine xN ?_)); clear H; intro w H))
  refine Call_of (rRight (ht (l' := []) H) (by omega)) ?_
  rintro _ _ ⟨rfl, rfl⟩
  cases h2 : ys.all Lit.one with
  | false =>
    (repeat first | refine go ?_ | ((try conv => whnf); (first | (refine St_gate ?_; refine xS ?_) | (refine StN_gate ?_; refine xN ?_)); clear H; intro w H))
    exact Ret_in (.inl ⟨by unfold resOk; rw [h1, h2]; rfl, rfl, H⟩)
  | true =>
  by_cases hva : v < 1
  · (repeat first | refine go ?_ | ((try conv => whnf); (first | (refine St_gate ?_; refine xS ?_) | (refine StN_gate ?_; refine xN ?_)); clear H; intro w H))
    exact Ret_in (.inl ⟨by unfold resOk; rw [h1, h2, decide_eq_false (by omega)]; rfl, rfl, H⟩)
  by_cases hvb : 262144 < v
  · (repeat first | refine go ?_ | ((try conv => whnf); (first | (refine St_gate ?_; refine xS ?_) | (refine StN_gate ?_; refine xN ?_)); clear H; intro w H))
    exact Ret_in (.inl ⟨by unfold resOk; rw [h1, h2, decide_eq_false (by omega)]; rfl, rfl, H⟩)
  have hv : 1 ≤ v ∧ v ≤ 262144 := by omega
  (repeat first | refine go ?_ | ((try conv => whnf); (first | (refine St_gate ?_; refine xS ?_) | (refine StN_gate ?_; refine xN ?_)); clear H; intro w H))
  refine Call_of (rHas (y := v) (hs (l' := []) H) (by omega)) ?_
  rintro _ _ ⟨rfl, rfl⟩
  cases h3 : decide (v ∈ xs) with
  | false =>
    (repeat first | refine go ?_ | ((try conv => whnf); (first | (refine St_gate ?_; refine xS ?_) | (refine StN_gate ?_; refine xN ?_)); clear H; intro w H))
    exact Ret_in (.inl ⟨by unfold resOk; rw [h1, h2, decide_eq_true hv, h3]; rfl, rfl, H⟩)
  | true =>
  (repeat first | refine go ?_ | ((try conv => whnf); (first | (refine St_gate ?_; refine xS ?_) | (refine StN_gate ?_; refine xN ?_)); clear H; intro w H))
  rw [Int.zero_sub]
  (repeat first | refine go ?_ | ((try conv => whnf); (first | (refine St_gate ?_; refine xS ?_) | (refine StN_gate ?_; refine xN ?_)); clear H; intro w H))
  refine Call_of (rHas (y := -v) (ht (l' := []) H) (by omega)) ?_
  rintro _ _ ⟨rfl, rfl⟩
  cases h4 : decide (-v ∈ ys) with
  | false =>
    (repeat first | refine go ?_ | ((try conv => whnf); (first | (refine St_gate ?_; refine xS ?_) | (refine StN_gate ?_; refine xN ?_)); clear H; intro w H))
    exact Ret_in (.inl ⟨by unfold resOk; rw [h1, h2, decide_eq_true hv, h3, h4]; rfl, rfl, H⟩)
  | true =>
  have hok : resOk xs ys v = true := by unfold resOk; rw [h1, h2, decide_eq_true hv, h3, h4]; rfl
  (repeat first | refine go ?_ | ((try conv => whnf); (first | (refine St_gate ?_; refine xS ?_) | (refine StN_gate ?_; refine xN ?_)); clear H; intro w H))
  (refine Nw_sep H ?_; clear H; intro ob w H; (try simp only [Value.cells, List.toList_toArray, List.append_nil, List.cons_append, List.nil_append] at H))
  replace H := H.row 0 0 1 rfl rfl (by decide) (by simp only [List.set_cons_succ, List.set_cons_zero]; rfl)
  (repeat first | refine go ?_ | ((try conv => whnf); (first | (refine St_gate ?_; refine xS ?_) | (refine StN_gate ?_; refine xN ?_)); clear H; intro w H))
  refine Loop_intro (fun s : Nat × Option Addr × Nat => [(50, .int .i64 (s.1 : Int)), (8, .slice s.2.1 ((xs.take s.1).filter fun x => !decide (x = v)).length s.2.2)])
    (fun s w => s.1 ≤ xs.length ∧ Sep w0 w (ownR s.2.1 ((xs.take s.1).filter fun x => !decide (x = v)).length s.2.2 41 1 (((xs.take s.1).filter fun x => !decide (x = v)).map lV) :: l)) (fun s => xs.length - s.1) (0, _, _) ⟨rfl, rfl, trivial⟩ ⟨Nat.zero_le _, H⟩ ?_
  clear H
  rintro ⟨i, a2, c2⟩ w ⟨hi, H⟩
  simp only [] at hi H ⊢
  refine Br_dec (fun k1 => ?_) (fun k1 => ?_)
  · have hlt : i < xs.length := by omega
    have hxi : xs[i]? = some xs[i] := List.getElem?_eq_getElem hlt
    have hsrc := hs (l' := [_]) H
    obtain ⟨sb, so, rfl⟩ := hsrc.addr (by rw [List.length_map]; omega)
    have hnext : (xs.take (i + 1)).filter (fun x => !decide (x = v)) = (xs.take i).filter (fun x => !decide (x = v)) ++ (if xs[i] = v then [] else [xs[i]]) := by
      rw [List.take_add_one, hxi, List.filter_append]
      congr 1
      by_cases h : xs[i] = v <;> simp [h]
    have hzl : ((xs.take i).filter fun x => !decide (x = v)).length ≤ xs.length := Nat.le_trans (List.length_filter_le _ _) (by rw [List.length_take]; omega)
    refine Ix_in i rfl hlt ?_
    refine Ld_src (j := i) hsrc (v := lV xs[i]) (by rw [List.getElem?_map, hxi]; rfl) ?_
    clear hsrc
    generalize xs[i] = x at *
    generalize hz : (xs.take i).filter (fun x => !decide (x = v)) = zs at *
    (repeat first | refine go ?_ | ((try conv => whnf); (first | (refine St_gate ?_; refine xS ?_) | (refine StN_gate ?_; refine xN ?_)); clear H; intro w H))
    by_cases hy : x = v
    · rw [if_pos hy, List.append_nil] at hnext
      (repeat first | refine go ?_ | ((try conv => whnf); (first | (refine St_gate ?_; refine xS ?_) | (refine StN_gate ?_; refine xN ?_)); clear H; intro w H))
      exact ⟨(i + 1, a2, c2), ⟨congrArg some (vint (by simp)), by simp only []; rw [hnext]; rfl, trivial⟩, ⟨by omega, by simp only []; rw [hnext]; exact H⟩, by simp; omega⟩
    · rw [if_neg hy] at hnext
      have e : zs.map lV ++ [lV x] = (zs ++ [x]).map lV := by simp
      (repeat first | refine go ?_ | ((try conv => whnf); (first | (refine St_gate ?_; refine xS ?_) | (refine StN_gate ?_; refine xN ?_)); clear H; intro w H))
      (refine Nw_sep H ?_; clear H; intro nb w H; (try simp only [Value.cells, List.toList_toArray, List.append_nil, List.cons_append, List.nil_append] at H))
      (repeat first | refine go ?_ | ((try conv => whnf); (first | (refine St_gate ?_; refine xS ?_) | (refine StN_gate ?_; refine xN ?_)); clear H; intro w H))
      (refine DoN_gate ?_; refine append_one tok H rfl rfl rfl rfl rfl (by decide) mm (m := 1) rfl (by simp [oneCell]) (by omega) (by unfold maxLen; omega) ?_; clear H; intro a3 c3 w H; replace H := H _ (by repeat first | exact Upd.head | apply Upd.tail))
      (repeat first | refine go ?_ | ((try conv => whnf); (first | (refine St_gate ?_; refine xS ?_) | (refine StN_gate ?_; refine xN ?_)); clear H; intro w H))
      rw [e] at H
      refine ⟨(i + 1, a3, c3), ⟨congrArg some (vint (by simp)), ?_, trivial⟩, ⟨by omega, ?_⟩, by simp; omega⟩
      · simp only []; rw [hnext, List.length_append]; rfl
      · simp only []; rw [hnext, List.length_append]; exact H
  obtain rfl : i = xs.length := by omega
  rw [List.take_length] at H ⊢
  have hfl : (xs.filter fun x => !decide (x = v)).length ≤ xs.length := List.length_filter_le _ _
  (repeat first | refine go ?_ | ((try conv => whnf); (first | (refine St_gate ?_; refine xS ?_) | (refine StN_gate ?_; refine xN ?_)); clear H; intro w H))
  refine Loop_intro (fun s : Nat × Option Addr × Nat => [(65, .int .i64 (s.1 : Int)), (8, .slice s.2.1 ((xs.filter fun x => !decide (x = v)) ++ (ys.take s.1).filter fun y => decide (y ≠ -v)).length s.2.2)])
    (fun s w => s.1 ≤ ys.length ∧ Sep w0 w (ownR s.2.1 ((xs.filter fun x => !decide (x = v)) ++ (ys.take s.1).filter fun y => decide (y ≠ -v)).length s.2.2 41 1 (((xs.filter fun x => !decide (x = v)) ++ (ys.take s.1).filter fun y => decide (y ≠ -v)).map lV) :: l)) (fun s => ys.length - s.1) (0, a2, c2) ⟨rfl, ?_, trivial⟩ ⟨Nat.zero_le _, ?_⟩ ?_
  · have e0 : (xs.filter fun x => !decide (x = v)) ++ (ys.take 0).filter (fun y => decide (y ≠ -v)) = xs.filter fun x => !decide (x = v) := by simp
    simp only []
    rw [e0]; rfl
  · simpa using H
  clear H
  rintro ⟨i, a2, c2⟩ w ⟨hi, H⟩
  simp only [] at hi H ⊢
  refine Br_dec (fun k1 => ?_) (fun k1 => ?_)
  · have hlt : i < ys.length := by omega
    have hyi : ys[i]? = some ys[i] := List.getElem?_eq_getElem hlt
    have hsrc := ht (l' := [_]) H
    obtain ⟨sb, so, rfl⟩ := hsrc.addr (by rw [List.length_map]; omega)
    have hnext : (ys.take (i + 1)).filter (fun y => decide (y ≠ -v)) = (ys.take i).filter (fun y => decide (y ≠ -v)) ++ (if ys[i] = -v then [] else [ys[i]]) := by
      rw [List.take_add_one, hyi, List.filter_append]
      congr 1
      by_cases h : ys[i] = -v <;> simp [h]
    have hfl2 : ((ys.take i).filter fun y => decide (y ≠ -v)).length ≤ ys.length := Nat.le_trans (List.length_filter_le _ _) (by rw [List.length_take]; omega)
    refine Ix_in i rfl hlt ?_
    refine Ld_src (j := i) hsrc (v := lV ys[i]) (by rw [List.getElem?_map, hyi]; rfl) ?_
    clear hsrc
    generalize ys[i] = y at *
    generalize hz : (xs.filter fun x => !decide (x = v)) ++ (ys.take i).filter (fun y => decide (y ≠ -v)) = zs at *
    have hzl : zs.length ≤ xs.length + ys.length := by rw [← hz, List.length_append]; omega
    (repeat first | refine go ?_ | ((try conv => whnf); (first | (refine St_gate ?_; refine xS ?_) | (refine StN_gate ?_; refine xN ?_)); clear H; intro w H))
    rw [Int.zero_sub]
    (repeat first | refine go ?_ | ((try conv => whnf); (first | (refine St_gate ?_; refine xS ?_) | (refine StN_gate ?_; refine xN ?_)); clear H; intro w H))
    by_cases hy : y = -v
    · rw [if_pos hy, List.append_nil] at hnext
      (repeat first | refine go ?_ | ((try conv => whnf); (first | (refine St_gate ?_; refine xS ?_) | (refine StN_gate ?_; refine xN ?_)); clear H; intro w H))
      exact ⟨(i + 1, a2, c2), ⟨congrArg some (vint (by simp)), by simp only []; rw [hnext, hz]; rfl, trivial⟩, ⟨by omega, by simp only []; rw [hnext, hz]; exact H⟩, by simp; omega⟩
    · rw [if_neg hy] at hnext
      have e : zs.map lV ++ [lV y] = (zs ++ [y]).map lV := by simp
      (repeat first | refine go ?_ | ((try conv => whnf); (first | (refine St_gate ?_; refine xS ?_) | (refine StN_gate ?_; refine xN ?_)); clear H; intro w H))
      (refine Nw_sep H ?_; clear H; intro nb w H; (try simp only [Value.cells, List.toList_toArray, List.append_nil, List.cons_append, List.nil_append] at H))
      (repeat first | refine go ?_ | ((try conv => whnf); (first | (refine St_gate ?_; refine xS ?_) | (refine StN_gate ?_; refine xN ?_)); clear H; intro w H))
      (refine DoN_gate ?_; refine append_one tok H rfl rfl rfl rfl rfl (by decide) mm (m := 1) rfl (by simp [oneCell]) (by omega) (by unfold maxLen; omega) ?_; clear H; intro a3 c3 w H; replace H := H _ (by repeat first | exact Upd.head | apply Upd.tail))
      (repeat first | refine go ?_ | ((try conv => whnf); (first | (refine St_gate ?_; refine xS ?_) | (refine StN_gate ?_; refine xN ?_)); clear H; intro w H))
      rw [e] at H
      refine ⟨(i + 1, a3, c3), ⟨congrArg some (vint (by simp)), ?_, trivial⟩, ⟨by omega, ?_⟩, by simp; omega⟩
      · simp only []; rw [hnext, ← List.append_assoc, hz, List.length_append]; rfl
      · simp only []; rw [hnext, ← List.append_assoc, hz, List.length_append]; exact H
  · obtain rfl : i = ys.length := by omega
    rw [List.take_length] at H ⊢
    have hr : (xs.filter fun x => !decide (x = v)) ++ ys.filter (fun y => decide (y ≠ -v)) = resL xs ys v := rfl
    have hrl : (resL xs ys v).length ≤ xs.length + ys.length := by
      rw [← hr, List.length_append]
      have := List.length_filter_le (fun y => decide (y ≠ -v)) ys
      omega
    rw [hr] at H ⊢
    have hro : ∀ x ∈ resL xs ys v, Lit.one x = true := by
      intro x hx
      rw [← hr, List.mem_append, List.mem_filter, List.mem_filter] at hx
      rcases hx with hx | hx
      · exact List.all_eq_true.1 h1 x hx.1
      · exact List.all_eq_true.1 h2 x hx.1
    (repeat first | refine go ?_ | ((try conv => whnf); (first | (refine St_gate ?_; refine xS ?_) | (refine StN_gate ?_; refine xN ?_)); clear H; intro w H))
    refine Call_of (rClean H (fun {w' l'} h => Sep.srcM h (List.mem_append_right _ (.head _))) (by omega) hro) ?_
    clear H
    rintro _ w ⟨a', c', out, rfl, hcl, hol, H⟩
    (repeat first | refine go ?_ | ((try conv => whnf); (first | (refine St_gate ?_; refine xS ?_) | (refine StN_gate ?_; refine xN ?_)); clear H; intro w H))
    exact Ret_in (.inr ⟨hok, a', c', out, rfl, hcl, by omega, H.drop 1 rfl rfl⟩)
end
end Go.Proofs.YtkgmgjiomniijaaGreatDoor
