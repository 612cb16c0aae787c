/- The document's answers on formulas. -/
import Derived.Test.YtkgmgjiomniijaaGreatDoorProofR
import Derived.Test.YtkgmgjiomniijaaGreatDoorLitE
set_option linter.unusedVariables false
set_option linter.unusedSimpArgs false
namespace Go.Watch
/-- Is a literal true? -/
def tvB (vs : List Bool) (x : Int) : Bool := if x < 0 then !(vs.getD (x.natAbs - 1) false) else vs.getD (x.natAbs - 1) false
theorem tvB_neg {vs : List Bool} {x : Int} (h : x ≠ 0) : tvB vs (-x) = !tvB vs x := by
  unfold tvB
  rw [Int.natAbs_neg]
  rcases Int.lt_or_gt_of_ne h with h1 | h1
  · rw [if_neg (by omega), if_pos h1, Bool.not_not]
  · rw [if_pos (by omega), if_neg (by omega)]
theorem fit_bound {n : Nat} {c : List Int} (h : fitZ n c = true) : ∀ x ∈ c, Lit.one x = true ∧ x ≠ 0 ∧ x.natAbs ≤ n ∧ -262144 ≤ x ∧ x ≤ 262144 := by
  intro x hx
  have h1 := List.all_eq_true.1 h x hx
  simp only [Bool.and_eq_true, decide_eq_true_eq] at h1
  have h2 := Lit.one_iff.1 h1.1
  have h3 : Trail.okLit x = true := by rw [← one_ok]; exact h1.1
  have h4 := Trail.var_ok h3
  exact ⟨h1.1, by omega, by omega, by omega, by omega⟩
end Go.Watch
namespace Go.Proofs.YtkgmgjiomniijaaGreatDoor
open Go Go.Vc Go.Watch Go.Lit
open Go.Trail (Ent value find upto okLit litsV)
set_option maxHeartbeats 4000000
set_option maxRecDepth 100000
section
variable {w0 w : World} {l : List Res} {n m fb : Nat} {z : Int} {v2 : Value} {C : List (List Int)} {R : List Fl} {ca : Option Addr} {cc : Nat} {vs : List Bool} {va : Option Addr} {vc : Nat}
/-! The document's -/
theorem rTrue2 (hs : Src w va vs.length 1 (vs.map fun b => Value.bool b)) {x : Int} (h0 : x ≠ 0) (hx : x.natAbs ≤ vs.length) (hb : -262144 ≤ x ∧ x ≤ 262144) :
    Does Tryz.prog 20 #[lV x, .slice va vs.length vc] w fun v w' => v = .bool (tvB vs x) ∧ w = w' := by
  refine Does_intro tok (Tryz.call20 _ _) Tryz.func20 rfl (by rfl) ?_
  have hlt : x.natAbs - 1 < vs.length := by omega
  have hg : vs[x.natAbs - 1]? = some (vs.getD (x.natAbs - 1) false) := by rw [List.getD_eq_getElem?_getD, List.getElem?_eq_getElem hlt]; rfl
  obtain ⟨b, o, rfl⟩ := hs.addr (by rw [List.length_map]; omega)
  unfold tvB
  by_cases hn : x < 0
  · rw [if_pos hn]
    (repeat first | refine go ?_ | ((try conv => whnf); (first | (refine St_gate ?_; refine xS ?_) | (refine StN_gate ?_; refine xN ?_)); clear H; intro w H))
    refine Ix_in (x.natAbs - 1) (by omega) hlt ?_
    refine Ld_src (j := x.natAbs - 1) hs (v := .bool (vs.getD (x.natAbs - 1) false)) (by rw [List.getElem?_map, hg]; rfl) ?_
    (repeat first | refine go ?_ | ((try conv => whnf); (first | (refine St_gate ?_; refine xS ?_) | (refine StN_gate ?_; refine xN ?_)); clear H; intro w H))
    exact Ret_in ⟨rfl, rfl⟩
  · rw [if_neg hn]
    (repeat first | refine go ?_ | ((try conv => whnf); (first | (refine St_gate ?_; refine xS ?_) | (refine StN_gate ?_; refine xN ?_)); clear H; intro w H))
    refine Ix_in (x.natAbs - 1) (by omega) hlt ?_
    refine Ld_src (j := x.natAbs - 1) hs (v := .bool (vs.getD (x.natAbs - 1) false)) (by rw [List.getElem?_map, hg]; rfl) ?_
    (repeat first | refine go ?_ | ((try conv => whnf); (first | (refine St_gate ?_; refine xS ?_) | (refine StN_gate ?_; refine xN ?_)); clear H; intro w H))
    exact Ret_in ⟨rfl, rfl⟩
theorem fit1b (x : Int) (z : Int) : (!Lit.one x || decide (z < Lit.var x)) = !(Lit.one x && decide ((Trail.var x : Int) ≤ z)) := by
  rw [var_var]
  cases Lit.one x with
  | true =>
    rw [Bool.not_true, Bool.false_or, Bool.true_and, Bool.eq_iff_iff]; simp
  | false => rfl
theorem rRight2 (H : Sep w0 w l) (hs : ∀ {w' : World} {l' : List Res}, Sep w0 w' (l' ++ l) → FSrc w' ca C R) (hsm : ∀ x ∈ R, x.2.2.length ≤ 35184372087808) (hC : C.length ≤ 1000) :
    Does Tryz.prog 19 #[.agg #[.int .i64 z, .slice ca C.length cc]] w fun v w' => v = .bool (rightZ z C) ∧ Sep w0 w' l := by
  refine Does_intro tok (Tryz.call19 _ _) Tryz.func19 rfl (by rfl) ?_
  (repeat first | refine go ?_ | ((try conv => whnf); (first | (refine St_gate ?_; refine xS ?_) | (refine StN_gate ?_; refine xN ?_)); clear H; intro w H))
  (refine Nw_sep H ?_; clear H; intro fb w H; (try simp only [Value.cells, List.toList_toArray, List.append_nil, List.cons_append, List.nil_append] at H))
  (repeat first | refine go ?_ | ((try conv => whnf); (first | (refine St_gate ?_; refine xS ?_) | (refine StN_gate ?_; refine xN ?_)); clear H; intro w H))
  by_cases h1 : z < 0
  · (repeat first | refine go ?_ | ((try conv => whnf); (first | (refine St_gate ?_; refine xS ?_) | (refine StN_gate ?_; refine xN ?_)); clear H; intro w H))
    exact Ret_in ⟨by unfold rightZ; rw [decide_eq_false (p := 0 ≤ z) (by omega)]; rfl, H.tail⟩
  by_cases h2 : 262144 < z
  · (repeat first | refine go ?_ | ((try conv => whnf); (first | (refine St_gate ?_; refine xS ?_) | (refine StN_gate ?_; refine xN ?_)); clear H; intro w H))
    exact Ret_in ⟨by unfold rightZ; rw [decide_eq_false (p := z ≤ 262144) (by omega), Bool.and_false]; rfl, H.tail⟩
  have hr : rightZ z C = (decide (sumL C ≤ 4194304) && C.all (fitZ z)) := by
    unfold rightZ
    rw [decide_eq_true (p := 0 ≤ z) (by omega), decide_eq_true (p := z ≤ 262144) (by omega), decide_eq_true (p := C.length ≤ 1048576) (by omega)]
    rfl
  rw [hr]
  (repeat first | refine go ?_ | ((try conv => whnf); (first | (refine St_gate ?_; refine xS ?_) | (refine StN_gate ?_; refine xN ?_)); clear H; intro w H))
  refine Loop_intro (fun i : Nat => [(25, .int .i64 (i : Int)), (3, .int .i64 (sumL (C.take i) : Nat))]) (fun i w => (i ≤ C.length ∧ sumL (C.take i) ≤ i * 35184372087808 ∧ ∀ c ∈ C.take i, fitZ z c = true) ∧ Sep w0 w (cellsR fb 24 [.int .i64 z, .slice ca C.length cc] :: l)) (fun i => C.length - i)
    0 ⟨rfl, rfl, trivial⟩ ⟨⟨Nat.zero_le _, by simp [sumL], by simp⟩, H⟩ ?_
  clear H
  rintro i w ⟨⟨hi, hsum, hfit⟩, H⟩
  refine Br_dec (fun k1 => ?_) (fun k1 => ?_)
  · have hlt : i < C.length := by omega
    have hf : FSrc w ca C R := hs (l' := [_]) H
    obtain ⟨⟨ya, yc, ys⟩, hy, hyC, hys, hyl⟩ := hf.at hlt
    have hysm := hsm _ (List.mem_of_getElem? hy)
    simp only [] at hyC hys hyl hysm
    have hnx := sumL_next hyC
    have htk : C.take (i + 1) = C.take i ++ [ys] := by rw [List.take_add_one, hyC]; rfl
    obtain ⟨rb, ro, rfl⟩ := hf.rows.addr (by rw [List.length_map, hf.len]; omega)
    refine Ix_in i rfl hlt ?_
    refine Ld_src (j := i) hf.rows (v := .slice ya ys.length yc) (by rw [List.getElem?_map, hy]; rfl) ?_
    (repeat first | refine go ?_ | ((try conv => whnf); (first | (refine St_gate ?_; refine xS ?_) | (refine StN_gate ?_; refine xN ?_)); clear H; intro w H))
    refine Loop_intro (fun k : Nat => [(35, .int .i64 (k : Int))]) (fun k w => (k ≤ ys.length ∧ fitZ z (ys.take k) = true) ∧ Sep w0 w (cellsR fb 24 [.int .i64 z, .slice (some ⟨rb, ro, none⟩) C.length cc] :: l)) (fun k => ys.length - k)
      0 ⟨rfl, trivial⟩ ⟨⟨Nat.zero_le _, rfl⟩, H⟩ ?_
    clear H hf hys
    rintro k w ⟨⟨hk, hfk⟩, H⟩
    refine Br_dec (fun k2 => ?_) (fun k2 => ?_)
    · have hlk : k < ys.length := by omega
      have hys : Src w ya ys.length 1 (ys.map lV) := by
        obtain ⟨x', hx', _, hs', _⟩ := (hs (l' := [_]) H).at hlt
        rw [hy] at hx'; cases hx'
        exact hs'
      obtain ⟨yb, yo, rfl⟩ := hys.addr (by rw [List.length_map]; omega)
      have hxi : ys[k]? = some ys[k] := List.getElem?_eq_getElem hlk
      have hxm := List.getElem_mem hlk
      have htx : ys.take (k + 1) = ys.take k ++ [ys[k]] := by rw [List.take_add_one, hxi]; rfl
      generalize ys[k] = x at *
      have hf1 := fit1b x z
      refine Ix_in k rfl hlk ?_
      refine Ld_src (j := k) hys (v := lV x) (by rw [List.getElem?_map, hxi]; rfl) ?_
      clear hys
      (repeat first | refine go ?_ | ((try conv => whnf); (first | (refine St_gate ?_; refine xS ?_) | (refine StN_gate ?_; refine xN ?_)); clear H; intro w H))
      refine Draw_intro mixed [0, 1, 2, 3, 4, 6, 7, 5, 8, 9] (by decide +kernel) (fun w _ fd => ?_); replace H := H.fr fd; clear fd
      (repeat first | refine go ?_ | ((try conv => whnf); (first | (refine St_gate ?_; refine xS ?_) | (refine StN_gate ?_; refine xN ?_)); clear H; intro w H))
      refine Call_of (rOne (x := x) _) ?_
      rintro _ _ ⟨rfl, rfl⟩
      have hbad : fitZ z [x] = false → (sumL C ≤ 4194304 → False) ∨ C.all (fitZ z) = false := fun h => .inr (List.all_eq_false.2 ⟨ys, List.mem_of_getElem? hyC, by
        rw [Bool.not_eq_true]
        unfold fitZ at h ⊢
        rw [List.all_eq_false]
        simp at h
        exact ⟨x, hxm, by simpa using h⟩⟩)
      have hend : fitZ z [x] = false → (decide (sumL C ≤ 4194304) && C.all (fitZ z)) = false := fun h => by
        rcases hbad h with h | h
        · rw [decide_eq_false h]; rfl
        · rw [h, Bool.and_false]
      cases ho : Lit.one x with
      | false =>
        (repeat first | refine go ?_ | ((try conv => whnf); (first | (refine St_gate ?_; refine xS ?_) | (refine StN_gate ?_; refine xN ?_)); clear H; intro w H))
        exact Ret_in ⟨by rw [hend (by unfold fitZ; simp [ho])]; rfl, H.tail⟩
      | true =>
        (repeat first | refine go ?_ | ((try conv => whnf); (first | (refine St_gate ?_; refine xS ?_) | (refine StN_gate ?_; refine xN ?_)); clear H; intro w H))
        (try conv => whnf)
        (repeat (refine Kept_gate ?_; refine xK ?_))
        (repeat first | refine go ?_ | ((try conv => whnf); (first | (refine St_gate ?_; refine xS ?_) | (refine StN_gate ?_; refine xN ?_)); clear H; intro w H))
        refine Call_of (rVar (x := x) _) ?_
        rintro _ _ ⟨rfl, rfl⟩
        (try conv => whnf)
        (repeat (refine Kept_gate ?_; refine xK ?_))
        rw [ho] at hf1
        simp only [Bool.not_true, Bool.false_or, Bool.true_and] at hf1
        by_cases hv : z < Lit.var x
        · (repeat first | refine go ?_ | ((try conv => whnf); (first | (refine St_gate ?_; refine xS ?_) | (refine StN_gate ?_; refine xN ?_)); clear H; intro w H))
          exact Ret_in ⟨by rw [hend (by unfold fitZ; simp [ho]; rw [var_var] at hv; omega)]; rfl, H.tail⟩
        · (repeat first | refine go ?_ | ((try conv => whnf); (first | (refine St_gate ?_; refine xS ?_) | (refine StN_gate ?_; refine xN ?_)); clear H; intro w H))
          refine ⟨k + 1, ⟨congrArg some (vint (by omega)), trivial⟩, ⟨⟨by omega, ?_⟩, H⟩, by omega⟩
          rw [htx]
          unfold fitZ at hfk ⊢
          rw [List.all_append, hfk]
          simp [ho]
          rw [var_var] at hv; omega
    · obtain rfl : k = ys.length := by omega
      rw [List.take_length] at hfk
      (repeat first | refine go ?_ | ((try conv => whnf); (first | (refine St_gate ?_; refine xS ?_) | (refine StN_gate ?_; refine xN ?_)); clear H; intro w H))
      refine ⟨i + 1, ⟨congrArg some (vint (by omega)), congrArg some (vint (by rw [hnx]; omega)), trivial⟩, ⟨⟨by omega, by rw [hnx, Nat.succ_mul]; omega, fun c hc => ?_⟩, H⟩, by omega⟩
      rw [htk, List.mem_append, List.mem_singleton] at hc
      rcases hc with hc | rfl
      · exact hfit c hc
      · exact hfk
  · obtain rfl : i = C.length := by omega
    rw [List.take_length] at hsum hfit
    (repeat first | refine go ?_ | ((try conv => whnf); (first | (refine St_gate ?_; refine xS ?_) | (refine StN_gate ?_; refine xN ?_)); clear H; intro w H))
    refine Ret_in ⟨?_, H.tail⟩
    rw [List.take_length, List.all_eq_true.2 hfit, Bool.and_true]
    exact vbool (by rw [Bool.eq_iff_iff]; simp; omega)
theorem rFalse2 (H : Sep w0 w l) (hs : ∀ {w' : World} {l' : List Res}, Sep w0 w' (l' ++ l) → FSrc w' ca C R) (hsm : ∀ x ∈ R, x.2.2.length ≤ 35184372087808) (hC : C.length ≤ 1000)
    (hv : ∀ {w' : World} {l' : List Res}, Sep w0 w' (l' ++ l) → Src w' va vs.length 1 (vs.map fun b => Value.bool b)) (hvm : vs.length ≤ 1000000) :
    Does Tryz.prog 9 #[.agg #[.int .i64 z, .slice ca C.length cc], .slice va vs.length vc] w fun v w' => ((¬(rightZ z C = true ∧ (vs.length : Int) = z) ∧ v = .tuple #[.int .i64 0, .int .i64 21]) ∨
      ((rightZ z C = true ∧ (vs.length : Int) = z) ∧ ∃ o : Option Nat, v = .tuple #[.int .i64 (outV o), .int .i64 0] ∧ (o = none ↔ ∀ c ∈ C, ∃ x ∈ c, tvB vs x = true))) ∧ Sep w0 w' l := by
  refine Does_intro tok (Tryz.call9 _ _) Tryz.func9 rfl (by rfl) ?_
  (repeat first | refine go ?_ | ((try conv => whnf); (first | (refine St_gate ?_; refine xS ?_) | (refine StN_gate ?_; refine xN ?_)); clear H; intro w H))
  (refine Nw_sep H ?_; clear H; intro fb w H; (try simp only [Value.cells, List.toList_toArray, List.append_nil, List.cons_append, List.nil_append] at H))
  (repeat first | refine go ?_ | ((try conv => whnf); (first | (refine St_gate ?_; refine xS ?_) | (refine StN_gate ?_; refine xN ?_)); clear H; intro w H))
  refine Call_of (rRight2 H (fun {w'} {l'} h => hs (l' := l' ++ [_]) (by simpa using h)) hsm hC) ?_
  clear H
  rintro _ w ⟨rfl, H⟩
  cases hr : rightZ z C with
  | false =>
    (repeat first | refine go ?_ | ((try conv => whnf); (first | (refine St_gate ?_; refine xS ?_) | (refine StN_gate ?_; refine xN ?_)); clear H; intro w H))
    exact Ret_in ⟨.inl ⟨fun h => Bool.false_ne_true h.1, rfl⟩, H.tail⟩
  | true =>
    by_cases hz : (vs.length : Int) = z
    case neg =>
      (repeat first | refine go ?_ | ((try conv => whnf); (first | (refine St_gate ?_; refine xS ?_) | (refine StN_gate ?_; refine xN ?_)); clear H; intro w H))
      exact Ret_in ⟨.inl ⟨fun h => hz h.2, rfl⟩, H.tail⟩
    subst hz
    have hCf : ∀ c ∈ C, fitZ (vs.length : Int) c = true := by
      unfold rightZ at hr
      simp only [Bool.and_eq_true] at hr
      exact List.all_eq_true.1 hr.2
    (repeat first | refine go ?_ | ((try conv => whnf); (first | (refine St_gate ?_; refine xS ?_) | (refine StN_gate ?_; refine xN ?_)); clear H; intro w H))
    refine Loop_intro (fun i : Nat => [(24, .int .i64 (i : Int))]) (fun i w => (i ≤ C.length ∧ ∀ c ∈ C.take i, ∃ x ∈ c, tvB vs x = true) ∧ Sep w0 w (cellsR fb 24 [.int .i64 (vs.length : Int), .slice ca C.length cc] :: l)) (fun i => C.length - i)
      0 ⟨rfl, trivial⟩ ⟨⟨Nat.zero_le _, by simp⟩, H⟩ ?_
    clear H
    rintro i w ⟨⟨hi, hall⟩, H⟩
    refine Br_dec (fun k1 => ?_) (fun k1 => ?_)
    · have hlt : i < C.length := by omega
      have hf : FSrc w ca C R := hs (l' := [_]) H
      obtain ⟨⟨ya, yc, ys⟩, hy, hyC, hys, hyl⟩ := hf.at hlt
      have hysm := hsm _ (List.mem_of_getElem? hy)
      simp only [] at hyC hys hyl hysm
      have htk : C.take (i + 1) = C.take i ++ [ys] := by rw [List.take_add_one, hyC]; rfl
      have hfb := fit_bound (hCf ys (List.mem_of_getElem? hyC))
      obtain ⟨rb, ro, rfl⟩ := hf.rows.addr (by rw [List.length_map, hf.len]; omega)
      refine Ix_in i rfl hlt ?_
      refine Ld_src (j := i) hf.rows (v := .slice ya ys.length yc) (by rw [List.getElem?_map, hy]; rfl) ?_
      (repeat first | refine go ?_ | ((try conv => whnf); (first | (refine St_gate ?_; refine xS ?_) | (refine StN_gate ?_; refine xN ?_)); clear H; intro w H))
      refine Loop_intro (fun q : Nat × Bool => [(31, .int .i64 (q.1 : Int)), (8, .bool q.2)]) (fun q w => (q.1 ≤ ys.length ∧ q.2 = (ys.take q.1).any (tvB vs)) ∧ Sep w0 w (cellsR fb 24 [.int .i64 (vs.length : Int), .slice (some ⟨rb, ro, none⟩) C.length cc] :: l)) (fun q => ys.length - q.1)
        (0, false) ⟨rfl, rfl, trivial⟩ ⟨⟨Nat.zero_le _, rfl⟩, H⟩ ?_
      clear H hf hys
      rintro ⟨k, hb⟩ w ⟨⟨hk, hkb⟩, H⟩
      simp only [] at hk hkb H ⊢
      refine Br_dec (fun k2 => ?_) (fun k2 => ?_)
      · have hlk : k < ys.length := by omega
        have hys : Src w ya ys.length 1 (ys.map lV) := by
          obtain ⟨x', hx', _, hs', _⟩ := (hs (l' := [_]) H).at hlt
          rw [hy] at hx'; cases hx'
          exact hs'
        obtain ⟨yb, yo, rfl⟩ := hys.addr (by rw [List.length_map]; omega)
        have hxi : ys[k]? = some ys[k] := List.getElem?_eq_getElem hlk
        have hxm := List.getElem_mem hlk
        have htx : ys.take (k + 1) = ys.take k ++ [ys[k]] := by rw [List.take_add_one, hxi]; rfl
        generalize ys[k] = x at *
        obtain ⟨_, h0, hxn, hx1, hx2⟩ := hfb x hxm
        refine Ix_in k rfl hlk ?_
        refine Ld_src (j := k) hys (v := lV x) (by rw [List.getElem?_map, hxi]; rfl) ?_
        clear hys
        (repeat first | refine go ?_ | ((try conv => whnf); (first | (refine St_gate ?_; refine xS ?_) | (refine StN_gate ?_; refine xN ?_)); clear H; intro w H))
        cases hb with
        | true =>
          (repeat first | refine go ?_ | ((try conv => whnf); (first | (refine St_gate ?_; refine xS ?_) | (refine StN_gate ?_; refine xN ?_)); clear H; intro w H))
          exact ⟨(k + 1, true), ⟨congrArg some (vint (by simp)), rfl, trivial⟩, ⟨⟨by simp only []; omega, by rw [htx, List.any_append, ← hkb]; rfl⟩, H⟩, by simp; omega⟩
        | false =>
          (repeat first | refine go ?_ | ((try conv => whnf); (first | (refine St_gate ?_; refine xS ?_) | (refine StN_gate ?_; refine xN ?_)); clear H; intro w H))
          refine Call_of (rTrue2 (hv (l' := [_]) H) h0 hxn ⟨hx1, hx2⟩) ?_
          rintro _ _ ⟨rfl, rfl⟩
          (repeat first | refine go ?_ | ((try conv => whnf); (first | (refine St_gate ?_; refine xS ?_) | (refine StN_gate ?_; refine xN ?_)); clear H; intro w H))
          exact ⟨(k + 1, tvB vs x), ⟨congrArg some (vint (by simp)), rfl, trivial⟩, ⟨⟨by simp only []; omega, by rw [htx, List.any_append, ← hkb]; simp⟩, H⟩, by simp; omega⟩
      · obtain rfl : k = ys.length := by omega
        rw [List.take_length] at hkb
        cases hb with
        | true =>
          (repeat first | refine go ?_ | ((try conv => whnf); (first | (refine St_gate ?_; refine xS ?_) | (refine StN_gate ?_; refine xN ?_)); clear H; intro w H))
          refine ⟨i + 1, ⟨congrArg some (vint (by omega)), trivial⟩, ⟨⟨by omega, fun c hc => ?_⟩, H⟩, by omega⟩
          rw [htk, List.mem_append, List.mem_singleton] at hc
          rcases hc with hc | rfl
          · exact hall c hc
          · exact List.any_eq_true.1 hkb.symm
        | false =>
          (repeat first | refine go ?_ | ((try conv => whnf); (first | (refine St_gate ?_; refine xS ?_) | (refine StN_gate ?_; refine xN ?_)); clear H; intro w H))
          refine Ret_in ⟨.inr ⟨⟨trivial, trivial⟩, some i, rfl, fun h => (by cases h), fun h => ?_⟩, H.tail⟩
          exfalso
          have := List.any_eq_true.2 (h ys (List.mem_of_getElem? hyC))
          rw [← hkb] at this; cases this
    · obtain rfl : i = C.length := by omega
      rw [List.take_length] at hall
      (repeat first | refine go ?_ | ((try conv => whnf); (first | (refine St_gate ?_; refine xS ?_) | (refine StN_gate ?_; refine xN ?_)); clear H; intro w H))
      exact Ret_in ⟨.inr ⟨⟨rfl, rfl⟩, none, rfl, fun _ => hall, fun _ => rfl⟩, H.tail⟩
end
end Go.Proofs.YtkgmgjiomniijaaGreatDoor
