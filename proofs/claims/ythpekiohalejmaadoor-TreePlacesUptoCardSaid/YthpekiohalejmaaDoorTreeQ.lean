/- The law's function: where a thing stands doesn't count. -/
import Derived.Test.YthpekiohalejmaaDoorTreeP
set_option linter.unusedVariables false
set_option linter.unusedSimpArgs false
namespace Go.Proofs.YthpekiohalejmaaDoor
open Go Go.Vc Go.Tree
set_option maxHeartbeats 4000000
set_option maxRecDepth 100000
section
variable {w0 w : World} {l : List Res} {i j : Int}
theorem TOk.moved {x : Ex} (h : TOk w x) : TOk w (Go.Tree.moved x i j) := (TOk_iff (x := Go.Tree.moved x i j)).2 ((TOk_iff (x := x)).1 h)
theorem TOk.turned {x : Ex} {b : Nat} {o : Nat} (h : TOk w x) (hs : Src w (some ⟨b, o, none⟩) 1 6 (exV x)) : TOk w (turned x ⟨b, o, none⟩) :=
  TOk_iff.2 ⟨by show Src w (some ⟨b, o, none⟩) 1 6 (exV x ++ []); rw [List.append_nil]; exact hs, fun k hk => by
    simp only [Go.Tree.turned, Ex.kids, List.mem_cons, List.not_mem_nil, or_false] at hk
    subst hk; exact h⟩
theorem tPlaces (x : Ex) (H : Sep w0 w l) (hp : Pow w0) (hs : ∀ {w' : World} {l' : List Res}, Sep w0 w' (l' ++ l) → TOk w' x) (hb : bulk x ≤ 1500000) :
    Does Tryd.prog 3 #[exA x, .int .i64 i, .int .i64 j] w fun v w' => v = .bool true ∧ Sep w0 w' l := by
  refine Does_intro tok (Tryd.call3 _ _) Tryd.func3 rfl (by rfl) ?_
  (repeat first | refine goN ?_ | ((try conv => whnf); first | (refine Ar_gate ?_; first | (fail_if_success skip) | refine xA ?_) | (first | refine Do_str_eq ?_ | refine Do_str_ne ?_ | refine DoN_len tok rfl ?_ | refine Eqv_in ?_)) | ((try conv => whnf); (first | (refine St_gate ?_; refine xS ?_) | (refine StN_gate ?_; refine xN ?_)); clear H; intro w H))
  (refine Nw_sep H ?_; clear H; intro xb w H; (try simp only [Value.cells, List.toList_toArray, List.append_nil, List.cons_append, List.nil_append] at H))
  (repeat first | refine goN ?_ | ((try conv => whnf); first | (refine Ar_gate ?_; first | (fail_if_success skip) | refine xA ?_) | (first | refine Do_str_eq ?_ | refine Do_str_ne ?_ | refine DoN_len tok rfl ?_ | refine Eqv_in ?_)) | ((try conv => whnf); (first | (refine St_gate ?_; refine xS ?_) | (refine StN_gate ?_; refine xN ?_)); clear H; intro w H))
  refine Call_of (tAlive H hp) ?_
  clear H
  rintro _ w ⟨rfl, H⟩
  (repeat first | refine goN ?_ | ((try conv => whnf); first | (refine Ar_gate ?_; first | (fail_if_success skip) | refine xA ?_) | (first | refine Do_str_eq ?_ | refine Do_str_ne ?_ | refine DoN_len tok rfl ?_ | refine Eqv_in ?_)) | ((try conv => whnf); (first | (refine St_gate ?_; refine xS ?_) | (refine StN_gate ?_; refine xN ?_)); clear H; intro w H))
  (refine Nw_sep H ?_; clear H; intro yb w H; (try simp only [Value.cells, List.toList_toArray, List.append_nil, List.cons_append, List.nil_append] at H))
  (repeat first | refine goN ?_ | ((try conv => whnf); first | (refine Ar_gate ?_; first | (fail_if_success skip) | refine xA ?_) | (first | refine Do_str_eq ?_ | refine Do_str_ne ?_ | refine DoN_len tok rfl ?_ | refine Eqv_in ?_)) | ((try conv => whnf); (first | (refine St_gate ?_; refine xS ?_) | (refine StN_gate ?_; refine xN ?_)); clear H; intro w H))
  refine Call_of (tExpr x H hp (fun {w'} {l'} h => hs (l' := l' ++ [_, _]) (by simpa using h)) (by omega)) ?_
  clear H
  rintro _ w ⟨rfl, H⟩
  (repeat first | refine goN ?_ | ((try conv => whnf); first | (refine Ar_gate ?_; first | (fail_if_success skip) | refine xA ?_) | (first | refine Do_str_eq ?_ | refine Do_str_ne ?_ | refine DoN_len tok rfl ?_ | refine Eqv_in ?_)) | ((try conv => whnf); (first | (refine St_gate ?_; refine xS ?_) | (refine StN_gate ?_; refine xN ?_)); clear H; intro w H))
  refine Call_of (tExpr (Go.Tree.moved x i j) H hp (fun {w'} {l'} h => (hs (l' := l' ++ [_, _]) (by simpa using h)).moved) (by rw [moved_bulk]; omega)) ?_
  clear H
  rintro v1 w ⟨hv, H⟩
  rw [moved_writ, show txt (Go.Tree.moved x i j) = txt x from moved_text] at hv
  subst hv
  generalize hse : (if writB x = true then txt x else str []) = s at *
  generalize hee : (if writB x = true then (0 : Int) else 141) = e at *
  (repeat first | refine goN ?_ | ((try conv => whnf); first | (refine Ar_gate ?_; first | (fail_if_success skip) | refine xA ?_) | (first | refine Do_str_eq ?_ | refine Do_str_ne ?_ | refine DoN_len tok rfl ?_ | refine Eqv_in ?_)) | ((try conv => whnf); (first | (refine St_gate ?_; refine xS ?_) | (refine StN_gate ?_; refine xN ?_)); clear H; intro w H))
  (refine Nw_sep H ?_; clear H; intro kb w H; (try simp only [Value.cells, List.toList_toArray, List.append_nil, List.cons_append, List.nil_append] at H))
  (repeat first | refine goN ?_ | ((try conv => whnf); first | (refine Ar_gate ?_; first | (fail_if_success skip) | refine xA ?_) | (first | refine Do_str_eq ?_ | refine Do_str_ne ?_ | refine DoN_len tok rfl ?_ | refine Eqv_in ?_)) | ((try conv => whnf); (first | (refine St_gate ?_; refine xS ?_) | (refine StN_gate ?_; refine xN ?_)); clear H; intro w H))
  (refine Nw_sep H ?_; clear H; intro tb w H; (try simp only [Value.cells, List.toList_toArray, List.append_nil, List.cons_append, List.nil_append] at H))
  (repeat first | refine goN ?_ | ((try conv => whnf); first | (refine Ar_gate ?_; first | (fail_if_success skip) | refine xA ?_) | (first | refine Do_str_eq ?_ | refine Do_str_ne ?_ | refine DoN_len tok rfl ?_ | refine Eqv_in ?_)) | ((try conv => whnf); (first | (refine St_gate ?_; refine xS ?_) | (refine StN_gate ?_; refine xN ?_)); clear H; intro w H))
  have hT : ∀ {w' : World} {l' : List Res}, Sep w0 w' (l' ++ (cellsR kb 24 (exV x) :: cellsR yb 24 (exV (Go.Tree.moved x i j)) :: cellsR xb 24 (exV x) :: l)) → TOk w' (Go.Tree.turned x ⟨kb, 0, none⟩) := fun {w'} {l'} h =>
    TOk.turned (hs (l' := l' ++ [_, _, _]) (by simpa using h)) (h.srcCM 1 6 (cs := exV x) (List.mem_append_right _ (.head _)) rfl (by decide))
  replace H : Sep w0 w (cellsR tb 24 [.int .i64 6, .int .i64 0, .string ⟨#[]⟩, .slice (some ⟨kb, 0, none⟩) 1 1, .int .i64 0, .int .i64 0] :: cellsR kb 24 (exV x) :: cellsR yb 24 (exV (Go.Tree.moved x i j)) :: cellsR xb 24 (exV x) :: l) := H
  have htb : bulk (Go.Tree.turned x ⟨kb, 0, none⟩) ≤ 2000000 := by rw [turned_bulk]; omega
  refine Call_of (tExpr (Go.Tree.turned x ⟨kb, 0, none⟩) H hp (fun {w'} {l'} h => hT (l' := l' ++ [_]) (by simpa using h)) htb) ?_
  clear H
  rintro _ w ⟨rfl, H⟩
  have hux : ∀ q, txt (Go.Tree.turned x q) = str [33] ++ inn x (txt x) := fun q => turned_text
  rw [hux]
  have hwt : writB (Go.Tree.turned x ⟨kb, 0, none⟩) = true → writB x = true := turned_writ
  generalize hu : (if writB (Go.Tree.turned x ⟨kb, 0, none⟩) = true then str [33] ++ inn x (txt x) else str []) = u at *
  generalize hg : (if writB (Go.Tree.turned x ⟨kb, 0, none⟩) = true then (0 : Int) else 141) = g at *
  have hsz := size_bulk x
  have hkl := kids_bulk x
  have hts := txt_size x
  (repeat first | refine goN ?_ | ((try conv => whnf); first | (refine Ar_gate ?_; first | (fail_if_success skip) | refine xA ?_) | (first | refine Do_str_eq ?_ | refine Do_str_ne ?_ | refine DoN_len tok rfl ?_ | refine Eqv_in ?_)) | ((try conv => whnf); (first | (refine St_gate ?_; refine xS ?_) | (refine StN_gate ?_; refine xN ?_)); clear H; intro w H))
  refine Draw_intro mixed [0, 1, 2, 3, 4, 5, 6, 7, 8, 9, 10, 11, 12, 13, 14, 15, 16, 17, 18, 19, 20, 22, 21, 23, 24, 25, 26] (by decide +kernel) (fun w _ fd => ?_); replace H := H.fr fd; clear fd
  (repeat first | refine goN ?_ | ((try conv => whnf); first | (refine Ar_gate ?_; first | (fail_if_success skip) | refine xA ?_) | (first | refine Do_str_eq ?_ | refine Do_str_ne ?_ | refine DoN_len tok rfl ?_ | refine Eqv_in ?_)) | ((try conv => whnf); (first | (refine St_gate ?_; refine xS ?_) | (refine StN_gate ?_; refine xN ?_)); clear H; intro w H))
  refine Call_of (tSame x (Go.Tree.moved x i j) H (fun {w'} {l'} h => hs (l' := l' ++ [_, _, _, _]) (by simpa using h)) (fun {w'} {l'} h => (hs (l' := l' ++ [_, _, _, _]) (by simpa using h)).moved) (by omega) (by rw [moved_bulk]; omega)) ?_
  clear H
  rintro _ w ⟨rfl, H⟩
  rw [moved_same]
  (repeat first | refine goN ?_ | ((try conv => whnf); first | (refine Ar_gate ?_; first | (fail_if_success skip) | refine xA ?_) | (first | refine Do_str_eq ?_ | refine Do_str_ne ?_ | refine DoN_len tok rfl ?_ | refine Eqv_in ?_)) | ((try conv => whnf); (first | (refine St_gate ?_; refine xS ?_) | (refine StN_gate ?_; refine xN ?_)); clear H; intro w H))
  refine DoS_sne (fun J1 hJ1 => ?_)
  rw [decide_eq_true rfl]
  (repeat first | refine goN ?_ | ((try conv => whnf); first | (refine Ar_gate ?_; first | (fail_if_success skip) | refine xA ?_) | (first | refine Do_str_eq ?_ | refine Do_str_ne ?_ | refine DoN_len tok rfl ?_ | refine Eqv_in ?_)) | ((try conv => whnf); (first | (refine St_gate ?_; refine xS ?_) | (refine StN_gate ?_; refine xN ?_)); clear H; intro w H))
  (repeat first | refine goN ?_ | ((try conv => whnf); first | (refine Ar_gate ?_; first | (fail_if_success skip) | refine xA ?_) | (first | refine Do_str_eq ?_ | refine Do_str_ne ?_ | refine DoN_len tok rfl ?_ | refine Eqv_in ?_)) | ((try conv => whnf); (first | (refine St_gate ?_; refine xS ?_) | (refine StN_gate ?_; refine xN ?_)); clear H; intro w H))
  refine Call_of (tSame x (Go.Tree.turned x ⟨kb, 0, none⟩) H (fun {w'} {l'} h => hs (l' := l' ++ [_, _, _, _]) (by simpa using h)) (fun {w'} {l'} h => hT (l' := l' ++ [_]) (by simpa using h)) (by omega) (by omega)) ?_
  clear H
  rintro _ w ⟨rfl, H⟩
  rw [turned_same]
  (repeat first | refine goN ?_ | ((try conv => whnf); first | (refine Ar_gate ?_; first | (fail_if_success skip) | refine xA ?_) | (first | refine Do_str_eq ?_ | refine Do_str_ne ?_ | refine DoN_len tok rfl ?_ | refine Eqv_in ?_)) | ((try conv => whnf); (first | (refine St_gate ?_; refine xS ?_) | (refine StN_gate ?_; refine xN ?_)); clear H; intro w H))
  (repeat (refine Kept_gate ?_; refine ⟨hJ1 _, ?_⟩; (repeat first | refine goN ?_ | ((try conv => whnf); first | (refine Ar_gate ?_; first | (fail_if_success skip) | refine xA ?_) | (first | refine Do_str_eq ?_ | refine Do_str_ne ?_ | refine DoN_len tok rfl ?_ | refine Eqv_in ?_)) | ((try conv => whnf); (first | (refine St_gate ?_; refine xS ?_) | (refine StN_gate ?_; refine xN ?_)); clear H; intro w H))))
  refine Call_of (tSize (Go.Tree.turned x ⟨kb, 0, none⟩) H (fun {w'} {l'} h => hT (l' := l' ++ [_]) (by simpa using h)) (by omega)) ?_
  clear H
  rintro _ w ⟨rfl, H⟩
  rw [turned_size]
  (repeat first | refine goN ?_ | ((try conv => whnf); first | (refine Ar_gate ?_; first | (fail_if_success skip) | refine xA ?_) | (first | refine Do_str_eq ?_ | refine Do_str_ne ?_ | refine DoN_len tok rfl ?_ | refine Eqv_in ?_)) | ((try conv => whnf); (first | (refine St_gate ?_; refine xS ?_) | (refine StN_gate ?_; refine xN ?_)); clear H; intro w H))
  (repeat (refine Kept_gate ?_; refine ⟨hJ1 _, ?_⟩; (repeat first | refine goN ?_ | ((try conv => whnf); first | (refine Ar_gate ?_; first | (fail_if_success skip) | refine xA ?_) | (first | refine Do_str_eq ?_ | refine Do_str_ne ?_ | refine DoN_len tok rfl ?_ | refine Eqv_in ?_)) | ((try conv => whnf); (first | (refine St_gate ?_; refine xS ?_) | (refine StN_gate ?_; refine xN ?_)); clear H; intro w H))))
  refine Call_of (tSize x H (fun {w'} {l'} h => hs (l' := l' ++ [_, _, _, _]) (by simpa using h)) (by omega)) ?_
  clear H
  rintro _ w ⟨rfl, H⟩
  (repeat first | refine goN ?_ | ((try conv => whnf); first | (refine Ar_gate ?_; first | (fail_if_success skip) | refine xA ?_) | (first | refine Do_str_eq ?_ | refine Do_str_ne ?_ | refine DoN_len tok rfl ?_ | refine Eqv_in ?_)) | ((try conv => whnf); (first | (refine St_gate ?_; refine xS ?_) | (refine StN_gate ?_; refine xN ?_)); clear H; intro w H))
  (repeat (refine Kept_gate ?_; refine ⟨hJ1 _, ?_⟩; (repeat first | refine goN ?_ | ((try conv => whnf); first | (refine Ar_gate ?_; first | (fail_if_success skip) | refine xA ?_) | (first | refine Do_str_eq ?_ | refine Do_str_ne ?_ | refine DoN_len tok rfl ?_ | refine Eqv_in ?_)) | ((try conv => whnf); (first | (refine St_gate ?_; refine xS ?_) | (refine StN_gate ?_; refine xN ?_)); clear H; intro w H))))
  cases hw : writB x with
  | false =>
    have hwt' : writB (Go.Tree.turned x ⟨kb, 0, none⟩) = false := by
      rw [Bool.eq_false_iff]
      intro h
      rw [hwt h] at hw; cases hw
    rw [hw] at hse hee
    rw [hwt'] at hu hg
    simp only [Bool.false_eq_true, if_false] at hse hee hu hg
    subst hse hee hu hg
    (repeat first | refine goN ?_ | ((try conv => whnf); first | (refine Ar_gate ?_; first | (fail_if_success skip) | refine xA ?_) | (first | refine Do_str_eq ?_ | refine Do_str_ne ?_ | refine DoN_len tok rfl ?_ | refine Eqv_in ?_)) | ((try conv => whnf); (first | (refine St_gate ?_; refine xS ?_) | (refine StN_gate ?_; refine xN ?_)); clear H; intro w H))
    exact Ret_in ⟨rfl, H.tail.tail.tail.tail⟩
  | true =>
    rw [hw] at hse hee
    simp only [if_true] at hse hee
    subst hse hee
    (repeat first | refine goN ?_ | ((try conv => whnf); first | (refine Ar_gate ?_; first | (fail_if_success skip) | refine xA ?_) | (first | refine Do_str_eq ?_ | refine Do_str_ne ?_ | refine DoN_len tok rfl ?_ | refine Eqv_in ?_)) | ((try conv => whnf); (first | (refine St_gate ?_; refine xS ?_) | (refine StN_gate ?_; refine xN ?_)); clear H; intro w H))
    cases hwt' : writB (Go.Tree.turned x ⟨kb, 0, none⟩) with
    | false =>
      rw [hwt'] at hu hg
      simp only [Bool.false_eq_true, if_false] at hu hg
      subst hu hg
      (repeat first | refine goN ?_ | ((try conv => whnf); first | (refine Ar_gate ?_; first | (fail_if_success skip) | refine xA ?_) | (first | refine Do_str_eq ?_ | refine Do_str_ne ?_ | refine DoN_len tok rfl ?_ | refine Eqv_in ?_)) | ((try conv => whnf); (first | (refine St_gate ?_; refine xS ?_) | (refine StN_gate ?_; refine xN ?_)); clear H; intro w H))
      exact Ret_in ⟨rfl, H.tail.tail.tail.tail⟩
    | true =>
      rw [hwt'] at hu hg
      simp only [if_true] at hu hg
      subst hu hg
      (repeat first | refine goN ?_ | ((try conv => whnf); first | (refine Ar_gate ?_; first | (fail_if_success skip) | refine xA ?_) | (first | refine Do_str_eq ?_ | refine Do_str_ne ?_ | refine DoN_len tok rfl ?_ | refine Eqv_in ?_)) | ((try conv => whnf); (first | (refine St_gate ?_; refine xS ?_) | (refine StN_gate ?_; refine xN ?_)); clear H; intro w H))
      refine Do_sadd ?_ (by show 2 + _ ≤ _; omega)
      (repeat first | refine goN ?_ | ((try conv => whnf); first | (refine Ar_gate ?_; first | (fail_if_success skip) | refine xA ?_) | (first | refine Do_str_eq ?_ | refine Do_str_ne ?_ | refine DoN_len tok rfl ?_ | refine Eqv_in ?_)) | ((try conv => whnf); (first | (refine St_gate ?_; refine xS ?_) | (refine StN_gate ?_; refine xN ?_)); clear H; intro w H))
      refine Do_sadd ?_ (by rw [ByteArray.size_append]; show 2 + _ + 1 ≤ _; omega)
      (repeat first | refine goN ?_ | ((try conv => whnf); first | (refine Ar_gate ?_; first | (fail_if_success skip) | refine xA ?_) | (first | refine Do_str_eq ?_ | refine Do_str_ne ?_ | refine DoN_len tok rfl ?_ | refine Eqv_in ?_)) | ((try conv => whnf); (first | (refine St_gate ?_; refine xS ?_) | (refine StN_gate ?_; refine xN ?_)); clear H; intro w H))
      by_cases hk : x.kids.length = 0
      · have hin : inn x (txt x) = txt x := by unfold inn; rw [if_pos hk]
        rw [hin]
        refine Br_dec (fun h1 => ?_) (fun h1 => ?_)
        · (repeat first | refine goN ?_ | ((try conv => whnf); first | (refine Ar_gate ?_; first | (fail_if_success skip) | refine xA ?_) | (first | refine Do_str_eq ?_ | refine Do_str_ne ?_ | refine DoN_len tok rfl ?_ | refine Eqv_in ?_)) | ((try conv => whnf); (first | (refine St_gate ?_; refine xS ?_) | (refine StN_gate ?_; refine xN ?_)); clear H; intro w H))
          exact Ret_in ⟨rfl, H.tail.tail.tail.tail⟩
        · (repeat first | refine goN ?_ | ((try conv => whnf); first | (refine Ar_gate ?_; first | (fail_if_success skip) | refine xA ?_) | (first | refine Do_str_eq ?_ | refine Do_str_ne ?_ | refine DoN_len tok rfl ?_ | refine Eqv_in ?_)) | ((try conv => whnf); (first | (refine St_gate ?_; refine xS ?_) | (refine StN_gate ?_; refine xN ?_)); clear H; intro w H))
          refine Do_sadd ?_ (by show 1 + _ ≤ _; omega)
          (repeat first | refine goN ?_ | ((try conv => whnf); first | (refine Ar_gate ?_; first | (fail_if_success skip) | refine xA ?_) | (first | refine Do_str_eq ?_ | refine Do_str_ne ?_ | refine DoN_len tok rfl ?_ | refine Eqv_in ?_)) | ((try conv => whnf); (first | (refine St_gate ?_; refine xS ?_) | (refine StN_gate ?_; refine xN ?_)); clear H; intro w H))
          refine Ret_in ⟨congrArg Value.bool (decide_eq_true rfl), H.tail.tail.tail.tail⟩
      · have hin : str [33] ++ inn x (txt x) = (⟨#[33, 40]⟩ : ByteArray) ++ txt x ++ (⟨#[41]⟩ : ByteArray) := by
          unfold inn
          rw [if_neg hk, ← ByteArray.append_assoc, ← ByteArray.append_assoc]
          rfl
        rw [hin]
        refine Br_dec_yes rfl ?_
        (repeat first | refine goN ?_ | ((try conv => whnf); first | (refine Ar_gate ?_; first | (fail_if_success skip) | refine xA ?_) | (first | refine Do_str_eq ?_ | refine Do_str_ne ?_ | refine DoN_len tok rfl ?_ | refine Eqv_in ?_)) | ((try conv => whnf); (first | (refine St_gate ?_; refine xS ?_) | (refine StN_gate ?_; refine xN ?_)); clear H; intro w H))
        exact Ret_in ⟨rfl, H.tail.tail.tail.tail⟩
end
end Go.Proofs.YthpekiohalejmaaDoor
