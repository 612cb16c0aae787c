/- The laws' helpers on trees: the example; places. -/
import Derived.Test.YthpekiohalejmaaGreatDoorTreeZ
set_option linter.unusedVariables false
set_option linter.unusedSimpArgs false
namespace Go.Tree
/-- With other places. -/
def moved (x : Ex) (i j : Int) : Ex := .mk x.op x.num x.name x.at_ x.cap i j x.kids
def turned (x : Ex) (b : Addr) : Ex := .mk 6 0 ⟨#[]⟩ (some b) 1 0 0 [x]
section
variable {x : Ex} {i j : Int} {b : Addr} {itoa : Int → ByteArray}
theorem moved_same : sameB x (moved x i j) = true := by
  rw [same_eq]
  show (decide (x.op = x.op) && decide (x.num = x.num) && decide (x.name = x.name) && allZ (x.kids.map sameB) x.kids) = true
  rw [allZ_refl fun k _ => same_refl k]
  simp
theorem moved_text : textB itoa (moved x i j) = textB itoa x := by
  rw [text_eq, text_eq itoa x]; rfl
theorem moved_right (d : Int) : rightB (moved x i j) d = rightB x d := by
  rw [right_eq, right_eq x]; rfl
theorem moved_var : varB (moved x i j) = varB x := by
  rw [var_eq, var_eq x]; rfl
theorem moved_writ : writB (moved x i j) = writB x := by
  unfold writB; rw [moved_right, moved_var]
theorem moved_bulk : bulk (moved x i j) = bulk x := by
  rw [bulk_eq, bulk_eq x]; rfl
theorem turned_size : size (turned x b) = size x + 1 := by
  rw [size_eq]
  show 1 + (size x + 0) = _
  omega
theorem turned_bulk : bulk (turned x b) = bulk x + 7 := by
  rw [bulk_eq]
  show 7 + 0 + (bulk x + 0) = _
  omega
theorem turned_same : sameB x (turned x b) = false := by
  rw [Bool.eq_false_iff]
  intro h
  have := same_size _ _ h
  rw [turned_size] at this
  omega
theorem turned_right (d : Int) (hd : 1 ≤ d) : rightB (turned x b) d = rightB x (d - 1) := by
  rw [right_eq, decide_eq_true hd]
  show (true && oneB (turned x b) && (rightB x (d - 1) && true)) = _
  rw [show oneB (turned x b) = true from rfl]
  simp
theorem turned_writ (h : writB (turned x b) = true) : writB x = true := by
  unfold writB at h ⊢
  rw [Bool.and_eq_true, turned_right 60 (by decide), var_eq] at h
  have h1 := (right_iff x _).1 h.1
  rw [(right_iff x 60).2 ⟨h1.1, by omega⟩]
  have h2 : (!(false || (varB x || false))) = true := h.2
  simpa using h2
theorem turned_text : textB itoa (turned x b) = str [33] ++ inn x (textB itoa x) := by
  rw [text_eq]
  rfl
end
end Go.Tree
namespace Go.Proofs.YthpekiohalejmaaGreatDoor
open Go Go.Vc Go.Tree
set_option maxHeartbeats 4000000
set_option maxRecDepth 100000
def exN : Ex := .mk 3 0 ⟨#[120]⟩ none 0 0 0 []
def exT : Ex := .mk 1 2 ⟨#[]⟩ none 0 0 0 []
def exM (a : Addr) : Ex := .mk 5 0 ⟨#[]⟩ (some a) 1 0 0 [exT]
def exX (a b : Addr) : Ex := .mk 15 0 ⟨#[]⟩ (some b) 2 0 0 [exN, exM a]
theorem ex_itoa : itoaC 2 = str [50] := by decide +kernel
theorem ex_txt (a b : Addr) : txt (exX a b) = str [120, 32, 43, 32, 40, 45, 50, 41] := by
  have h1 : textB itoaC exT = str [50] := by rw [text_eq]; exact ex_itoa
  have h2 : textB itoaC exN = str [120] := by rw [text_eq]; rfl
  have h3 : textB itoaC (exM a) = str [45, 50] := by
    rw [text_eq]
    show (if (7 : Int) ≤ 5 then signB 5 ++ str [32] else signB 5) ++ inn exT (textB itoaC exT) = _
    rw [h1]
    decide +kernel
  show textB itoaC (exX a b) = _
  rw [text_eq]
  show inn exN (textB itoaC exN) ++ str [32] ++ signB 15 ++ str [32] ++ inn (exM a) (textB itoaC (exM a)) = _
  rw [h2, h3]
  show str [120] ++ str [32] ++ signB 15 ++ str [32] ++ (str [40] ++ str [45, 50] ++ str [41]) = _
  decide +kernel
theorem ex_size (a b : Addr) : size (exX a b) = 4 := by
  have h1 : size exT = 1 := by rw [size_eq]; rfl
  have h2 : size exN = 1 := by rw [size_eq]; rfl
  have h3 : size (exM a) = 2 := by rw [size_eq]; show 1 + (size exT + 0) = 2; rw [h1]
  rw [size_eq]
  show 1 + (size exN + (size (exM a) + 0)) = 4
  rw [h2, h3]
theorem ex_right (a b : Addr) : rightB (exX a b) 60 = true := by
  have h1 : ∀ d : Int, 1 ≤ d → rightB exT d = true := fun d hd => by rw [right_eq, decide_eq_true hd]; exact (by decide +kernel : (true && oneB exT && true) = true)
  have h2 : ∀ d : Int, 1 ≤ d → rightB exN d = true := fun d hd => by rw [right_eq, decide_eq_true hd]; exact (by decide +kernel : (true && oneB exN && true) = true)
  have h3 : rightB (exM a) 59 = true := by
    rw [right_eq]
    show (true && oneB (exM a) && (rightB exT 58 && true)) = true
    rw [h1 58 (by decide)]
    rfl
  rw [right_eq]
  show (true && oneB (exX a b) && (rightB exN 59 && (rightB (exM a) 59 && true))) = true
  rw [h2 59 (by decide), h3]
  rfl
theorem ex_var (a b : Addr) : varB (exX a b) = false := by
  have h1 : varB exT = false := by rw [var_eq]; rfl
  have h2 : varB exN = false := by rw [var_eq]; rfl
  have h3 : varB (exM a) = false := by rw [var_eq]; show (false || (varB exT || false)) = false; rw [h1]; rfl
  rw [var_eq]
  show (false || (varB exN || (varB (exM a) || false))) = false
  rw [h2, h3]; rfl
theorem ex_bulk (a b : Addr) : bulk (exX a b) ≤ 2000000 := by
  have h1 : bulk exT = 7 := by rw [bulk_eq]; rfl
  have h2 : bulk exN = 8 := by rw [bulk_eq]; rfl
  have h3 : bulk (exM a) = 14 := by rw [bulk_eq]; show 7 + 0 + (bulk exT + 0) = 14; rw [h1]
  rw [bulk_eq]
  show 7 + 0 + (bulk exN + (bulk (exM a) + 0)) ≤ _
  rw [h2, h3]; decide
theorem TOk.leaf {w : World} {o n : Int} {s : ByteArray} {c : Nat} {i j : Int} : TOk w (.mk o n s none c i j []) := TOk_iff.2 ⟨⟨rfl, fun j u h => by cases h⟩, fun k hk => by cases hk⟩
section
variable {w0 w : World} {l : List Res}
theorem tAlive (H : Sep w0 w l) (hp : Pow w0) : Does Tryz.prog 4 #[] w fun v w' => v = .bool true ∧ Sep w0 w' l := by
  refine Does_intro tok (args := []) (Tryz.call4 _ _) Tryz.func4 rfl (by rfl) ?_
  (repeat first | refine goN ?_ | ((try conv => whnf); first | (refine Ar_gate ?_; first | (fail_if_success skip) | refine xA ?_) | (first | refine Do_str_eq ?_ | refine Do_str_ne ?_ | refine DoN_len tok rfl ?_ | refine Eqv_in ?_)) | ((try conv => whnf); (first | (refine St_gate ?_; refine xS ?_) | (refine StN_gate ?_; refine xN ?_)); clear H; intro w H))
  (refine Nw_sep H ?_; clear H; intro b1 w H; (try simp only [Value.cells, List.toList_toArray, List.append_nil, List.cons_append, List.nil_append] at H))
  (repeat first | refine goN ?_ | ((try conv => whnf); first | (refine Ar_gate ?_; first | (fail_if_success skip) | refine xA ?_) | (first | refine Do_str_eq ?_ | refine Do_str_ne ?_ | refine DoN_len tok rfl ?_ | refine Eqv_in ?_)) | ((try conv => whnf); (first | (refine St_gate ?_; refine xS ?_) | (refine StN_gate ?_; refine xN ?_)); clear H; intro w H))
  (refine Nw_sep H ?_; clear H; intro b2 w H; (try simp only [Value.cells, List.toList_toArray, List.append_nil, List.cons_append, List.nil_append] at H))
  (repeat first | refine goN ?_ | ((try conv => whnf); first | (refine Ar_gate ?_; first | (fail_if_success skip) | refine xA ?_) | (first | refine Do_str_eq ?_ | refine Do_str_ne ?_ | refine DoN_len tok rfl ?_ | refine Eqv_in ?_)) | ((try conv => whnf); (first | (refine St_gate ?_; refine xS ?_) | (refine StN_gate ?_; refine xN ?_)); clear H; intro w H))
  (refine Nw_sep H ?_; clear H; intro b3 w H; (try simp only [Value.cells, List.toList_toArray, List.append_nil, List.cons_append, List.nil_append] at H))
  (repeat first | refine goN ?_ | ((try conv => whnf); first | (refine Ar_gate ?_; first | (fail_if_success skip) | refine xA ?_) | (first | refine Do_str_eq ?_ | refine Do_str_ne ?_ | refine DoN_len tok rfl ?_ | refine Eqv_in ?_)) | ((try conv => whnf); (first | (refine St_gate ?_; refine xS ?_) | (refine StN_gate ?_; refine xN ?_)); clear H; intro w H))
  have hF : ∀ {w' : World} {l' : List Res}, Sep w0 w' (l' ++ (cellsR b2 36 (exV exN ++ exV (exM ⟨b1, 0, none⟩)) :: cellsR b1 36 (exV exT) :: l)) → TOk w' (exX ⟨b1, 0, none⟩ ⟨b2, 0, none⟩) := fun {w'} {l'} h => by
    refine TOk_iff.2 ⟨?_, fun k hk => ?_⟩
    · exact h.srcCM 2 6 (cs := exV exN ++ exV (exM ⟨b1, 0, none⟩)) (List.mem_append_right _ (.head _)) rfl (by decide)
    · simp only [exX, Ex.kids, List.mem_cons, List.not_mem_nil, or_false] at hk
      rcases hk with rfl | rfl
      · exact TOk.leaf
      · refine TOk_iff.2 ⟨?_, fun k hk => ?_⟩
        · exact h.srcCM 1 6 (cs := exV exT) (List.mem_append_right _ (.tail _ (.head _))) rfl (by decide)
        · simp only [exM, Ex.kids, List.mem_cons, List.not_mem_nil, or_false] at hk
          subst hk
          exact TOk.leaf
  have hw : writB (exX ⟨b1, 0, none⟩ ⟨b2, 0, none⟩) = true := by unfold writB; rw [ex_right, ex_var]; rfl
  replace H : Sep w0 w (cellsR b3 36 [.int .i64 15, .int .i64 0, .string ⟨#[]⟩, .slice (some ⟨b2, 0, none⟩) 2 2, .int .i64 0, .int .i64 0] :: cellsR b2 36 (exV exN ++ exV (exM ⟨b1, 0, none⟩)) :: cellsR b1 36 (exV exT) :: l) := H
  refine Call_of (tExpr (exX ⟨b1, 0, none⟩ ⟨b2, 0, none⟩) H hp (fun {w'} {l'} h => hF (l' := l' ++ [_]) (by simpa using h)) (ex_bulk _ _)) ?_
  clear H
  rintro v1 w ⟨hv, H⟩
  rw [hw, ex_txt] at hv
  obtain rfl : v1 = .tuple #[.string (str [120, 32, 43, 32, 40, 45, 50, 41]), .int .i64 0] := hv
  (repeat first | refine goN ?_ | ((try conv => whnf); first | (refine Ar_gate ?_; first | (fail_if_success skip) | refine xA ?_) | (first | refine Do_str_eq ?_ | refine Do_str_ne ?_ | refine DoN_len tok rfl ?_ | refine Eqv_in ?_)) | ((try conv => whnf); (first | (refine St_gate ?_; refine xS ?_) | (refine StN_gate ?_; refine xN ?_)); clear H; intro w H))
  refine Br_dec_yes rfl ?_
  (repeat first | refine goN ?_ | ((try conv => whnf); first | (refine Ar_gate ?_; first | (fail_if_success skip) | refine xA ?_) | (first | refine Do_str_eq ?_ | refine Do_str_ne ?_ | refine DoN_len tok rfl ?_ | refine Eqv_in ?_)) | ((try conv => whnf); (first | (refine St_gate ?_; refine xS ?_) | (refine StN_gate ?_; refine xN ?_)); clear H; intro w H))
  refine Call_of (tRightP (exX ⟨b1, 0, none⟩ ⟨b2, 0, none⟩) H (fun {w'} {l'} h => hF (l' := l' ++ [_]) (by simpa using h)) (ex_bulk _ _)) ?_
  clear H
  rintro _ w ⟨rfl, H⟩
  rw [ex_right]
  (repeat first | refine goN ?_ | ((try conv => whnf); first | (refine Ar_gate ?_; first | (fail_if_success skip) | refine xA ?_) | (first | refine Do_str_eq ?_ | refine Do_str_ne ?_ | refine DoN_len tok rfl ?_ | refine Eqv_in ?_)) | ((try conv => whnf); (first | (refine St_gate ?_; refine xS ?_) | (refine StN_gate ?_; refine xN ?_)); clear H; intro w H))
  refine Call_of (tSize (exX ⟨b1, 0, none⟩ ⟨b2, 0, none⟩) H (fun {w'} {l'} h => hF (l' := l' ++ [_]) (by simpa using h)) (Nat.le_trans (ex_bulk _ _) (by decide))) ?_
  clear H
  rintro _ w ⟨rfl, H⟩
  rw [ex_size]
  (repeat first | refine goN ?_ | ((try conv => whnf); first | (refine Ar_gate ?_; first | (fail_if_success skip) | refine xA ?_) | (first | refine Do_str_eq ?_ | refine Do_str_ne ?_ | refine DoN_len tok rfl ?_ | refine Eqv_in ?_)) | ((try conv => whnf); (first | (refine St_gate ?_; refine xS ?_) | (refine StN_gate ?_; refine xN ?_)); clear H; intro w H))
  refine Call_of (tSign 30 H) ?_
  clear H
  rintro _ w ⟨rfl, H⟩
  (repeat first | refine goN ?_ | ((try conv => whnf); first | (refine Ar_gate ?_; first | (fail_if_success skip) | refine xA ?_) | (first | refine Do_str_eq ?_ | refine Do_str_ne ?_ | refine DoN_len tok rfl ?_ | refine Eqv_in ?_)) | ((try conv => whnf); (first | (refine St_gate ?_; refine xS ?_) | (refine StN_gate ?_; refine xN ?_)); clear H; intro w H))
  exact Ret_in ⟨congrArg Value.bool (by decide +kernel : decide (signB 30 = ⟨#[60, 45, 62]⟩) = true), H.tail.tail.tail⟩
end
end Go.Proofs.YthpekiohalejmaaGreatDoor
