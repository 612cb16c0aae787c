/- The document's answer: whether an expression can be, and how it is written. -/
import Derived.Test.YthpekiohalejmaaGreatDoorTreeU
import Derived.Test.YthpekiohalejmaaGreatDoorTreeT
set_option linter.unusedVariables false
set_option linter.unusedSimpArgs false
namespace Go.Proofs.YthpekiohalejmaaGreatDoor
open Go Go.Vc Go.Tree
set_option maxHeartbeats 4000000
set_option maxRecDepth 100000
section
variable {w0 w : World} {l : List Res}
theorem leaf_name {op num : Int} {s : ByteArray} (h : op ≠ 3) (hs : ¬ s = (⟨#[]⟩ : ByteArray)) : leafB op num s = false := by
  have he : emptyB s = false := decide_eq_false hs
  simp [leafB, he, h]
theorem dShape (x : Ex) : ∀ {w : World} {l : List Res} (H : Sep w0 w l) (hs : TOk w0 x) (hb : bulk x ≤ 2000000),
    Does Tryz.prog 103 #[exA x] w fun v w' => v = .bool (shapeB x) ∧ Sep w0 w' l := by
  induction x using Ex.ind with
  | h x ih =>
    intro w l H hs hb
    refine Does_intro tok (Tryz.call103 _ _) Tryz.func103 rfl (by rfl) ?_
    have hkl := kids_bulk x
    have hnl : x.name.size ≤ bulk x := by rw [bulk_eq]; omega
    have hok := TOk_iff.1 hs
    rw [shape_eq]
    unfold oneB
    (repeat first | refine goN ?_ | ((try conv => whnf); first | (refine Ar_gate ?_; first | (fail_if_success skip) | refine xA ?_) | (first | refine Do_str_eq ?_ | refine Do_str_ne ?_ | refine DoN_len tok rfl ?_ | refine Eqv_in ?_)) | ((try conv => whnf); (first | (refine St_gate ?_; refine xS ?_) | (refine StN_gate ?_; refine xN ?_)); clear H; intro w H))
    (refine Nw_sep H ?_; clear H; intro xb w H; (try simp only [Value.cells, List.toList_toArray, List.append_nil, List.cons_append, List.nil_append] at H))
    (repeat first | refine goN ?_ | ((try conv => whnf); first | (refine Ar_gate ?_; first | (fail_if_success skip) | refine xA ?_) | (first | refine Do_str_eq ?_ | refine Do_str_ne ?_ | refine DoN_len tok rfl ?_ | refine Eqv_in ?_)) | ((try conv => whnf); (first | (refine St_gate ?_; refine xS ?_) | (refine StN_gate ?_; refine xN ?_)); clear H; intro w H))
    refine Draw_intro mixed [0, 1, 3, 4, 5, 2, 6] (by decide +kernel) (fun w _ fd => ?_); replace H := H.fr fd; clear fd
    (repeat first | refine goN ?_ | ((try conv => whnf); first | (refine Ar_gate ?_; first | (fail_if_success skip) | refine xA ?_) | (first | refine Do_str_eq ?_ | refine Do_str_ne ?_ | refine DoN_len tok rfl ?_ | refine Eqv_in ?_)) | ((try conv => whnf); (first | (refine St_gate ?_; refine xS ?_) | (refine StN_gate ?_; refine xN ?_)); clear H; intro w H))
    refine Call_of (dKids x.op) ?_
    rintro _ _ ⟨rfl, rfl⟩
    by_cases hkz : kidsZ x.op = (x.kids.length : Int)
    case neg =>
      have hno : (decide (1 ≤ x.op ∧ x.op < 31) && decide (x.kids.length = nk x.op)) = false := by
        rw [Bool.eq_false_iff]
        intro h
        simp only [Bool.and_eq_true, decide_eq_true_eq] at h
        exact hkz ((kids_iff _ _).2 h)
      rw [hno]
      (repeat first | refine goN ?_ | ((try conv => whnf); first | (refine Ar_gate ?_; first | (fail_if_success skip) | refine xA ?_) | (first | refine Do_str_eq ?_ | refine Do_str_ne ?_ | refine DoN_len tok rfl ?_ | refine Eqv_in ?_)) | ((try conv => whnf); (first | (refine St_gate ?_; refine xS ?_) | (refine StN_gate ?_; refine xN ?_)); clear H; intro w H))
      exact Ret_in ⟨rfl, H.tail⟩
    obtain ⟨g1, g2⟩ := (kids_iff _ _).1 hkz
    rw [decide_eq_true g1, decide_eq_true g2]
    (repeat first | refine goN ?_ | ((try conv => whnf); first | (refine Ar_gate ?_; first | (fail_if_success skip) | refine xA ?_) | (first | refine Do_str_eq ?_ | refine Do_str_ne ?_ | refine DoN_len tok rfl ?_ | refine Eqv_in ?_)) | ((try conv => whnf); (first | (refine St_gate ?_; refine xS ?_) | (refine StN_gate ?_; refine xN ?_)); clear H; intro w H))
    refine Loop_intro (fun i : Nat => [(15, .int .i64 (i : Int))]) (fun i w => (i ≤ x.kids.length ∧ (x.kids.take i).all shapeB = true) ∧ Sep w0 w (cellsR xb 36 (exV x) :: l)) (fun i => x.kids.length - i)
      0 ⟨rfl, trivial⟩ ⟨⟨Nat.zero_le _, rfl⟩, H⟩ ?_
    clear H
    rintro i w ⟨⟨hi, hall⟩, H⟩
    refine Br_dec (fun k1 => ?_) (fun k1 => ?_)
    · have hlt : i < x.kids.length := by omega
      have hsrc := H.rd hok.1
      obtain ⟨b, o, ho⟩ := hsrc.addr (by rw [rowLen exV_len]; omega)
      have hx : x.kids[i]? = some x.kids[i] := List.getElem?_eq_getElem hlt
      have htk : x.kids.take (i + 1) = x.kids.take i ++ [x.kids[i]] := by rw [List.take_add_one, hx]; rfl
      have hmem := List.getElem_mem hlt
      have hrow := rowPart (f := exV) (sz := 6) exV_len hx
      generalize x.kids[i] = k at *
      rw [ho] at hsrc ⊢
      refine Ix_in i rfl hlt ?_
      refine LdN_src hsrc (vs := [.int .i64 k.op, .int .i64 k.num, .string k.name, .slice k.at_ k.kids.length k.cap, .int .i64 k.line, .int .i64 k.col]) hrow rfl ?_
      clear hsrc
      (repeat first | refine goN ?_ | ((try conv => whnf); first | (refine Ar_gate ?_; first | (fail_if_success skip) | refine xA ?_) | (first | refine Do_str_eq ?_ | refine Do_str_ne ?_ | refine DoN_len tok rfl ?_ | refine Eqv_in ?_)) | ((try conv => whnf); (first | (refine St_gate ?_; refine xS ?_) | (refine StN_gate ?_; refine xN ?_)); clear H; intro w H))
      (refine Nw_sep H ?_; clear H; intro kb w H; (try simp only [Value.cells, List.toList_toArray, List.append_nil, List.cons_append, List.nil_append] at H))
      (repeat first | refine goN ?_ | ((try conv => whnf); first | (refine Ar_gate ?_; first | (fail_if_success skip) | refine xA ?_) | (first | refine Do_str_eq ?_ | refine Do_str_ne ?_ | refine DoN_len tok rfl ?_ | refine Eqv_in ?_)) | ((try conv => whnf); (first | (refine St_gate ?_; refine xS ?_) | (refine StN_gate ?_; refine xN ?_)); clear H; intro w H))
      have hbk := bulk_kid hmem
      refine Call_of (ih k hmem H (hok.2 k hmem) (by omega)) ?_
      clear H
      rintro _ w ⟨rfl, H⟩
      cases hv : shapeB k with
      | false =>
        have hno : x.kids.all shapeB = false := List.all_eq_false.2 ⟨k, hmem, by rw [hv]; decide⟩
        rw [hno]
        (repeat first | refine goN ?_ | ((try conv => whnf); first | (refine Ar_gate ?_; first | (fail_if_success skip) | refine xA ?_) | (first | refine Do_str_eq ?_ | refine Do_str_ne ?_ | refine DoN_len tok rfl ?_ | refine Eqv_in ?_)) | ((try conv => whnf); (first | (refine St_gate ?_; refine xS ?_) | (refine StN_gate ?_; refine xN ?_)); clear H; intro w H))
        exact Ret_in ⟨by rw [Bool.and_false]; rfl, H.tail.tail⟩
      | true =>
        (repeat first | refine goN ?_ | ((try conv => whnf); first | (refine Ar_gate ?_; first | (fail_if_success skip) | refine xA ?_) | (first | refine Do_str_eq ?_ | refine Do_str_ne ?_ | refine DoN_len tok rfl ?_ | refine Eqv_in ?_)) | ((try conv => whnf); (first | (refine St_gate ?_; refine xS ?_) | (refine StN_gate ?_; refine xN ?_)); clear H; intro w H))
        refine ⟨i + 1, ⟨congrArg some (vint (by omega)), trivial⟩, ⟨⟨by omega, ?_⟩, H.tail⟩, by omega⟩
        rw [htk, List.all_append, hall]; simp [hv]
    · obtain rfl : i = x.kids.length := by omega
      rw [List.take_length] at hall
      rw [hall, Bool.and_true, Bool.true_and, Bool.true_and]
      by_cases h3 : x.op = 3
      · have hlf : leafB x.op x.num x.name = (decide (x.num = 0) && nameB x.name) := by unfold leafB; rw [if_neg (by omega), if_neg (by omega), if_pos h3]
        rw [hlf]
        by_cases h0 : x.num = 0
        case neg =>
          (repeat first | refine goN ?_ | ((try conv => whnf); first | (refine Ar_gate ?_; first | (fail_if_success skip) | refine xA ?_) | (first | refine Do_str_eq ?_ | refine Do_str_ne ?_ | refine DoN_len tok rfl ?_ | refine Eqv_in ?_)) | ((try conv => whnf); (first | (refine St_gate ?_; refine xS ?_) | (refine StN_gate ?_; refine xN ?_)); clear H; intro w H))
          exact Ret_in ⟨by rw [decide_eq_false h0]; rfl, H.tail⟩
        rw [decide_eq_true h0]
        (repeat first | refine goN ?_ | ((try conv => whnf); first | (refine Ar_gate ?_; first | (fail_if_success skip) | refine xA ?_) | (first | refine Do_str_eq ?_ | refine Do_str_ne ?_ | refine DoN_len tok rfl ?_ | refine Eqv_in ?_)) | ((try conv => whnf); (first | (refine St_gate ?_; refine xS ?_) | (refine StN_gate ?_; refine xN ?_)); clear H; intro w H))
        refine Call_of (dName x.name (by omega) H) ?_
        clear H
        rintro _ w ⟨rfl, H⟩
        (repeat first | refine goN ?_ | ((try conv => whnf); first | (refine Ar_gate ?_; first | (fail_if_success skip) | refine xA ?_) | (first | refine Do_str_eq ?_ | refine Do_str_ne ?_ | refine DoN_len tok rfl ?_ | refine Eqv_in ?_)) | ((try conv => whnf); (first | (refine St_gate ?_; refine xS ?_) | (refine StN_gate ?_; refine xN ?_)); clear H; intro w H))
        exact Ret_in ⟨rfl, H.tail⟩
      by_cases hn : x.name = (⟨#[]⟩ : ByteArray)
      case neg =>
        rw [leaf_name h3 hn]
        (repeat first | refine goN ?_ | ((try conv => whnf); first | (refine Ar_gate ?_; first | (fail_if_success skip) | refine xA ?_) | (first | refine Do_str_eq ?_ | refine Do_str_ne ?_ | refine DoN_len tok rfl ?_ | refine Eqv_in ?_)) | ((try conv => whnf); (first | (refine St_gate ?_; refine xS ?_) | (refine StN_gate ?_; refine xN ?_)); clear H; intro w H))
        exact Ret_in ⟨rfl, H.tail⟩
      have he : emptyB x.name = true := decide_eq_true hn
      by_cases h1 : x.op = 1
      · have hlf : leafB x.op x.num x.name = (decide (0 ≤ x.num) && decide (x.num ≤ 1000000)) := by unfold leafB; rw [if_pos h1, he, Bool.and_true]
        rw [hlf]
        by_cases h0 : 0 ≤ x.num
        · (repeat first | refine goN ?_ | ((try conv => whnf); first | (refine Ar_gate ?_; first | (fail_if_success skip) | refine xA ?_) | (first | refine Do_str_eq ?_ | refine Do_str_ne ?_ | refine DoN_len tok rfl ?_ | refine Eqv_in ?_)) | ((try conv => whnf); (first | (refine St_gate ?_; refine xS ?_) | (refine StN_gate ?_; refine xN ?_)); clear H; intro w H))
          exact Ret_in ⟨by rw [decide_eq_true h0]; rfl, H.tail⟩
        · (repeat first | refine goN ?_ | ((try conv => whnf); first | (refine Ar_gate ?_; first | (fail_if_success skip) | refine xA ?_) | (first | refine Do_str_eq ?_ | refine Do_str_ne ?_ | refine DoN_len tok rfl ?_ | refine Eqv_in ?_)) | ((try conv => whnf); (first | (refine St_gate ?_; refine xS ?_) | (refine StN_gate ?_; refine xN ?_)); clear H; intro w H))
          exact Ret_in ⟨by rw [decide_eq_false h0]; rfl, H.tail⟩
      by_cases h2 : x.op = 2
      · have hlf : leafB x.op x.num x.name = (decide (x.num = 0) || decide (x.num = 1)) := by unfold leafB; rw [if_neg h1, if_pos h2, he, Bool.and_true]
        rw [hlf]
        by_cases h0 : x.num = 0
        · (repeat first | refine goN ?_ | ((try conv => whnf); first | (refine Ar_gate ?_; first | (fail_if_success skip) | refine xA ?_) | (first | refine Do_str_eq ?_ | refine Do_str_ne ?_ | refine DoN_len tok rfl ?_ | refine Eqv_in ?_)) | ((try conv => whnf); (first | (refine St_gate ?_; refine xS ?_) | (refine StN_gate ?_; refine xN ?_)); clear H; intro w H))
          exact Ret_in ⟨by rw [decide_eq_true h0]; rfl, H.tail⟩
        by_cases h4 : x.num = 1
        · (repeat first | refine goN ?_ | ((try conv => whnf); first | (refine Ar_gate ?_; first | (fail_if_success skip) | refine xA ?_) | (first | refine Do_str_eq ?_ | refine Do_str_ne ?_ | refine DoN_len tok rfl ?_ | refine Eqv_in ?_)) | ((try conv => whnf); (first | (refine St_gate ?_; refine xS ?_) | (refine StN_gate ?_; refine xN ?_)); clear H; intro w H))
          exact Ret_in ⟨congrArg Value.bool (by simp [h0, h4]), H.tail⟩
        · (repeat first | refine goN ?_ | ((try conv => whnf); first | (refine Ar_gate ?_; first | (fail_if_success skip) | refine xA ?_) | (first | refine Do_str_eq ?_ | refine Do_str_ne ?_ | refine DoN_len tok rfl ?_ | refine Eqv_in ?_)) | ((try conv => whnf); (first | (refine St_gate ?_; refine xS ?_) | (refine StN_gate ?_; refine xN ?_)); clear H; intro w H))
          exact Ret_in ⟨congrArg Value.bool (by simp [h0, h4]), H.tail⟩
      by_cases h4 : x.op = 4
      · have hlf : leafB x.op x.num x.name = true := by unfold leafB; rw [if_neg h1, if_neg h2, if_neg h3, if_pos h4, he]
        rw [hlf]
        (repeat first | refine goN ?_ | ((try conv => whnf); first | (refine Ar_gate ?_; first | (fail_if_success skip) | refine xA ?_) | (first | refine Do_str_eq ?_ | refine Do_str_ne ?_ | refine DoN_len tok rfl ?_ | refine Eqv_in ?_)) | ((try conv => whnf); (first | (refine St_gate ?_; refine xS ?_) | (refine StN_gate ?_; refine xN ?_)); clear H; intro w H))
        exact Ret_in ⟨rfl, H.tail⟩
      have hlf : leafB x.op x.num x.name = decide (x.num = 0) := by unfold leafB; rw [if_neg h1, if_neg h2, if_neg h3, if_neg h4, he, Bool.and_true]
      rw [hlf]
      by_cases h0 : x.num = 0
      · (repeat first | refine goN ?_ | ((try conv => whnf); first | (refine Ar_gate ?_; first | (fail_if_success skip) | refine xA ?_) | (first | refine Do_str_eq ?_ | refine Do_str_ne ?_ | refine DoN_len tok rfl ?_ | refine Eqv_in ?_)) | ((try conv => whnf); (first | (refine St_gate ?_; refine xS ?_) | (refine StN_gate ?_; refine xN ?_)); clear H; intro w H))
        exact Ret_in ⟨congrArg Value.bool (by simp [h0]), H.tail⟩
      · (repeat first | refine goN ?_ | ((try conv => whnf); first | (refine Ar_gate ?_; first | (fail_if_success skip) | refine xA ?_) | (first | refine Do_str_eq ?_ | refine Do_str_ne ?_ | refine DoN_len tok rfl ?_ | refine Eqv_in ?_)) | ((try conv => whnf); (first | (refine St_gate ?_; refine xS ?_) | (refine StN_gate ?_; refine xN ?_)); clear H; intro w H))
        exact Ret_in ⟨congrArg Value.bool (by simp [h0]), H.tail⟩
theorem right_depth (x : Ex) : rightB x 60 = (decide (depth x ≤ 60) && shapeB x) := by
  rw [Bool.eq_iff_iff, right_iff, Bool.and_eq_true, decide_eq_true_eq]
  constructor
  · rintro ⟨h1, h2⟩; exact ⟨by omega, h1⟩
  · rintro ⟨h1, h2⟩; exact ⟨h2, by omega⟩
theorem dRight (x : Ex) (H : Sep w0 w l) (hs : TOk w0 x) (hb : bulk x ≤ 2000000) : Does Tryz.prog 81 #[exA x] w fun v w' => v = .bool (rightB x 60) ∧ Sep w0 w' l := by
  refine Does_intro tok (Tryz.call81 _ _) Tryz.func81 rfl (by rfl) ?_
  rw [right_depth]
  (repeat first | refine goN ?_ | ((try conv => whnf); first | (refine Ar_gate ?_; first | (fail_if_success skip) | refine xA ?_) | (first | refine Do_str_eq ?_ | refine Do_str_ne ?_ | refine DoN_len tok rfl ?_ | refine Eqv_in ?_)) | ((try conv => whnf); (first | (refine St_gate ?_; refine xS ?_) | (refine StN_gate ?_; refine xN ?_)); clear H; intro w H))
  (refine Nw_sep H ?_; clear H; intro xb w H; (try simp only [Value.cells, List.toList_toArray, List.append_nil, List.cons_append, List.nil_append] at H))
  (repeat first | refine goN ?_ | ((try conv => whnf); first | (refine Ar_gate ?_; first | (fail_if_success skip) | refine xA ?_) | (first | refine Do_str_eq ?_ | refine Do_str_ne ?_ | refine DoN_len tok rfl ?_ | refine Eqv_in ?_)) | ((try conv => whnf); (first | (refine St_gate ?_; refine xS ?_) | (refine StN_gate ?_; refine xN ?_)); clear H; intro w H))
  refine Call_of (rDeep x H (fun h => hs.rd h) (by omega)) ?_
  clear H
  rintro _ w ⟨rfl, H⟩
  by_cases h : depth x ≤ 60
  · rw [decide_eq_true h]
    (repeat first | refine goN ?_ | ((try conv => whnf); first | (refine Ar_gate ?_; first | (fail_if_success skip) | refine xA ?_) | (first | refine Do_str_eq ?_ | refine Do_str_ne ?_ | refine DoN_len tok rfl ?_ | refine Eqv_in ?_)) | ((try conv => whnf); (first | (refine St_gate ?_; refine xS ?_) | (refine StN_gate ?_; refine xN ?_)); clear H; intro w H))
    refine Call_of (dShape x H hs hb) ?_
    clear H
    rintro _ w ⟨rfl, H⟩
    (repeat first | refine goN ?_ | ((try conv => whnf); first | (refine Ar_gate ?_; first | (fail_if_success skip) | refine xA ?_) | (first | refine Do_str_eq ?_ | refine Do_str_ne ?_ | refine DoN_len tok rfl ?_ | refine Eqv_in ?_)) | ((try conv => whnf); (first | (refine St_gate ?_; refine xS ?_) | (refine StN_gate ?_; refine xN ?_)); clear H; intro w H))
    exact Ret_in ⟨rfl, H.tail⟩
  · rw [decide_eq_false h]
    (repeat first | refine goN ?_ | ((try conv => whnf); first | (refine Ar_gate ?_; first | (fail_if_success skip) | refine xA ?_) | (first | refine Do_str_eq ?_ | refine Do_str_ne ?_ | refine DoN_len tok rfl ?_ | refine Eqv_in ?_)) | ((try conv => whnf); (first | (refine St_gate ?_; refine xS ?_) | (refine StN_gate ?_; refine xN ?_)); clear H; intro w H))
    exact Ret_in ⟨rfl, H.tail⟩
theorem dWritable (x : Ex) (H : Sep w0 w l) (hs : TOk w0 x) (hb : bulk x ≤ 2000000) : Does Tryz.prog 56 #[exA x] w fun v w' => v = .bool (writB x) ∧ Sep w0 w' l := by
  refine Does_intro tok (Tryz.call56 _ _) Tryz.func56 rfl (by rfl) ?_
  unfold writB
  (repeat first | refine goN ?_ | ((try conv => whnf); first | (refine Ar_gate ?_; first | (fail_if_success skip) | refine xA ?_) | (first | refine Do_str_eq ?_ | refine Do_str_ne ?_ | refine DoN_len tok rfl ?_ | refine Eqv_in ?_)) | ((try conv => whnf); (first | (refine St_gate ?_; refine xS ?_) | (refine StN_gate ?_; refine xN ?_)); clear H; intro w H))
  (refine Nw_sep H ?_; clear H; intro xb w H; (try simp only [Value.cells, List.toList_toArray, List.append_nil, List.cons_append, List.nil_append] at H))
  (repeat first | refine goN ?_ | ((try conv => whnf); first | (refine Ar_gate ?_; first | (fail_if_success skip) | refine xA ?_) | (first | refine Do_str_eq ?_ | refine Do_str_ne ?_ | refine DoN_len tok rfl ?_ | refine Eqv_in ?_)) | ((try conv => whnf); (first | (refine St_gate ?_; refine xS ?_) | (refine StN_gate ?_; refine xN ?_)); clear H; intro w H))
  refine Call_of (dRight x H hs hb) ?_
  clear H
  rintro _ w ⟨rfl, H⟩
  cases h : rightB x 60 with
  | true =>
    (repeat first | refine goN ?_ | ((try conv => whnf); first | (refine Ar_gate ?_; first | (fail_if_success skip) | refine xA ?_) | (first | refine Do_str_eq ?_ | refine Do_str_ne ?_ | refine DoN_len tok rfl ?_ | refine Eqv_in ?_)) | ((try conv => whnf); (first | (refine St_gate ?_; refine xS ?_) | (refine StN_gate ?_; refine xN ?_)); clear H; intro w H))
    refine Call_of (dHas x H hs hb) ?_
    clear H
    rintro _ w ⟨rfl, H⟩
    (repeat first | refine goN ?_ | ((try conv => whnf); first | (refine Ar_gate ?_; first | (fail_if_success skip) | refine xA ?_) | (first | refine Do_str_eq ?_ | refine Do_str_ne ?_ | refine DoN_len tok rfl ?_ | refine Eqv_in ?_)) | ((try conv => whnf); (first | (refine St_gate ?_; refine xS ?_) | (refine StN_gate ?_; refine xN ?_)); clear H; intro w H))
    exact Ret_in ⟨rfl, H.tail⟩
  | false =>
    (repeat first | refine goN ?_ | ((try conv => whnf); first | (refine Ar_gate ?_; first | (fail_if_success skip) | refine xA ?_) | (first | refine Do_str_eq ?_ | refine Do_str_ne ?_ | refine DoN_len tok rfl ?_ | refine Eqv_in ?_)) | ((try conv => whnf); (first | (refine St_gate ?_; refine xS ?_) | (refine StN_gate ?_; refine xN ?_)); clear H; intro w H))
    exact Ret_in ⟨rfl, H.tail⟩
def digS : ByteArray := ⟨#[48, 49, 50, 51, 52, 53, 54, 55, 56, 57]⟩
theorem dig_run {i : Nat} (hi : i < 10) {j : Int} (hj : j = (i : Int) + 1) (w : World) : (Instr.slice 9 (.string digS) (some (.int .i64 (i : Int))) (some (.int .i64 j)) none).run Tryz.prog w = .ok (.string ⟨#[UInt8.ofNat (48 + i)]⟩) w := by
  subst hj
  rw [run_slice_string w 9 digS .i64 .i64 (i : Int) ((i : Int) + 1) Tryz.underlying9 (by omega) (by omega) (by show _ ≤ (10 : Int); omega)]
  have key : ∀ i : Nat, i < 10 → digS.extract i (i + 1) = ⟨#[UInt8.ofNat (48 + i)]⟩ := by decide
  have e1 : ((i : Int)).toNat = i := by omega
  have e2 : ((i : Int) + 1).toNat = i + 1 := by omega
  rw [e1, e2, key i hi]
theorem dec_short (u : Nat) (hu : u ≤ 10000000) : (Lib.decDigits u).length ≤ 21 := by
  have := itoa_short (x := (u : Int)) (by omega) (by omega)
  unfold Lib.itoa at this
  rw [if_neg (by omega)] at this
  exact this
theorem Do_dig {i : Nat} {w : World} {K : Value → World → Prop} (hi : i < 10) (hk : K (.string ⟨#[UInt8.ofNat (48 + i)]⟩) w) : Do Tryz.prog (Instr.sliceAt 9 (.string digS) (some (.int .i64 (i : Int))) (some (.int .i64 ((i : Int) + 1))) none) w K :=
  ⟨_, w, by rw [run_sliceAt_string w 9 _ _ _ _ Tryz.underlying9]; exact dig_run hi rfl w, hk⟩
theorem DoS_dig {i : Nat} {w : World} {K : Value → Option (World → Prop) → Prop} (hi : i < 10) (hk : ∀ J : World → Prop, (∀ w, J w) → K (.string ⟨#[UInt8.ofNat (48 + i)]⟩) (some J)) : DoS Tryz.prog (Instr.sliceAt 9 (.string digS) (some (.int .i64 (i : Int))) (some (.int .i64 ((i : Int) + 1))) none) w K := by
  have hr : ∀ w, (Instr.sliceAt 9 (.string digS) (some (.int .i64 (i : Int))) (some (.int .i64 ((i : Int) + 1))) none).run Tryz.prog w = .ok (.string ⟨#[UInt8.ofNat (48 + i)]⟩) w := fun w => by
    rw [run_sliceAt_string w 9 _ _ _ _ Tryz.underlying9]; exact dig_run hi rfl w
  exact ⟨_, hr w, hk _ hr⟩
theorem dDecimal (u : Nat) : ∀ {w : World} {l : List Res} (H : Sep w0 w l) (hu : u ≤ 2000000), Does Tryz.prog 55 #[.int .i64 (u : Int)] w fun v w' => v = .string ⟨(Lib.decDigits u).toArray⟩ ∧ Sep w0 w' l := by
  induction u using Nat.strongRecOn with
  | ind u ih =>
    intro w l H hu
    refine Does_intro tok (Tryz.call55 _ _) Tryz.func55 rfl (by rfl) ?_
    by_cases h10 : u < 10
    · (repeat first | refine goN ?_ | ((try conv => whnf); first | (refine Ar_gate ?_; first | (fail_if_success skip) | refine xA ?_) | (first | refine Do_str_eq ?_ | refine Do_str_ne ?_ | refine DoN_len tok rfl ?_ | refine Eqv_in ?_)) | ((try conv => whnf); (first | (refine St_gate ?_; refine xS ?_) | (refine StN_gate ?_; refine xN ?_)); clear H; intro w H))
      refine Do_dig h10 ?_
      (repeat first | refine goN ?_ | ((try conv => whnf); first | (refine Ar_gate ?_; first | (fail_if_success skip) | refine xA ?_) | (first | refine Do_str_eq ?_ | refine Do_str_ne ?_ | refine DoN_len tok rfl ?_ | refine Eqv_in ?_)) | ((try conv => whnf); (first | (refine St_gate ?_; refine xS ?_) | (refine StN_gate ?_; refine xN ?_)); clear H; intro w H))
      exact Ret_in ⟨by rw [Lib.decDigits_one h10]; rfl, H⟩
    · (repeat first | refine goN ?_ | ((try conv => whnf); first | (refine Ar_gate ?_; first | (fail_if_success skip) | refine xA ?_) | (first | refine Do_str_eq ?_ | refine Do_str_ne ?_ | refine DoN_len tok rfl ?_ | refine Eqv_in ?_)) | ((try conv => whnf); (first | (refine St_gate ?_; refine xS ?_) | (refine StN_gate ?_; refine xN ?_)); clear H; intro w H))
      refine Draw_intro mixed [0, 1, 3, 4, 5, 6, 7, 8, 2, 9, 10] (by decide +kernel) (fun w _ fd => ?_); replace H := H.fr fd; clear fd
      conv => whnf
      rw [show ((u : Int)).tdiv 10 = ((u / 10 : Nat) : Int) from rfl]
      (repeat first | refine goN ?_ | ((try conv => whnf); first | (refine Ar_gate ?_; first | (fail_if_success skip) | refine xA ?_) | (first | refine Do_str_eq ?_ | refine Do_str_ne ?_ | refine DoN_len tok rfl ?_ | refine Eqv_in ?_)) | ((try conv => whnf); (first | (refine St_gate ?_; refine xS ?_) | (refine StN_gate ?_; refine xN ?_)); clear H; intro w H))
      rw [show ((u : Int)).tmod 10 = ((u % 10 : Nat) : Int) from rfl]
      (repeat first | refine goN ?_ | ((try conv => whnf); first | (refine Ar_gate ?_; first | (fail_if_success skip) | refine xA ?_) | (first | refine Do_str_eq ?_ | refine Do_str_ne ?_ | refine DoN_len tok rfl ?_ | refine Eqv_in ?_)) | ((try conv => whnf); (first | (refine St_gate ?_; refine xS ?_) | (refine StN_gate ?_; refine xN ?_)); clear H; intro w H))
      refine DoS_dig (by omega) (fun J1 hJ1 => ?_)
      (repeat first | refine goN ?_ | ((try conv => whnf); first | (refine Ar_gate ?_; first | (fail_if_success skip) | refine xA ?_) | (first | refine Do_str_eq ?_ | refine Do_str_ne ?_ | refine DoN_len tok rfl ?_ | refine Eqv_in ?_)) | ((try conv => whnf); (first | (refine St_gate ?_; refine xS ?_) | (refine StN_gate ?_; refine xN ?_)); clear H; intro w H))
      refine Call_of (ih (u / 10) (by omega) H (by omega)) ?_
      clear H
      rintro _ w ⟨rfl, H⟩
      have hz := dec_short (u / 10) (by omega)
      (repeat first | refine goN ?_ | ((try conv => whnf); first | (refine Ar_gate ?_; first | (fail_if_success skip) | refine xA ?_) | (first | refine Do_str_eq ?_ | refine Do_str_ne ?_ | refine DoN_len tok rfl ?_ | refine Eqv_in ?_)) | ((try conv => whnf); (first | (refine St_gate ?_; refine xS ?_) | (refine StN_gate ?_; refine xN ?_)); clear H; intro w H))
      (repeat (refine Kept_gate ?_; refine ⟨hJ1 _, ?_⟩; (repeat first | refine goN ?_ | ((try conv => whnf); first | (refine Ar_gate ?_; first | (fail_if_success skip) | refine xA ?_) | (first | refine Do_str_eq ?_ | refine Do_str_ne ?_ | refine DoN_len tok rfl ?_ | refine Eqv_in ?_)) | ((try conv => whnf); (first | (refine St_gate ?_; refine xS ?_) | (refine StN_gate ?_; refine xN ?_)); clear H; intro w H))))
      refine DoS_sadd (fun J2 hJ2 => ?_) (by (try simp only [ByteArray.size_append, byteSize, str_size, List.size_toArray, List.length_cons, List.length_nil]); omega)
      (repeat first | refine goN ?_ | ((try conv => whnf); first | (refine Ar_gate ?_; first | (fail_if_success skip) | refine xA ?_) | (first | refine Do_str_eq ?_ | refine Do_str_ne ?_ | refine DoN_len tok rfl ?_ | refine Eqv_in ?_)) | ((try conv => whnf); (first | (refine St_gate ?_; refine xS ?_) | (refine StN_gate ?_; refine xN ?_)); clear H; intro w H))
      refine Ret_in ⟨?_, H⟩
      have e : Lib.decDigits u = Lib.decDigits (u / 10) ++ [UInt8.ofNat (48 + u % 10)] := by
        conv => lhs; rw [Lib.decDigits, dif_neg h10]
      rw [e]
      refine congrArg Value.string ?_
      apply ByteArray.ext
      simp
theorem dDec {n : Int} (H : Sep w0 w l) (h1 : -1000000 ≤ n) (h2 : n ≤ 1000000) : Does Tryz.prog 55 #[.int .i64 n] w fun v w' => v = .string (itoaC n) ∧ Sep w0 w' l := by
  have hI : itoaC n = ⟨(Lib.itoa n).toArray⟩ := by unfold itoaC; rw [if_pos (by omega)]
  rw [hI]
  unfold Lib.itoa
  by_cases h0 : n < 0
  · rw [if_pos h0]
    have e : 0 - n = ((n.natAbs : Nat) : Int) := by omega
    have hz := dec_short n.natAbs (by omega)
    refine Does_intro tok (Tryz.call55 _ _) Tryz.func55 rfl (by rfl) ?_
    (repeat first | refine goN ?_ | ((try conv => whnf); first | (refine Ar_gate ?_; first | (fail_if_success skip) | refine xA ?_) | (first | refine Do_str_eq ?_ | refine Do_str_ne ?_ | refine DoN_len tok rfl ?_ | refine Eqv_in ?_)) | ((try conv => whnf); (first | (refine St_gate ?_; refine xS ?_) | (refine StN_gate ?_; refine xN ?_)); clear H; intro w H))
    conv => whnf
    rw [e]
    refine Call_of (dDecimal n.natAbs H (by omega)) ?_
    clear H
    rintro _ w ⟨rfl, H⟩
    (repeat first | refine goN ?_ | ((try conv => whnf); first | (refine Ar_gate ?_; first | (fail_if_success skip) | refine xA ?_) | (first | refine Do_str_eq ?_ | refine Do_str_ne ?_ | refine DoN_len tok rfl ?_ | refine Eqv_in ?_)) | ((try conv => whnf); (first | (refine St_gate ?_; refine xS ?_) | (refine StN_gate ?_; refine xN ?_)); clear H; intro w H))
    refine Do_sadd ?_ (by (try simp only [ByteArray.size_append, byteSize, str_size, List.size_toArray, List.length_cons, List.length_nil]); omega)
    (repeat first | refine goN ?_ | ((try conv => whnf); first | (refine Ar_gate ?_; first | (fail_if_success skip) | refine xA ?_) | (first | refine Do_str_eq ?_ | refine Do_str_ne ?_ | refine DoN_len tok rfl ?_ | refine Eqv_in ?_)) | ((try conv => whnf); (first | (refine St_gate ?_; refine xS ?_) | (refine StN_gate ?_; refine xN ?_)); clear H; intro w H))
    refine Ret_in ⟨congrArg Value.string ?_, H⟩
    apply ByteArray.ext
    simp
  · rw [if_neg h0]
    obtain ⟨u, rfl⟩ : ∃ u : Nat, n = u := ⟨n.toNat, by omega⟩
    exact dDecimal u H (by omega)
theorem dInner {x : Ex} (H : Sep w0 w l) (hb : bulk x ≤ 2000000) (hih : ∀ {w : World} {l' : List Res}, Sep w0 w (l' ++ l) → Does Tryz.prog 57 #[exA x] w fun v w' => v = .string (txt x) ∧ Sep w0 w' (l' ++ l)) :
    Does Tryz.prog 83 #[exA x] w fun v w' => v = .string (inn x (txt x)) ∧ Sep w0 w' l := by
  refine Does_intro tok (Tryz.call83 _ _) Tryz.func83 rfl (by rfl) ?_
  have hts := txt_size x
  have hkl := kids_bulk x
  unfold inn
  (repeat first | refine goN ?_ | ((try conv => whnf); first | (refine Ar_gate ?_; first | (fail_if_success skip) | refine xA ?_) | (first | refine Do_str_eq ?_ | refine Do_str_ne ?_ | refine DoN_len tok rfl ?_ | refine Eqv_in ?_)) | ((try conv => whnf); (first | (refine St_gate ?_; refine xS ?_) | (refine StN_gate ?_; refine xN ?_)); clear H; intro w H))
  (refine Nw_sep H ?_; clear H; intro xb w H; (try simp only [Value.cells, List.toList_toArray, List.append_nil, List.cons_append, List.nil_append] at H))
  (repeat first | refine goN ?_ | ((try conv => whnf); first | (refine Ar_gate ?_; first | (fail_if_success skip) | refine xA ?_) | (first | refine Do_str_eq ?_ | refine Do_str_ne ?_ | refine DoN_len tok rfl ?_ | refine Eqv_in ?_)) | ((try conv => whnf); (first | (refine St_gate ?_; refine xS ?_) | (refine StN_gate ?_; refine xN ?_)); clear H; intro w H))
  by_cases h : x.kids.length = 0
  · rw [if_pos h]
    (repeat first | refine goN ?_ | ((try conv => whnf); first | (refine Ar_gate ?_; first | (fail_if_success skip) | refine xA ?_) | (first | refine Do_str_eq ?_ | refine Do_str_ne ?_ | refine DoN_len tok rfl ?_ | refine Eqv_in ?_)) | ((try conv => whnf); (first | (refine St_gate ?_; refine xS ?_) | (refine StN_gate ?_; refine xN ?_)); clear H; intro w H))
    refine Call_of (hih (l' := [_]) H) ?_
    clear H
    rintro _ w ⟨rfl, H⟩
    (repeat first | refine goN ?_ | ((try conv => whnf); first | (refine Ar_gate ?_; first | (fail_if_success skip) | refine xA ?_) | (first | refine Do_str_eq ?_ | refine Do_str_ne ?_ | refine DoN_len tok rfl ?_ | refine Eqv_in ?_)) | ((try conv => whnf); (first | (refine St_gate ?_; refine xS ?_) | (refine StN_gate ?_; refine xN ?_)); clear H; intro w H))
    exact Ret_in ⟨rfl, H.tail⟩
  · rw [if_neg h]
    (repeat first | refine goN ?_ | ((try conv => whnf); first | (refine Ar_gate ?_; first | (fail_if_success skip) | refine xA ?_) | (first | refine Do_str_eq ?_ | refine Do_str_ne ?_ | refine DoN_len tok rfl ?_ | refine Eqv_in ?_)) | ((try conv => whnf); (first | (refine St_gate ?_; refine xS ?_) | (refine StN_gate ?_; refine xN ?_)); clear H; intro w H))
    refine Call_of (hih (l' := [_]) H) ?_
    clear H
    rintro _ w ⟨rfl, H⟩
    (repeat first | refine goN ?_ | ((try conv => whnf); first | (refine Ar_gate ?_; first | (fail_if_success skip) | refine xA ?_) | (first | refine Do_str_eq ?_ | refine Do_str_ne ?_ | refine DoN_len tok rfl ?_ | refine Eqv_in ?_)) | ((try conv => whnf); (first | (refine St_gate ?_; refine xS ?_) | (refine StN_gate ?_; refine xN ?_)); clear H; intro w H))
    refine Do_sadd ?_ (by (try simp only [ByteArray.size_append, byteSize, str_size, List.size_toArray, List.length_cons, List.length_nil]); omega)
    (repeat first | refine goN ?_ | ((try conv => whnf); first | (refine Ar_gate ?_; first | (fail_if_success skip) | refine xA ?_) | (first | refine Do_str_eq ?_ | refine Do_str_ne ?_ | refine DoN_len tok rfl ?_ | refine Eqv_in ?_)) | ((try conv => whnf); (first | (refine St_gate ?_; refine xS ?_) | (refine StN_gate ?_; refine xN ?_)); clear H; intro w H))
    refine Do_sadd ?_ (by (try simp only [ByteArray.size_append, byteSize, str_size, List.size_toArray, List.length_cons, List.length_nil]); omega)
    (repeat first | refine goN ?_ | ((try conv => whnf); first | (refine Ar_gate ?_; first | (fail_if_success skip) | refine xA ?_) | (first | refine Do_str_eq ?_ | refine Do_str_ne ?_ | refine DoN_len tok rfl ?_ | refine Eqv_in ?_)) | ((try conv => whnf); (first | (refine St_gate ?_; refine xS ?_) | (refine StN_gate ?_; refine xN ?_)); clear H; intro w H))
    exact Ret_in ⟨rfl, H.tail⟩
theorem dText (x : Ex) : ∀ {w : World} {l : List Res} (H : Sep w0 w l) (hs : TOk w0 x) (hb : bulk x ≤ 2000000) (hsh : shapeB x = true),
    Does Tryz.prog 57 #[exA x] w fun v w' => v = .string (txt x) ∧ Sep w0 w' l := by
  induction x using Ex.ind with
  | h x ih =>
    intro w l H hs hb hsh
    refine Does_intro tok (Tryz.call57 _ _) Tryz.func57 rfl (by rfl) ?_
    have hkl := kids_bulk x
    rw [shape_eq, Bool.and_eq_true, List.all_eq_true] at hsh
    obtain ⟨hone, hksh⟩ := hsh
    unfold oneB at hone
    simp only [Bool.and_eq_true, decide_eq_true_eq] at hone
    obtain ⟨⟨⟨ho1, ho2⟩, hnk⟩, hleaf⟩ := hone
    have hnk2 : nk x.op ≤ 2 := by unfold nk; split; omega; split <;> omega
    have htx : txt x = textF itoaC x (x.kids.map txt) := text_eq itoaC x
    have hok := TOk_iff.1 hs
    have hgo : ∀ k ∈ x.kids, ∀ {w : World} {l' : List Res}, Sep w0 w (l' ++ l) → Does Tryz.prog 83 #[exA k] w fun v w' => v = .string (inn k (txt k)) ∧ Sep w0 w' (l' ++ l) := fun k hk {w} {l'} H => by
      have hbk := bulk_kid hk
      refine dInner H (by omega) fun {w} {l''} H => ?_
      exact ih k hk H (hok.2 k hk) (by omega) (hksh k hk)
    (repeat first | refine goN ?_ | ((try conv => whnf); first | (refine Ar_gate ?_; first | (fail_if_success skip) | refine xA ?_) | (first | refine Do_str_eq ?_ | refine Do_str_ne ?_ | refine DoN_len tok rfl ?_ | refine Eqv_in ?_)) | ((try conv => whnf); (first | (refine St_gate ?_; refine xS ?_) | (refine StN_gate ?_; refine xN ?_)); clear H; intro w H))
    (refine Nw_sep H ?_; clear H; intro xb w H; (try simp only [Value.cells, List.toList_toArray, List.append_nil, List.cons_append, List.nil_append] at H))
    (repeat first | refine goN ?_ | ((try conv => whnf); first | (refine Ar_gate ?_; first | (fail_if_success skip) | refine xA ?_) | (first | refine Do_str_eq ?_ | refine Do_str_ne ?_ | refine DoN_len tok rfl ?_ | refine Eqv_in ?_)) | ((try conv => whnf); (first | (refine St_gate ?_; refine xS ?_) | (refine StN_gate ?_; refine xN ?_)); clear H; intro w H))
    by_cases hk0 : x.kids.length = 0
    · have hk : x.kids = [] := List.length_eq_zero_iff.1 hk0
      have hw : txt x = wordB x.num x.name itoaC x.op := by rw [htx]; unfold textF; rw [hk]
      rw [hw]
      unfold wordB
      by_cases h1 : x.op = 1
      · rw [if_pos h1]
        unfold leafB at hleaf
        rw [if_pos h1] at hleaf
        simp only [Bool.and_eq_true, decide_eq_true_eq] at hleaf
        (repeat first | refine goN ?_ | ((try conv => whnf); first | (refine Ar_gate ?_; first | (fail_if_success skip) | refine xA ?_) | (first | refine Do_str_eq ?_ | refine Do_str_ne ?_ | refine DoN_len tok rfl ?_ | refine Eqv_in ?_)) | ((try conv => whnf); (first | (refine St_gate ?_; refine xS ?_) | (refine StN_gate ?_; refine xN ?_)); clear H; intro w H))
        refine Call_of (dDec H (by omega) (by omega)) ?_
        clear H
        rintro _ w ⟨rfl, H⟩
        (repeat first | refine goN ?_ | ((try conv => whnf); first | (refine Ar_gate ?_; first | (fail_if_success skip) | refine xA ?_) | (first | refine Do_str_eq ?_ | refine Do_str_ne ?_ | refine DoN_len tok rfl ?_ | refine Eqv_in ?_)) | ((try conv => whnf); (first | (refine St_gate ?_; refine xS ?_) | (refine StN_gate ?_; refine xN ?_)); clear H; intro w H))
        exact Ret_in ⟨rfl, H.tail⟩
      rw [if_neg h1]
      by_cases h2 : x.op = 2
      · rw [if_pos h2]
        by_cases h3 : x.num = 1
        · rw [if_pos h3]
          (repeat first | refine goN ?_ | ((try conv => whnf); first | (refine Ar_gate ?_; first | (fail_if_success skip) | refine xA ?_) | (first | refine Do_str_eq ?_ | refine Do_str_ne ?_ | refine DoN_len tok rfl ?_ | refine Eqv_in ?_)) | ((try conv => whnf); (first | (refine St_gate ?_; refine xS ?_) | (refine StN_gate ?_; refine xN ?_)); clear H; intro w H))
          exact Ret_in ⟨rfl, H.tail⟩
        · rw [if_neg h3]
          (repeat first | refine goN ?_ | ((try conv => whnf); first | (refine Ar_gate ?_; first | (fail_if_success skip) | refine xA ?_) | (first | refine Do_str_eq ?_ | refine Do_str_ne ?_ | refine DoN_len tok rfl ?_ | refine Eqv_in ?_)) | ((try conv => whnf); (first | (refine St_gate ?_; refine xS ?_) | (refine StN_gate ?_; refine xN ?_)); clear H; intro w H))
          exact Ret_in ⟨rfl, H.tail⟩
      rw [if_neg h2]
      (repeat first | refine goN ?_ | ((try conv => whnf); first | (refine Ar_gate ?_; first | (fail_if_success skip) | refine xA ?_) | (first | refine Do_str_eq ?_ | refine Do_str_ne ?_ | refine DoN_len tok rfl ?_ | refine Eqv_in ?_)) | ((try conv => whnf); (first | (refine St_gate ?_; refine xS ?_) | (refine StN_gate ?_; refine xN ?_)); clear H; intro w H))
      exact Ret_in ⟨rfl, H.tail⟩
    have hsrc1 := hok.1
    obtain ⟨ab, ao, hat⟩ := hsrc1.addr (by rw [rowLen exV_len]; omega)
    have hsrc0 : Src w0 (some ⟨ab, ao, none⟩) x.kids.length 6 (x.kids.flatMap exV) := by rw [← hat]; exact hok.1
    rw [hat] at H ⊢
    have hks : ∀ k ∈ x.kids, (inn k (txt k)).size ≤ 40000002 := fun k hk => by
      have := bulk_kid hk
      have := txt_size k
      have := inn_size k (txt k)
      omega
    have hss := sign_size x.op
    by_cases hk1 : x.kids.length = 1
    · obtain ⟨k, hk⟩ := List.length_eq_one_iff.1 hk1
      have hkm : k ∈ x.kids := by rw [hk]; exact .head _
      have hw : txt x = (if 7 ≤ x.op then signB x.op ++ str [32] else signB x.op) ++ inn k (txt k) := by rw [htx]; unfold textF; rw [hk]; rfl
      have hkz := hks k hkm
      have hrow := rowPart (f := exV) (sz := 6) exV_len (show x.kids[0]? = some k by rw [hk]; rfl)
      have hrom := hrow
      rw [hw]
      by_cases h7 : 7 ≤ x.op
      · rw [if_pos h7]
        (repeat first | refine goN ?_ | ((try conv => whnf); first | (refine Ar_gate ?_; first | (fail_if_success skip) | refine xA ?_) | (first | refine Do_str_eq ?_ | refine Do_str_ne ?_ | refine DoN_len tok rfl ?_ | refine Eqv_in ?_)) | ((try conv => whnf); (first | (refine St_gate ?_; refine xS ?_) | (refine StN_gate ?_; refine xN ?_)); clear H; intro w H))
        refine Draw_intro mixed [0, 1, 4, 5, 6, 7, 2, 3, 8, 9, 10] (by decide +kernel) (fun w _ fd => ?_); replace H := H.fr fd; clear fd
        (repeat first | refine goN ?_ | ((try conv => whnf); first | (refine Ar_gate ?_; first | (fail_if_success skip) | refine xA ?_) | (first | refine Do_str_eq ?_ | refine Do_str_ne ?_ | refine DoN_len tok rfl ?_ | refine Eqv_in ?_)) | ((try conv => whnf); (first | (refine St_gate ?_; refine xS ?_) | (refine StN_gate ?_; refine xN ?_)); clear H; intro w H))
        refine Ix_in 0 rfl (by omega) ?_
        refine LdN_src (H.rd hsrc0) (vs := [.int .i64 k.op, .int .i64 k.num, .string k.name, .slice k.at_ k.kids.length k.cap, .int .i64 k.line, .int .i64 k.col]) hrow rfl ?_
        (repeat first | refine goN ?_ | ((try conv => whnf); first | (refine Ar_gate ?_; first | (fail_if_success skip) | refine xA ?_) | (first | refine Do_str_eq ?_ | refine Do_str_ne ?_ | refine DoN_len tok rfl ?_ | refine Eqv_in ?_)) | ((try conv => whnf); (first | (refine St_gate ?_; refine xS ?_) | (refine StN_gate ?_; refine xN ?_)); clear H; intro w H))
        refine Call_of (rSign x.op H) ?_
        clear H
        rintro _ w ⟨rfl, H⟩
        (repeat first | refine goN ?_ | ((try conv => whnf); first | (refine Ar_gate ?_; first | (fail_if_success skip) | refine xA ?_) | (first | refine Do_str_eq ?_ | refine Do_str_ne ?_ | refine DoN_len tok rfl ?_ | refine Eqv_in ?_)) | ((try conv => whnf); (first | (refine St_gate ?_; refine xS ?_) | (refine StN_gate ?_; refine xN ?_)); clear H; intro w H))
        (repeat (refine Kept_gate ?_; refine ⟨keepSrc (H.rd hsrc0) hrow rfl, ?_⟩; (repeat first | refine goN ?_ | ((try conv => whnf); first | (refine Ar_gate ?_; first | (fail_if_success skip) | refine xA ?_) | (first | refine Do_str_eq ?_ | refine Do_str_ne ?_ | refine DoN_len tok rfl ?_ | refine Eqv_in ?_)) | ((try conv => whnf); (first | (refine St_gate ?_; refine xS ?_) | (refine StN_gate ?_; refine xN ?_)); clear H; intro w H))))
        refine DoS_sadd (fun J1 hJ1 => ?_) (by (try simp only [ByteArray.size_append, byteSize, str_size, List.size_toArray, List.length_cons, List.length_nil]); omega)
        (repeat first | refine goN ?_ | ((try conv => whnf); first | (refine Ar_gate ?_; first | (fail_if_success skip) | refine xA ?_) | (first | refine Do_str_eq ?_ | refine Do_str_ne ?_ | refine DoN_len tok rfl ?_ | refine Eqv_in ?_)) | ((try conv => whnf); (first | (refine St_gate ?_; refine xS ?_) | (refine StN_gate ?_; refine xN ?_)); clear H; intro w H))
        refine Call_of (hgo k hkm (l' := [_]) H) ?_
        clear H
        rintro _ w ⟨rfl, H⟩
        (repeat first | refine goN ?_ | ((try conv => whnf); first | (refine Ar_gate ?_; first | (fail_if_success skip) | refine xA ?_) | (first | refine Do_str_eq ?_ | refine Do_str_ne ?_ | refine DoN_len tok rfl ?_ | refine Eqv_in ?_)) | ((try conv => whnf); (first | (refine St_gate ?_; refine xS ?_) | (refine StN_gate ?_; refine xN ?_)); clear H; intro w H))
        (repeat (refine Kept_gate ?_; (first | refine ⟨keepSrc (H.rd hsrc0) hrow rfl, ?_⟩ | refine ⟨hJ1 _, ?_⟩); (repeat first | refine goN ?_ | ((try conv => whnf); first | (refine Ar_gate ?_; first | (fail_if_success skip) | refine xA ?_) | (first | refine Do_str_eq ?_ | refine Do_str_ne ?_ | refine DoN_len tok rfl ?_ | refine Eqv_in ?_)) | ((try conv => whnf); (first | (refine St_gate ?_; refine xS ?_) | (refine StN_gate ?_; refine xN ?_)); clear H; intro w H))))
        refine DoS_sadd (fun J2 hJ2 => ?_) (by (try simp only [ByteArray.size_append, byteSize, str_size, List.size_toArray, List.length_cons, List.length_nil]); omega)
        (repeat first | refine goN ?_ | ((try conv => whnf); first | (refine Ar_gate ?_; first | (fail_if_success skip) | refine xA ?_) | (first | refine Do_str_eq ?_ | refine Do_str_ne ?_ | refine DoN_len tok rfl ?_ | refine Eqv_in ?_)) | ((try conv => whnf); (first | (refine St_gate ?_; refine xS ?_) | (refine StN_gate ?_; refine xN ?_)); clear H; intro w H))
        exact Ret_in ⟨rfl, H.tail⟩
      · rw [if_neg h7]
        (repeat first | refine goN ?_ | ((try conv => whnf); first | (refine Ar_gate ?_; first | (fail_if_success skip) | refine xA ?_) | (first | refine Do_str_eq ?_ | refine Do_str_ne ?_ | refine DoN_len tok rfl ?_ | refine Eqv_in ?_)) | ((try conv => whnf); (first | (refine St_gate ?_; refine xS ?_) | (refine StN_gate ?_; refine xN ?_)); clear H; intro w H))
        refine Draw_intro mixed [0, 1, 3, 4, 5, 6, 2, 7, 8, 9] (by decide +kernel) (fun w _ fd => ?_); replace H := H.fr fd; clear fd
        (repeat first | refine goN ?_ | ((try conv => whnf); first | (refine Ar_gate ?_; first | (fail_if_success skip) | refine xA ?_) | (first | refine Do_str_eq ?_ | refine Do_str_ne ?_ | refine DoN_len tok rfl ?_ | refine Eqv_in ?_)) | ((try conv => whnf); (first | (refine St_gate ?_; refine xS ?_) | (refine StN_gate ?_; refine xN ?_)); clear H; intro w H))
        refine Ix_in 0 rfl (by omega) ?_
        refine LdN_src (H.rd hsrc0) (vs := [.int .i64 k.op, .int .i64 k.num, .string k.name, .slice k.at_ k.kids.length k.cap, .int .i64 k.line, .int .i64 k.col]) hrow rfl ?_
        (repeat first | refine goN ?_ | ((try conv => whnf); first | (refine Ar_gate ?_; first | (fail_if_success skip) | refine xA ?_) | (first | refine Do_str_eq ?_ | refine Do_str_ne ?_ | refine DoN_len tok rfl ?_ | refine Eqv_in ?_)) | ((try conv => whnf); (first | (refine St_gate ?_; refine xS ?_) | (refine StN_gate ?_; refine xN ?_)); clear H; intro w H))
        refine Call_of (rSign x.op H) ?_
        clear H
        rintro _ w ⟨rfl, H⟩
        (repeat first | refine goN ?_ | ((try conv => whnf); first | (refine Ar_gate ?_; first | (fail_if_success skip) | refine xA ?_) | (first | refine Do_str_eq ?_ | refine Do_str_ne ?_ | refine DoN_len tok rfl ?_ | refine Eqv_in ?_)) | ((try conv => whnf); (first | (refine St_gate ?_; refine xS ?_) | (refine StN_gate ?_; refine xN ?_)); clear H; intro w H))
        (repeat (refine Kept_gate ?_; refine ⟨keepSrc (H.rd hsrc0) hrow rfl, ?_⟩; (repeat first | refine goN ?_ | ((try conv => whnf); first | (refine Ar_gate ?_; first | (fail_if_success skip) | refine xA ?_) | (first | refine Do_str_eq ?_ | refine Do_str_ne ?_ | refine DoN_len tok rfl ?_ | refine Eqv_in ?_)) | ((try conv => whnf); (first | (refine St_gate ?_; refine xS ?_) | (refine StN_gate ?_; refine xN ?_)); clear H; intro w H))))
        refine Call_of (hgo k hkm (l' := [_]) H) ?_
        clear H
        rintro _ w ⟨rfl, H⟩
        (repeat first | refine goN ?_ | ((try conv => whnf); first | (refine Ar_gate ?_; first | (fail_if_success skip) | refine xA ?_) | (first | refine Do_str_eq ?_ | refine Do_str_ne ?_ | refine DoN_len tok rfl ?_ | refine Eqv_in ?_)) | ((try conv => whnf); (first | (refine St_gate ?_; refine xS ?_) | (refine StN_gate ?_; refine xN ?_)); clear H; intro w H))
        (repeat (refine Kept_gate ?_; refine ⟨keepSrc (H.rd hsrc0) hrow rfl, ?_⟩; (repeat first | refine goN ?_ | ((try conv => whnf); first | (refine Ar_gate ?_; first | (fail_if_success skip) | refine xA ?_) | (first | refine Do_str_eq ?_ | refine Do_str_ne ?_ | refine DoN_len tok rfl ?_ | refine Eqv_in ?_)) | ((try conv => whnf); (first | (refine St_gate ?_; refine xS ?_) | (refine StN_gate ?_; refine xN ?_)); clear H; intro w H))))
        refine DoS_sadd (fun J2 hJ2 => ?_) (by (try simp only [ByteArray.size_append, byteSize, str_size, List.size_toArray, List.length_cons, List.length_nil]); omega)
        (repeat first | refine goN ?_ | ((try conv => whnf); first | (refine Ar_gate ?_; first | (fail_if_success skip) | refine xA ?_) | (first | refine Do_str_eq ?_ | refine Do_str_ne ?_ | refine DoN_len tok rfl ?_ | refine Eqv_in ?_)) | ((try conv => whnf); (first | (refine St_gate ?_; refine xS ?_) | (refine StN_gate ?_; refine xN ?_)); clear H; intro w H))
        exact Ret_in ⟨rfl, H.tail⟩
    · have hk2 : x.kids.length = 2 := by omega
      obtain ⟨k, m, hk⟩ : ∃ k m, x.kids = [k, m] := by
        match x.kids, hk2 with
        | [k, m], _ => exact ⟨k, m, rfl⟩
      have hkm : k ∈ x.kids := by rw [hk]; exact .head _
      have hmm : m ∈ x.kids := by rw [hk]; exact .tail _ (.head _)
      have hw : txt x = inn k (txt k) ++ str [32] ++ signB x.op ++ str [32] ++ inn m (txt m) := by rw [htx]; unfold textF; rw [hk]; rfl
      have hkz := hks k hkm
      have hmz := hks m hmm
      have hrow := rowPart (f := exV) (sz := 6) exV_len (show x.kids[0]? = some k by rw [hk]; rfl)
      have hrom := rowPart (f := exV) (sz := 6) exV_len (show x.kids[1]? = some m by rw [hk]; rfl)
      rw [hw]
      (repeat first | refine goN ?_ | ((try conv => whnf); first | (refine Ar_gate ?_; first | (fail_if_success skip) | refine xA ?_) | (first | refine Do_str_eq ?_ | refine Do_str_ne ?_ | refine DoN_len tok rfl ?_ | refine Eqv_in ?_)) | ((try conv => whnf); (first | (refine St_gate ?_; refine xS ?_) | (refine StN_gate ?_; refine xN ?_)); clear H; intro w H))
      refine Draw_intro mixed [0, 1, 2, 3, 6, 7, 11, 12, 13, 14, 4, 5, 8, 9, 10, 15, 16, 17] (by decide +kernel) (fun w _ fd => ?_); replace H := H.fr fd; clear fd
      (repeat first | refine goN ?_ | ((try conv => whnf); first | (refine Ar_gate ?_; first | (fail_if_success skip) | refine xA ?_) | (first | refine Do_str_eq ?_ | refine Do_str_ne ?_ | refine DoN_len tok rfl ?_ | refine Eqv_in ?_)) | ((try conv => whnf); (first | (refine St_gate ?_; refine xS ?_) | (refine StN_gate ?_; refine xN ?_)); clear H; intro w H))
      refine Ix_in 0 rfl (by omega) ?_
      refine LdN_src (H.rd hsrc0) (vs := [.int .i64 k.op, .int .i64 k.num, .string k.name, .slice k.at_ k.kids.length k.cap, .int .i64 k.line, .int .i64 k.col]) hrow rfl ?_
      (repeat first | refine goN ?_ | ((try conv => whnf); first | (refine Ar_gate ?_; first | (fail_if_success skip) | refine xA ?_) | (first | refine Do_str_eq ?_ | refine Do_str_ne ?_ | refine DoN_len tok rfl ?_ | refine Eqv_in ?_)) | ((try conv => whnf); (first | (refine St_gate ?_; refine xS ?_) | (refine StN_gate ?_; refine xN ?_)); clear H; intro w H))
      refine Ix_in 1 rfl (by omega) ?_
      refine LdN_src (H.rd hsrc0) (vs := [.int .i64 m.op, .int .i64 m.num, .string m.name, .slice m.at_ m.kids.length m.cap, .int .i64 m.line, .int .i64 m.col]) hrom rfl ?_
      (repeat first | refine goN ?_ | ((try conv => whnf); first | (refine Ar_gate ?_; first | (fail_if_success skip) | refine xA ?_) | (first | refine Do_str_eq ?_ | refine Do_str_ne ?_ | refine DoN_len tok rfl ?_ | refine Eqv_in ?_)) | ((try conv => whnf); (first | (refine St_gate ?_; refine xS ?_) | (refine StN_gate ?_; refine xN ?_)); clear H; intro w H))
      refine Call_of (hgo k hkm (l' := [_]) H) ?_
      clear H
      rintro _ w ⟨rfl, H⟩
      (repeat first | refine goN ?_ | ((try conv => whnf); first | (refine Ar_gate ?_; first | (fail_if_success skip) | refine xA ?_) | (first | refine Do_str_eq ?_ | refine Do_str_ne ?_ | refine DoN_len tok rfl ?_ | refine Eqv_in ?_)) | ((try conv => whnf); (first | (refine St_gate ?_; refine xS ?_) | (refine StN_gate ?_; refine xN ?_)); clear H; intro w H))
      (repeat (refine Kept_gate ?_; refine ⟨keepSrc (H.rd hsrc0) hrom rfl, ?_⟩; (repeat first | refine goN ?_ | ((try conv => whnf); first | (refine Ar_gate ?_; first | (fail_if_success skip) | refine xA ?_) | (first | refine Do_str_eq ?_ | refine Do_str_ne ?_ | refine DoN_len tok rfl ?_ | refine Eqv_in ?_)) | ((try conv => whnf); (first | (refine St_gate ?_; refine xS ?_) | (refine StN_gate ?_; refine xN ?_)); clear H; intro w H))))
      refine DoS_sadd (fun J1 hJ1 => ?_) (by (try simp only [ByteArray.size_append, byteSize, str_size, List.size_toArray, List.length_cons, List.length_nil]); omega)
      (repeat first | refine goN ?_ | ((try conv => whnf); first | (refine Ar_gate ?_; first | (fail_if_success skip) | refine xA ?_) | (first | refine Do_str_eq ?_ | refine Do_str_ne ?_ | refine DoN_len tok rfl ?_ | refine Eqv_in ?_)) | ((try conv => whnf); (first | (refine St_gate ?_; refine xS ?_) | (refine StN_gate ?_; refine xN ?_)); clear H; intro w H))
      refine Call_of (rSign x.op H) ?_
      clear H
      rintro _ w ⟨rfl, H⟩
      (repeat first | refine goN ?_ | ((try conv => whnf); first | (refine Ar_gate ?_; first | (fail_if_success skip) | refine xA ?_) | (first | refine Do_str_eq ?_ | refine Do_str_ne ?_ | refine DoN_len tok rfl ?_ | refine Eqv_in ?_)) | ((try conv => whnf); (first | (refine St_gate ?_; refine xS ?_) | (refine StN_gate ?_; refine xN ?_)); clear H; intro w H))
      (repeat (refine Kept_gate ?_; (first | refine ⟨keepSrc (H.rd hsrc0) hrom rfl, ?_⟩ | refine ⟨hJ1 _, ?_⟩); (repeat first | refine goN ?_ | ((try conv => whnf); first | (refine Ar_gate ?_; first | (fail_if_success skip) | refine xA ?_) | (first | refine Do_str_eq ?_ | refine Do_str_ne ?_ | refine DoN_len tok rfl ?_ | refine Eqv_in ?_)) | ((try conv => whnf); (first | (refine St_gate ?_; refine xS ?_) | (refine StN_gate ?_; refine xN ?_)); clear H; intro w H))))
      refine DoS_sadd (fun J2 hJ2 => ?_) (by (try simp only [ByteArray.size_append, byteSize, str_size, List.size_toArray, List.length_cons, List.length_nil]); omega)
      (repeat first | refine goN ?_ | ((try conv => whnf); first | (refine Ar_gate ?_; first | (fail_if_success skip) | refine xA ?_) | (first | refine Do_str_eq ?_ | refine Do_str_ne ?_ | refine DoN_len tok rfl ?_ | refine Eqv_in ?_)) | ((try conv => whnf); (first | (refine St_gate ?_; refine xS ?_) | (refine StN_gate ?_; refine xN ?_)); clear H; intro w H))
      (repeat (refine Kept_gate ?_; (first | refine ⟨keepSrc (H.rd hsrc0) hrom rfl, ?_⟩ | refine ⟨hJ1 _, ?_⟩ | refine ⟨hJ2 _, ?_⟩); (repeat first | refine goN ?_ | ((try conv => whnf); first | (refine Ar_gate ?_; first | (fail_if_success skip) | refine xA ?_) | (first | refine Do_str_eq ?_ | refine Do_str_ne ?_ | refine DoN_len tok rfl ?_ | refine Eqv_in ?_)) | ((try conv => whnf); (first | (refine St_gate ?_; refine xS ?_) | (refine StN_gate ?_; refine xN ?_)); clear H; intro w H))))
      refine DoS_sadd (fun J3 hJ3 => ?_) (by (try simp only [ByteArray.size_append, byteSize, str_size, List.size_toArray, List.length_cons, List.length_nil]); omega)
      (repeat first | refine goN ?_ | ((try conv => whnf); first | (refine Ar_gate ?_; first | (fail_if_success skip) | refine xA ?_) | (first | refine Do_str_eq ?_ | refine Do_str_ne ?_ | refine DoN_len tok rfl ?_ | refine Eqv_in ?_)) | ((try conv => whnf); (first | (refine St_gate ?_; refine xS ?_) | (refine StN_gate ?_; refine xN ?_)); clear H; intro w H))
      (repeat (refine Kept_gate ?_; (first | refine ⟨keepSrc (H.rd hsrc0) hrom rfl, ?_⟩ | refine ⟨hJ1 _, ?_⟩ | refine ⟨hJ2 _, ?_⟩ | refine ⟨hJ3 _, ?_⟩); (repeat first | refine goN ?_ | ((try conv => whnf); first | (refine Ar_gate ?_; first | (fail_if_success skip) | refine xA ?_) | (first | refine Do_str_eq ?_ | refine Do_str_ne ?_ | refine DoN_len tok rfl ?_ | refine Eqv_in ?_)) | ((try conv => whnf); (first | (refine St_gate ?_; refine xS ?_) | (refine StN_gate ?_; refine xN ?_)); clear H; intro w H))))
      refine Call_of (hgo m hmm (l' := [_]) H) ?_
      clear H
      rintro _ w ⟨rfl, H⟩
      (repeat first | refine goN ?_ | ((try conv => whnf); first | (refine Ar_gate ?_; first | (fail_if_success skip) | refine xA ?_) | (first | refine Do_str_eq ?_ | refine Do_str_ne ?_ | refine DoN_len tok rfl ?_ | refine Eqv_in ?_)) | ((try conv => whnf); (first | (refine St_gate ?_; refine xS ?_) | (refine StN_gate ?_; refine xN ?_)); clear H; intro w H))
      (repeat (refine Kept_gate ?_; (first | refine ⟨keepSrc (H.rd hsrc0) hrom rfl, ?_⟩ | refine ⟨hJ1 _, ?_⟩ | refine ⟨hJ2 _, ?_⟩ | refine ⟨hJ3 _, ?_⟩); (repeat first | refine goN ?_ | ((try conv => whnf); first | (refine Ar_gate ?_; first | (fail_if_success skip) | refine xA ?_) | (first | refine Do_str_eq ?_ | refine Do_str_ne ?_ | refine DoN_len tok rfl ?_ | refine Eqv_in ?_)) | ((try conv => whnf); (first | (refine St_gate ?_; refine xS ?_) | (refine StN_gate ?_; refine xN ?_)); clear H; intro w H))))
      refine DoS_sadd (fun J4 hJ4 => ?_) (by (try simp only [ByteArray.size_append, byteSize, str_size, List.size_toArray, List.length_cons, List.length_nil]); omega)
      (repeat first | refine goN ?_ | ((try conv => whnf); first | (refine Ar_gate ?_; first | (fail_if_success skip) | refine xA ?_) | (first | refine Do_str_eq ?_ | refine Do_str_ne ?_ | refine DoN_len tok rfl ?_ | refine Eqv_in ?_)) | ((try conv => whnf); (first | (refine St_gate ?_; refine xS ?_) | (refine StN_gate ?_; refine xN ?_)); clear H; intro w H))
      (repeat (refine Kept_gate ?_; (first | refine ⟨hJ1 _, ?_⟩ | refine ⟨hJ2 _, ?_⟩ | refine ⟨hJ3 _, ?_⟩ | refine ⟨hJ4 _, ?_⟩); (repeat first | refine goN ?_ | ((try conv => whnf); first | (refine Ar_gate ?_; first | (fail_if_success skip) | refine xA ?_) | (first | refine Do_str_eq ?_ | refine Do_str_ne ?_ | refine DoN_len tok rfl ?_ | refine Eqv_in ?_)) | ((try conv => whnf); (first | (refine St_gate ?_; refine xS ?_) | (refine StN_gate ?_; refine xN ?_)); clear H; intro w H))))
      exact Ret_in ⟨rfl, H.tail⟩
end
end Go.Proofs.YthpekiohalejmaaGreatDoor
