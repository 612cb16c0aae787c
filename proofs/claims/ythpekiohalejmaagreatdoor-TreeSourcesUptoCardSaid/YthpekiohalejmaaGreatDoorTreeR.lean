/- The law's function: an expression that can be has no part that can't. -/
import Derived.Test.YthpekiohalejmaaGreatDoorTreeP
set_option linter.unusedVariables false
set_option linter.unusedSimpArgs false
namespace Go.Tree
def pair (x y : Ex) (b : Addr) : Ex := .mk 27 0 ⟨#[]⟩ (some b) 2 0 0 [x, y]
section
variable {x y : Ex} {b : Addr} {itoa : Int → ByteArray}
theorem pair_size : size (pair x y b) = size x + size y + 1 := by
  rw [size_eq]
  show 1 + (size x + (size y + 0)) = _
  omega
theorem pair_bulk : bulk (pair x y b) = bulk x + bulk y + 7 := by
  rw [bulk_eq]
  show 7 + 0 + (bulk x + (bulk y + 0)) = _
  omega
theorem pair_depth : depth (pair x y b) = max (depth x) (depth y) + 1 := by
  rw [depth_eq]
  show max (depth x) (max (depth y) 0) + 1 = _
  omega
theorem pair_right (d : Int) (hd : 1 ≤ d) : rightB (pair x y b) d = (rightB x (d - 1) && rightB y (d - 1)) := by
  rw [right_eq, decide_eq_true hd]
  show (true && oneB (pair x y b) && (rightB x (d - 1) && (rightB y (d - 1) && true))) = _
  rw [show oneB (pair x y b) = true from rfl]
  simp
theorem pair_var : varB (pair x y b) = (varB x || varB y) := by
  rw [var_eq]
  show (false || (varB x || (varB y || false))) = _
  simp
theorem right_up {d : Int} (h : rightB x d = true) {e : Int} (he : d ≤ e) : rightB x e = true := by
  have := (right_iff x d).1 h
  exact (right_iff x e).2 ⟨this.1, by omega⟩
theorem pair_parts (h : rightB (pair x y b) 60 = true) : rightB x 60 = true ∧ rightB y 60 = true := by
  rw [pair_right 60 (by decide), Bool.and_eq_true] at h
  exact ⟨right_up h.1 (by decide), right_up h.2 (by decide)⟩
theorem pair_writ (h : writB (pair x y b) = true) : writB x = true ∧ writB y = true := by
  unfold writB at h ⊢
  rw [Bool.and_eq_true, pair_var] at h
  have h1 := pair_parts h.1
  rw [h1.1, h1.2]
  have h2 := h.2
  cases hx : varB x <;> cases hy : varB y <;> simp [hx, hy] at h2 ⊢
theorem pair_deep (h : writB (pair x y b) = false) (hx : writB x = true) (hy : writB y = true) : 60 < depth (pair x y b) := by
  unfold writB at h hx hy
  rw [Bool.and_eq_true] at hx hy
  rw [pair_var] at h
  have vx : varB x = false := by simpa using hx.2
  have vy : varB y = false := by simpa using hy.2
  rw [vx, vy] at h
  have h1 : rightB (pair x y b) 60 = false := by simpa using h
  have sx := ((right_iff x 60).1 hx.1).1
  have sy := ((right_iff y 60).1 hy.1).1
  have hsh : shapeB (pair x y b) = true := by
    rw [shape_eq]
    show (oneB (pair x y b) && (shapeB x && (shapeB y && true))) = true
    rw [sx, sy]; rfl
  apply Classical.byContradiction
  intro hc
  rw [(right_iff (pair x y b) 60).2 ⟨hsh, by omega⟩] at h1
  cases h1
theorem pair_text : textB itoa (pair x y b) = inn x (textB itoa x) ++ str [32] ++ signB 27 ++ str [32] ++ inn y (textB itoa y) := by
  rw [text_eq]
  rfl
theorem right_kid (h : rightB x 60 = true) {k : Ex} (hk : k ∈ x.kids) : rightB k 60 = true := by
  rw [right_eq] at h
  simp only [Bool.and_eq_true, List.all_eq_true] at h
  exact right_up (h.2 k hk) (by decide)
theorem kid_same {k : Ex} (hk : k ∈ x.kids) : sameB k x = false := by
  rw [Bool.eq_false_iff]
  intro h
  have := same_size _ _ h
  have := size_kid hk
  omega
theorem most_append (l : List Nat) (n : Nat) : most (l ++ [n]) = max (most l) n := by
  unfold most
  induction l with
  | nil => simp
  | cons x l ih => rw [List.cons_append, List.foldr_cons, ih, List.foldr_cons]; omega
theorem depth_bulk (x : Ex) : depth x ≤ bulk x := by
  induction x using Ex.ind with
  | h x ih =>
    rw [depth_eq, bulk_eq]
    have : most (x.kids.map depth) ≤ (x.kids.map bulk).sum := most_le fun m hm => by
      obtain ⟨k, hk, rfl⟩ := List.mem_map.1 hm
      have := ih k hk
      have := mem_sum (f := bulk) hk
      omega
    omega
end
end Go.Tree
namespace Go.Proofs.YthpekiohalejmaaGreatDoor
open Go Go.Vc Go.Tree
set_option maxHeartbeats 4000000
set_option maxRecDepth 100000
theorem Eqv_max2 {a b : Nat} {K : Int → Prop} (hk : K ((max a b : Nat) : Int)) : Eqv (max (a : Int) (b : Int)) K :=
  Eqv_is ((max a b : Nat) : Int) (by omega) hk
section
variable {w0 w : World} {l : List Res}
theorem rDeep (x : Ex) : ∀ {w : World} {l : List Res} (H : Sep w0 w l) (hs : ∀ {w' : World} {l' : List Res}, Sep w0 w' (l' ++ l) → TOk w' x) (hb : bulk x ≤ 10000000),
    Does Tryz.prog 102 #[exA x] w fun v w' => v = .int .i64 (depth x : Int) ∧ Sep w0 w' l := by
  induction x using Ex.ind with
  | h x ih =>
    intro w l H hs hb
    refine Does_intro tok (Tryz.call102 _ _) Tryz.func102 rfl (by rfl) ?_
    have hkl := kids_bulk x
    have hde := depth_eq x
    have hdb := depth_bulk x
    (repeat first | refine goN ?_ | ((try conv => whnf); first | (refine Ar_gate ?_; first | (fail_if_success skip) | refine xA ?_) | (first | refine Do_str_eq ?_ | refine Do_str_ne ?_ | refine DoN_len tok rfl ?_ | refine Eqv_max2 ?_ | refine Eqv_in ?_)) | ((try conv => whnf); (first | (refine St_gate ?_; refine xS ?_) | (refine StN_gate ?_; refine xN ?_)); clear H; intro w H))
    (refine Nw_sep H ?_; clear H; intro xb w H; (try simp only [Value.cells, List.toList_toArray, List.append_nil, List.cons_append, List.nil_append] at H))
    (repeat first | refine goN ?_ | ((try conv => whnf); first | (refine Ar_gate ?_; first | (fail_if_success skip) | refine xA ?_) | (first | refine Do_str_eq ?_ | refine Do_str_ne ?_ | refine DoN_len tok rfl ?_ | refine Eqv_max2 ?_ | refine Eqv_in ?_)) | ((try conv => whnf); (first | (refine St_gate ?_; refine xS ?_) | (refine StN_gate ?_; refine xN ?_)); clear H; intro w H))
    refine Loop_intro (fun i : Nat => [(9, .int .i64 (i : Int)), (3, .int .i64 ((most ((x.kids.take i).map depth) : Nat) : Int))]) (fun i w => i ≤ x.kids.length ∧ Sep w0 w (cellsR xb 36 (exV x) :: l)) (fun i => x.kids.length - i)
      0 ⟨rfl, rfl, trivial⟩ ⟨Nat.zero_le _, H⟩ ?_
    clear H
    rintro i w ⟨hi, H⟩
    refine Br_dec (fun k1 => ?_) (fun k1 => ?_)
    · have hlt : i < x.kids.length := by omega
      have hok := TOk_iff.1 (hs (l' := [_]) H)
      obtain ⟨b, o, ho⟩ := hok.1.addr (by rw [rowLen exV_len]; omega)
      have hx : x.kids[i]? = some x.kids[i] := List.getElem?_eq_getElem hlt
      have htk : (x.kids.take (i + 1)).map depth = (x.kids.take i).map depth ++ [depth x.kids[i]] := by rw [List.take_add_one, hx, List.map_append]; rfl
      have hmem := List.getElem_mem hlt
      have hrow := rowPart (f := exV) (sz := 6) exV_len hx
      generalize x.kids[i] = k at *
      have hsrc := hok.1
      rw [ho] at hsrc ⊢
      refine Ix_in i rfl hlt ?_
      refine LdN_src hsrc (vs := [.int .i64 k.op, .int .i64 k.num, .string k.name, .slice k.at_ k.kids.length k.cap, .int .i64 k.line, .int .i64 k.col]) hrow rfl ?_
      (repeat first | refine goN ?_ | ((try conv => whnf); first | (refine Ar_gate ?_; first | (fail_if_success skip) | refine xA ?_) | (first | refine Do_str_eq ?_ | refine Do_str_ne ?_ | refine DoN_len tok rfl ?_ | refine Eqv_max2 ?_ | refine Eqv_in ?_)) | ((try conv => whnf); (first | (refine St_gate ?_; refine xS ?_) | (refine StN_gate ?_; refine xN ?_)); clear H; intro w H))
      (refine Nw_sep H ?_; clear H; intro kb w H; (try simp only [Value.cells, List.toList_toArray, List.append_nil, List.cons_append, List.nil_append] at H))
      (repeat first | refine goN ?_ | ((try conv => whnf); first | (refine Ar_gate ?_; first | (fail_if_success skip) | refine xA ?_) | (first | refine Do_str_eq ?_ | refine Do_str_ne ?_ | refine DoN_len tok rfl ?_ | refine Eqv_max2 ?_ | refine Eqv_in ?_)) | ((try conv => whnf); (first | (refine St_gate ?_; refine xS ?_) | (refine StN_gate ?_; refine xN ?_)); clear H; intro w H))
      have hbk := bulk_kid hmem
      refine Call_of (ih k hmem H (fun {w'} {l'} h => (TOk_iff.1 (hs (l' := l' ++ [_, _]) (by simpa using h))).2 k hmem) (by omega)) ?_
      clear H
      rintro _ w ⟨rfl, H⟩
      (repeat first | refine goN ?_ | ((try conv => whnf); first | (refine Ar_gate ?_; first | (fail_if_success skip) | refine xA ?_) | (first | refine Do_str_eq ?_ | refine Do_str_ne ?_ | refine DoN_len tok rfl ?_ | refine Eqv_max2 ?_ | refine Eqv_in ?_)) | ((try conv => whnf); (first | (refine St_gate ?_; refine xS ?_) | (refine StN_gate ?_; refine xN ?_)); clear H; intro w H))
      refine ⟨i + 1, ⟨congrArg some (vint (by omega)), congrArg some (vint ?_), trivial⟩, ⟨by omega, H.tail⟩, by omega⟩
      rw [htk, most_append]
    · obtain rfl : i = x.kids.length := by omega
      rw [List.take_length]
      (repeat first | refine goN ?_ | ((try conv => whnf); first | (refine Ar_gate ?_; first | (fail_if_success skip) | refine xA ?_) | (first | refine Do_str_eq ?_ | refine Do_str_ne ?_ | refine DoN_len tok rfl ?_ | refine Eqv_max2 ?_ | refine Eqv_in ?_)) | ((try conv => whnf); (first | (refine St_gate ?_; refine xS ?_) | (refine StN_gate ?_; refine xN ?_)); clear H; intro w H))
      exact Ret_in ⟨by rw [hde]; rfl, H.tail⟩
theorem TOk.pair {w : World} {x y : Ex} {b o : Nat} (hx : TOk w x) (hy : TOk w y) (hs : Src w (some ⟨b, o, none⟩) 2 6 (exV x ++ exV y)) : TOk w (pair x y ⟨b, o, none⟩) :=
  TOk_iff.2 ⟨hs, fun k hk => by
    simp only [Go.Tree.pair, Ex.kids, List.mem_cons, List.not_mem_nil, or_false] at hk
    rcases hk with rfl | rfl
    · exact hx
    · exact hy⟩
end
end Go.Proofs.YthpekiohalejmaaGreatDoor
