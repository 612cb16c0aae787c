/- The document's answer: are two models the same? -/
import Derived.Test.YthpekiohalejmaaGreatDoorTreeV
set_option linter.unusedVariables false
set_option linter.unusedSimpArgs false
namespace Go.Tree
theorem allZ_no {α β : Type} {f : α → β → Bool} {xs : List α} {ys : List β} {i : Nat} {x : α} {y : β} (hx : xs[i]? = some x) (hy : ys[i]? = some y) (h : f x y = false) : allZ (xs.map f) ys = false := by
  rw [Bool.eq_false_iff]
  intro hc
  have := (allZ_iff.1 hc).2 i x y hx hy
  rw [h] at this; cases this
theorem allZ_ne {α β : Type} {f : α → β → Bool} {xs : List α} {ys : List β} (h : ¬ xs.length = ys.length) : allZ (xs.map f) ys = false := by
  rw [Bool.eq_false_iff]
  intro hc
  exact h (allZ_iff.1 hc).1
theorem allZ_up {α β : Type} {f : α → β → Bool} {xs : List α} {ys : List β} {n : Nat} {x : α} {y : β} (hx : xs[n]? = some x) (hy : ys[n]? = some y) (h : f x y = true) (ha : ∀ (j : Nat) x y, j < n → xs[j]? = some x → ys[j]? = some y → f x y = true) :
    ∀ (j : Nat) x y, j < n + 1 → xs[j]? = some x → ys[j]? = some y → f x y = true := fun j u v hj hu hv => by
  rcases Nat.lt_or_ge j n with h' | h'
  · exact ha j u v h' hu hv
  · obtain rfl : j = n := by omega
    rw [hx] at hu; rw [hy] at hv
    cases hu; cases hv; exact h
theorem allZ_all {α β : Type} {f : α → β → Bool} {xs : List α} {ys : List β} (hl : xs.length = ys.length) (ha : ∀ (j : Nat) x y, j < xs.length → xs[j]? = some x → ys[j]? = some y → f x y = true) : allZ (xs.map f) ys = true :=
  allZ_iff.2 ⟨hl, fun j x y hx hy => ha j x y (List.getElem?_eq_some_iff.1 hx).1 hx hy⟩
end Go.Tree
namespace Go.Proofs.YthpekiohalejmaaGreatDoor
open Go Go.Vc Go.Tree
set_option maxHeartbeats 40000000
set_option maxRecDepth 100000
theorem rowSub {xs ys : List Value} {a s r n : Nat} (h : (xs.drop a).take s = ys) (hr : r + n ≤ s) : (xs.drop (a + r)).take n = (ys.drop r).take n := by
  subst h
  rw [List.drop_take, List.drop_drop, List.take_take, Nat.min_eq_left (by omega)]
theorem keepOne {w : World} {b o n sz j : Nat} {xs : List Value} {v : Value} (h : Src w (some ⟨b, o, none⟩) n sz xs) (hv : xs[j]? = some v) : w.cell? ⟨b, o + j, none⟩ = some v := by
  have := h.cell hv
  rw [add_mk] at this
  exact this
section
variable {w0 w : World} {l : List Res}
theorem dSame (x : Ex) : ∀ (y : Ex) {w : World} {l : List Res} (H : Sep w0 w l) (hs : TOk w0 x) (ht : TOk w0 y) (hb : bulk x ≤ 2000000) (hc : bulk y ≤ 2000000),
    Does Tryz.prog 36 #[exA x, exA y] w fun v w' => v = .bool (sameB x y) ∧ Sep w0 w' l := by
  induction x using Ex.ind with
  | h x ih =>
    intro y w l H hs ht hb hc
    refine Does_intro tok (Tryz.call36 _ _) Tryz.func36 rfl (by rfl) ?_
    have hkl := kids_bulk x
    have hkl2 := kids_bulk y
    have hox := TOk_iff.1 hs
    have hoy := TOk_iff.1 ht
    rw [same_eq]
    (repeat first | refine goN ?_ | ((try conv => whnf); first | (refine Ar_gate ?_; first | (fail_if_success skip) | refine xA ?_) | (first | refine Do_str_eq ?_ | refine Do_str_ne ?_ | refine DoN_len tok rfl ?_ | refine Eqv_in ?_)) | ((try conv => whnf); (first | (refine St_gate ?_; refine xS ?_) | (refine StN_gate ?_; refine xN ?_)); clear H; intro w H))
    (refine Nw_sep H ?_; clear H; intro xb w H; (try simp only [Value.cells, List.toList_toArray, List.append_nil, List.cons_append, List.nil_append] at H))
    (repeat first | refine goN ?_ | ((try conv => whnf); first | (refine Ar_gate ?_; first | (fail_if_success skip) | refine xA ?_) | (first | refine Do_str_eq ?_ | refine Do_str_ne ?_ | refine DoN_len tok rfl ?_ | refine Eqv_in ?_)) | ((try conv => whnf); (first | (refine St_gate ?_; refine xS ?_) | (refine StN_gate ?_; refine xN ?_)); clear H; intro w H))
    (refine Nw_sep H ?_; clear H; intro yb w H; (try simp only [Value.cells, List.toList_toArray, List.append_nil, List.cons_append, List.nil_append] at H))
    (repeat first | refine goN ?_ | ((try conv => whnf); first | (refine Ar_gate ?_; first | (fail_if_success skip) | refine xA ?_) | (first | refine Do_str_eq ?_ | refine Do_str_ne ?_ | refine DoN_len tok rfl ?_ | refine Eqv_in ?_)) | ((try conv => whnf); (first | (refine St_gate ?_; refine xS ?_) | (refine StN_gate ?_; refine xN ?_)); clear H; intro w H))
    by_cases h1 : x.op = y.op
    case neg =>
      (repeat first | refine goN ?_ | ((try conv => whnf); first | (refine Ar_gate ?_; first | (fail_if_success skip) | refine xA ?_) | (first | refine Do_str_eq ?_ | refine Do_str_ne ?_ | refine DoN_len tok rfl ?_ | refine Eqv_in ?_)) | ((try conv => whnf); (first | (refine St_gate ?_; refine xS ?_) | (refine StN_gate ?_; refine xN ?_)); clear H; intro w H))
      exact Ret_in ⟨by simp [h1]; rfl, H.tail.tail⟩
    by_cases h2 : x.num = y.num
    case neg =>
      (repeat first | refine goN ?_ | ((try conv => whnf); first | (refine Ar_gate ?_; first | (fail_if_success skip) | refine xA ?_) | (first | refine Do_str_eq ?_ | refine Do_str_ne ?_ | refine DoN_len tok rfl ?_ | refine Eqv_in ?_)) | ((try conv => whnf); (first | (refine St_gate ?_; refine xS ?_) | (refine StN_gate ?_; refine xN ?_)); clear H; intro w H))
      exact Ret_in ⟨by simp [h2]; rfl, H.tail.tail⟩
    by_cases h3 : x.name = y.name
    case neg =>
      (repeat first | refine goN ?_ | ((try conv => whnf); first | (refine Ar_gate ?_; first | (fail_if_success skip) | refine xA ?_) | (first | refine Do_str_eq ?_ | refine Do_str_ne ?_ | refine DoN_len tok rfl ?_ | refine Eqv_in ?_)) | ((try conv => whnf); (first | (refine St_gate ?_; refine xS ?_) | (refine StN_gate ?_; refine xN ?_)); clear H; intro w H))
      exact Ret_in ⟨by simp [h3]; rfl, H.tail.tail⟩
    rw [decide_eq_true h1, decide_eq_true h2, decide_eq_true h3]
    by_cases h4 : x.kids.length = y.kids.length
    case neg =>
      rw [allZ_ne h4]
      (repeat first | refine goN ?_ | ((try conv => whnf); first | (refine Ar_gate ?_; first | (fail_if_success skip) | refine xA ?_) | (first | refine Do_str_eq ?_ | refine Do_str_ne ?_ | refine DoN_len tok rfl ?_ | refine Eqv_in ?_)) | ((try conv => whnf); (first | (refine St_gate ?_; refine xS ?_) | (refine StN_gate ?_; refine xN ?_)); clear H; intro w H))
      exact Ret_in ⟨rfl, H.tail.tail⟩
    (repeat first | refine goN ?_ | ((try conv => whnf); first | (refine Ar_gate ?_; first | (fail_if_success skip) | refine xA ?_) | (first | refine Do_str_eq ?_ | refine Do_str_ne ?_ | refine DoN_len tok rfl ?_ | refine Eqv_in ?_)) | ((try conv => whnf); (first | (refine St_gate ?_; refine xS ?_) | (refine StN_gate ?_; refine xN ?_)); clear H; intro w H))
    refine Loop_intro (fun i : Nat => [(37, .int .i64 (i : Int))]) (fun i w => (i ≤ x.kids.length ∧ ∀ (j : Nat) u v, j < i → x.kids[j]? = some u → y.kids[j]? = some v → sameB u v = true) ∧ Sep w0 w (cellsR yb 36 (exV y) :: cellsR xb 36 (exV x) :: l)) (fun i => x.kids.length - i)
      0 ⟨rfl, trivial⟩ ⟨⟨Nat.zero_le _, fun j u v h => by omega⟩, H⟩ ?_
    clear H
    rintro i w ⟨⟨hi, hall⟩, H⟩
    refine Br_dec (fun k1 => ?_) (fun k1 => ?_)
    · have hlt : i < x.kids.length := by omega
      have hlt2 : i < y.kids.length := by omega
      obtain ⟨k, hx⟩ : ∃ u, x.kids[i]? = some u := ⟨_, List.getElem?_eq_getElem hlt⟩
      obtain ⟨m, hy⟩ : ∃ u, y.kids[i]? = some u := ⟨_, List.getElem?_eq_getElem hlt2⟩
      have hmx := List.mem_of_getElem? hx
      have hmy := List.mem_of_getElem? hy
      have hrx := rowPart (f := exV) (sz := 6) exV_len hx
      have hry := rowPart (f := exV) (sz := 6) exV_len hy
      have s1 := hox.1
      have s2 := hoy.1
      obtain ⟨ba, oa, ha⟩ := s1.addr (by rw [rowLen exV_len]; omega)
      obtain ⟨bb, ob, hb'⟩ := s2.addr (by rw [rowLen exV_len]; omega)
      rw [ha] at s1
      rw [hb'] at s2
      (repeat first | refine goN ?_ | ((try conv => whnf); first | (refine Ar_gate ?_; first | (fail_if_success skip) | refine xA ?_) | (first | refine Do_str_eq ?_ | refine Do_str_ne ?_ | refine DoN_len tok rfl ?_ | refine Eqv_in ?_)) | ((try conv => whnf); (first | (refine St_gate ?_; refine xS ?_) | (refine StN_gate ?_; refine xN ?_)); clear H; intro w H))
      refine Draw_intro mixed [0, 1, 2, 3, 4, 5, 6, 7, 8, 9, 10, 11] (by decide +kernel) (fun w _ fd => ?_); replace H := H.fr fd; clear fd
      (repeat first | refine goN ?_ | ((try conv => whnf); first | (refine Ar_gate ?_; first | (fail_if_success skip) | refine xA ?_) | (first | refine Do_str_eq ?_ | refine Do_str_ne ?_ | refine DoN_len tok rfl ?_ | refine Eqv_in ?_)) | ((try conv => whnf); (first | (refine St_gate ?_; refine xS ?_) | (refine StN_gate ?_; refine xN ?_)); clear H; intro w H))
      rw [ha]
      refine Ix_in i rfl hlt ?_
      refine LdN_src (H.rd s1) (vs := [.int .i64 k.op, .int .i64 k.num, .string k.name, .slice k.at_ k.kids.length k.cap, .int .i64 k.line, .int .i64 k.col]) hrx rfl ?_
      (repeat first | refine goN ?_ | ((try conv => whnf); first | (refine Ar_gate ?_; first | (fail_if_success skip) | refine xA ?_) | (first | refine Do_str_eq ?_ | refine Do_str_ne ?_ | refine DoN_len tok rfl ?_ | refine Eqv_in ?_)) | ((try conv => whnf); (first | (refine St_gate ?_; refine xS ?_) | (refine StN_gate ?_; refine xN ?_)); clear H; intro w H))
      rw [hb']
      refine Ix_in i rfl hlt2 ?_
      refine LdN_src (H.rd s2) (vs := [.int .i64 m.op, .int .i64 m.num, .string m.name, .slice m.at_ m.kids.length m.cap, .int .i64 m.line, .int .i64 m.col]) hry rfl ?_
      (repeat first | refine goN ?_ | ((try conv => whnf); first | (refine Ar_gate ?_; first | (fail_if_success skip) | refine xA ?_) | (first | refine Do_str_eq ?_ | refine Do_str_ne ?_ | refine DoN_len tok rfl ?_ | refine Eqv_in ?_)) | ((try conv => whnf); (first | (refine St_gate ?_; refine xS ?_) | (refine StN_gate ?_; refine xN ?_)); clear H; intro w H))
      have hbk := bulk_kid hmx
      have hbm := bulk_kid hmy
      refine Call_of (ih k hmx m H (hox.2 k hmx) (hoy.2 m hmy) (by omega) (by omega)) ?_
      clear H
      rintro _ w ⟨rfl, H⟩
      cases hv : sameB k m with
      | false =>
        rw [allZ_no hx hy hv]
        (repeat first | refine goN ?_ | ((try conv => whnf); first | (refine Ar_gate ?_; first | (fail_if_success skip) | refine xA ?_) | (first | refine Do_str_eq ?_ | refine Do_str_ne ?_ | refine DoN_len tok rfl ?_ | refine Eqv_in ?_)) | ((try conv => whnf); (first | (refine St_gate ?_; refine xS ?_) | (refine StN_gate ?_; refine xN ?_)); clear H; intro w H))
        (repeat (refine Kept_gate ?_; (first | refine xK ?_ | refine ⟨keepSrc (H.rd s1) hrx rfl, ?_⟩ | refine ⟨keepSrc (H.rd s2) hry rfl, ?_⟩ | refine ⟨by (try show _ = _); rw [← hb']; exact Sep.cellAt H (by repeat first | exact List.Mem.head _ | refine List.Mem.tail _ ?_) rfl, ?_⟩ | refine ⟨by (try show _ = _); rw [← ha]; exact Sep.cellAt H (by repeat first | exact List.Mem.head _ | refine List.Mem.tail _ ?_) rfl, ?_⟩); (repeat first | refine goN ?_ | ((try conv => whnf); first | (refine Ar_gate ?_; first | (fail_if_success skip) | refine xA ?_) | (first | refine Do_str_eq ?_ | refine Do_str_ne ?_ | refine DoN_len tok rfl ?_ | refine Eqv_in ?_)) | ((try conv => whnf); (first | (refine St_gate ?_; refine xS ?_) | (refine StN_gate ?_; refine xN ?_)); clear H; intro w H))))
        exact Ret_in ⟨rfl, H.tail.tail⟩
      | true =>
        (repeat first | refine goN ?_ | ((try conv => whnf); first | (refine Ar_gate ?_; first | (fail_if_success skip) | refine xA ?_) | (first | refine Do_str_eq ?_ | refine Do_str_ne ?_ | refine DoN_len tok rfl ?_ | refine Eqv_in ?_)) | ((try conv => whnf); (first | (refine St_gate ?_; refine xS ?_) | (refine StN_gate ?_; refine xN ?_)); clear H; intro w H))
        (repeat (refine Kept_gate ?_; (first | refine xK ?_ | refine ⟨keepSrc (H.rd s1) hrx rfl, ?_⟩ | refine ⟨keepSrc (H.rd s2) hry rfl, ?_⟩ | refine ⟨by (try show _ = _); rw [← hb']; exact Sep.cellAt H (by repeat first | exact List.Mem.head _ | refine List.Mem.tail _ ?_) rfl, ?_⟩ | refine ⟨by (try show _ = _); rw [← ha]; exact Sep.cellAt H (by repeat first | exact List.Mem.head _ | refine List.Mem.tail _ ?_) rfl, ?_⟩); (repeat first | refine goN ?_ | ((try conv => whnf); first | (refine Ar_gate ?_; first | (fail_if_success skip) | refine xA ?_) | (first | refine Do_str_eq ?_ | refine Do_str_ne ?_ | refine DoN_len tok rfl ?_ | refine Eqv_in ?_)) | ((try conv => whnf); (first | (refine St_gate ?_; refine xS ?_) | (refine StN_gate ?_; refine xN ?_)); clear H; intro w H))))
        exact ⟨i + 1, ⟨congrArg some (vint (by omega)), trivial⟩, ⟨⟨by omega, allZ_up hx hy hv hall⟩, H⟩, by omega⟩
    · obtain rfl : i = x.kids.length := by omega
      rw [allZ_all h4 hall]
      (repeat first | refine goN ?_ | ((try conv => whnf); first | (refine Ar_gate ?_; first | (fail_if_success skip) | refine xA ?_) | (first | refine Do_str_eq ?_ | refine Do_str_ne ?_ | refine DoN_len tok rfl ?_ | refine Eqv_in ?_)) | ((try conv => whnf); (first | (refine St_gate ?_; refine xS ?_) | (refine StN_gate ?_; refine xN ?_)); clear H; intro w H))
      exact Ret_in ⟨rfl, H.tail.tail⟩
theorem dSameAs {xs ys : List As} {a b : Option Addr} {c d : Nat} (H : Sep w0 w l) (hs : Src w0 a xs.length 9 (xs.flatMap asV)) (ht : Src w0 b ys.length 9 (ys.flatMap asV)) (hm : xs.length ≤ 10000000) (hn : ys.length ≤ 10000000)
    (hf : ∀ x ∈ xs, TOk w0 x.to ∧ bulk x.to ≤ 2000000) (hg : ∀ x ∈ ys, TOk w0 x.to ∧ bulk x.to ≤ 2000000) :
    Does Tryz.prog 37 #[.slice a xs.length c, .slice b ys.length d] w fun v w' => v = .bool (allZ (xs.map sameAs) ys) ∧ Sep w0 w' l := by
  refine Does_intro tok (Tryz.call37 _ _) Tryz.func37 rfl (by rfl) ?_
  by_cases h4 : xs.length = ys.length
  case neg =>
    rw [allZ_ne h4]
    (repeat first | refine goN ?_ | ((try conv => whnf); first | (refine Ar_gate ?_; first | (fail_if_success skip) | refine xA ?_) | (first | refine Do_str_eq ?_ | refine Do_str_ne ?_ | refine DoN_len tok rfl ?_ | refine Eqv_in ?_)) | ((try conv => whnf); (first | (refine St_gate ?_; refine xS ?_) | (refine StN_gate ?_; refine xN ?_)); clear H; intro w H))
    exact Ret_in ⟨rfl, H⟩
  (repeat first | refine goN ?_ | ((try conv => whnf); first | (refine Ar_gate ?_; first | (fail_if_success skip) | refine xA ?_) | (first | refine Do_str_eq ?_ | refine Do_str_ne ?_ | refine DoN_len tok rfl ?_ | refine Eqv_in ?_)) | ((try conv => whnf); (first | (refine St_gate ?_; refine xS ?_) | (refine StN_gate ?_; refine xN ?_)); clear H; intro w H))
  refine Loop_intro (fun i : Nat => [(13, .int .i64 (i : Int))]) (fun i w => (i ≤ xs.length ∧ ∀ (j : Nat) u v, j < i → xs[j]? = some u → ys[j]? = some v → sameAs u v = true) ∧ Sep w0 w l) (fun i => xs.length - i)
    0 ⟨rfl, trivial⟩ ⟨⟨Nat.zero_le _, fun j u v h => by omega⟩, H⟩ ?_
  clear H
  rintro i w ⟨⟨hi, hall⟩, H⟩
  refine Br_dec (fun k1 => ?_) (fun k1 => ?_)
  · have hlt : i < xs.length := by omega
    have hlt2 : i < ys.length := by omega
    obtain ⟨k, hx⟩ : ∃ u, xs[i]? = some u := ⟨_, List.getElem?_eq_getElem hlt⟩
    obtain ⟨m, hy⟩ : ∃ u, ys[i]? = some u := ⟨_, List.getElem?_eq_getElem hlt2⟩
    have hmx := List.mem_of_getElem? hx
    have hmy := List.mem_of_getElem? hy
    have hrx := rowPart (f := asV) (sz := 9) asV_len hx
    have hry := rowPart (f := asV) (sz := 9) asV_len hy
    have s1 := hs
    have s2 := ht
    obtain ⟨ba, oa, ha⟩ := s1.addr (by rw [rowLen asV_len]; omega)
    obtain ⟨bb, ob, hb'⟩ := s2.addr (by rw [rowLen asV_len]; omega)
    rw [ha] at s1
    rw [hb'] at s2
    subst ha hb'
    (repeat first | refine goN ?_ | ((try conv => whnf); first | (refine Ar_gate ?_; first | (fail_if_success skip) | refine xA ?_) | (first | refine Do_str_eq ?_ | refine Do_str_ne ?_ | refine DoN_len tok rfl ?_ | refine Eqv_in ?_)) | ((try conv => whnf); (first | (refine St_gate ?_; refine xS ?_) | (refine StN_gate ?_; refine xN ?_)); clear H; intro w H))
    refine Draw_intro mixed [0, 1, 2, 3, 4, 5, 6, 7, 8, 9, 10, 11, 12, 13, 14, 15, 16, 17, 18, 19, 20, 21, 22, 23, 24] (by decide +kernel) (fun w _ fd => ?_); replace H := H.fr fd; clear fd
    (repeat first | refine goN ?_ | ((try conv => whnf); first | (refine Ar_gate ?_; first | (fail_if_success skip) | refine xA ?_) | (first | refine Do_str_eq ?_ | refine Do_str_ne ?_ | refine DoN_len tok rfl ?_ | refine Eqv_in ?_)) | ((try conv => whnf); (first | (refine St_gate ?_; refine xS ?_) | (refine StN_gate ?_; refine xN ?_)); clear H; intro w H))
    refine Ix_in i rfl hlt ?_
    conv => whnf
    refine Ld_src (j := i * 9 + 0) (H.rd s1) (rowGet asV_len hx (by decide : 0 < 9)) ?_
    (repeat first | refine goN ?_ | ((try conv => whnf); first | (refine Ar_gate ?_; first | (fail_if_success skip) | refine xA ?_) | (first | refine Do_str_eq ?_ | refine Do_str_ne ?_ | refine DoN_len tok rfl ?_ | refine Eqv_in ?_)) | ((try conv => whnf); (first | (refine St_gate ?_; refine xS ?_) | (refine StN_gate ?_; refine xN ?_)); clear H; intro w H))
    refine Ix_in i rfl hlt2 ?_
    conv => whnf
    refine Ld_src (j := i * 9 + 0) (H.rd s2) (rowGet asV_len hy (by decide : 0 < 9)) ?_
    (repeat first | refine goN ?_ | ((try conv => whnf); first | (refine Ar_gate ?_; first | (fail_if_success skip) | refine xA ?_) | (first | refine Do_str_eq ?_ | refine Do_str_ne ?_ | refine DoN_len tok rfl ?_ | refine Eqv_in ?_)) | ((try conv => whnf); (first | (refine St_gate ?_; refine xS ?_) | (refine StN_gate ?_; refine xN ?_)); clear H; intro w H))
    refine DoS_sne (fun J1 hJ1 => ?_)
    (repeat first | refine goN ?_ | ((try conv => whnf); first | (refine Ar_gate ?_; first | (fail_if_success skip) | refine xA ?_) | (first | refine Do_str_eq ?_ | refine Do_str_ne ?_ | refine DoN_len tok rfl ?_ | refine Eqv_in ?_)) | ((try conv => whnf); (first | (refine St_gate ?_; refine xS ?_) | (refine StN_gate ?_; refine xN ?_)); clear H; intro w H))
    by_cases h3 : k.name = m.name
    case neg =>
      have hv : sameAs k m = false := by unfold sameAs; rw [decide_eq_false h3]; rfl
      rw [allZ_no hx hy hv]
      (repeat first | refine goN ?_ | ((try conv => whnf); first | (refine Ar_gate ?_; first | (fail_if_success skip) | refine xA ?_) | (first | refine Do_str_eq ?_ | refine Do_str_ne ?_ | refine DoN_len tok rfl ?_ | refine Eqv_in ?_)) | ((try conv => whnf); (first | (refine St_gate ?_; refine xS ?_) | (refine StN_gate ?_; refine xN ?_)); clear H; intro w H))
      (repeat (refine Kept_gate ?_; (first | refine xK ?_ | refine ⟨keepOne (j := i * 9 + 0) (H.rd s1) (rowGet asV_len hx (by decide : 0 < 9)), ?_⟩ | refine ⟨keepOne (j := i * 9 + 0) (H.rd s2) (rowGet asV_len hy (by decide : 0 < 9)), ?_⟩ | refine ⟨keepSrc (j := i * 9 + 1) (H.rd s1) (rowSub (r := 1) (n := 6) hrx (by decide)) rfl, ?_⟩ | refine ⟨keepSrc (j := i * 9 + 1) (H.rd s2) (rowSub (r := 1) (n := 6) hry (by decide)) rfl, ?_⟩ | refine ⟨hJ1 _, ?_⟩); (repeat first | refine goN ?_ | ((try conv => whnf); first | (refine Ar_gate ?_; first | (fail_if_success skip) | refine xA ?_) | (first | refine Do_str_eq ?_ | refine Do_str_ne ?_ | refine DoN_len tok rfl ?_ | refine Eqv_in ?_)) | ((try conv => whnf); (first | (refine St_gate ?_; refine xS ?_) | (refine StN_gate ?_; refine xN ?_)); clear H; intro w H))))
      exact Ret_in ⟨rfl, H⟩
    (repeat first | refine goN ?_ | ((try conv => whnf); first | (refine Ar_gate ?_; first | (fail_if_success skip) | refine xA ?_) | (first | refine Do_str_eq ?_ | refine Do_str_ne ?_ | refine DoN_len tok rfl ?_ | refine Eqv_in ?_)) | ((try conv => whnf); (first | (refine St_gate ?_; refine xS ?_) | (refine StN_gate ?_; refine xN ?_)); clear H; intro w H))
    refine Ix_in i rfl hlt ?_
    (repeat first | refine goN ?_ | ((try conv => whnf); first | (refine Ar_gate ?_; first | (fail_if_success skip) | refine xA ?_) | (first | refine Do_str_eq ?_ | refine Do_str_ne ?_ | refine DoN_len tok rfl ?_ | refine Eqv_in ?_)) | ((try conv => whnf); (first | (refine St_gate ?_; refine xS ?_) | (refine StN_gate ?_; refine xN ?_)); clear H; intro w H))
    refine LdN_src (j := i * 9 + 1) (H.rd s1) (vs := [.int .i64 k.to.op, .int .i64 k.to.num, .string k.to.name, .slice k.to.at_ k.to.kids.length k.to.cap, .int .i64 k.to.line, .int .i64 k.to.col]) (rowSub (r := 1) (n := 6) hrx (by decide)) rfl ?_
    (repeat first | refine goN ?_ | ((try conv => whnf); first | (refine Ar_gate ?_; first | (fail_if_success skip) | refine xA ?_) | (first | refine Do_str_eq ?_ | refine Do_str_ne ?_ | refine DoN_len tok rfl ?_ | refine Eqv_in ?_)) | ((try conv => whnf); (first | (refine St_gate ?_; refine xS ?_) | (refine StN_gate ?_; refine xN ?_)); clear H; intro w H))
    refine Ix_in i rfl hlt2 ?_
    (repeat first | refine goN ?_ | ((try conv => whnf); first | (refine Ar_gate ?_; first | (fail_if_success skip) | refine xA ?_) | (first | refine Do_str_eq ?_ | refine Do_str_ne ?_ | refine DoN_len tok rfl ?_ | refine Eqv_in ?_)) | ((try conv => whnf); (first | (refine St_gate ?_; refine xS ?_) | (refine StN_gate ?_; refine xN ?_)); clear H; intro w H))
    refine LdN_src (j := i * 9 + 1) (H.rd s2) (vs := [.int .i64 m.to.op, .int .i64 m.to.num, .string m.to.name, .slice m.to.at_ m.to.kids.length m.to.cap, .int .i64 m.to.line, .int .i64 m.to.col]) (rowSub (r := 1) (n := 6) hry (by decide)) rfl ?_
    (repeat first | refine goN ?_ | ((try conv => whnf); first | (refine Ar_gate ?_; first | (fail_if_success skip) | refine xA ?_) | (first | refine Do_str_eq ?_ | refine Do_str_ne ?_ | refine DoN_len tok rfl ?_ | refine Eqv_in ?_)) | ((try conv => whnf); (first | (refine St_gate ?_; refine xS ?_) | (refine StN_gate ?_; refine xN ?_)); clear H; intro w H))
    refine Call_of (dSame k.to m.to H (hf k hmx).1 (hg m hmy).1 (hf k hmx).2 (hg m hmy).2) ?_
    clear H
    rintro _ w ⟨rfl, H⟩
    cases hv : sameB k.to m.to with
    | false =>
      have hv : sameAs k m = false := by unfold sameAs; rw [hv, Bool.and_false]
      rw [allZ_no hx hy hv]
      (repeat first | refine goN ?_ | ((try conv => whnf); first | (refine Ar_gate ?_; first | (fail_if_success skip) | refine xA ?_) | (first | refine Do_str_eq ?_ | refine Do_str_ne ?_ | refine DoN_len tok rfl ?_ | refine Eqv_in ?_)) | ((try conv => whnf); (first | (refine St_gate ?_; refine xS ?_) | (refine StN_gate ?_; refine xN ?_)); clear H; intro w H))
      (repeat (refine Kept_gate ?_; (first | refine xK ?_ | refine ⟨keepOne (j := i * 9 + 0) (H.rd s1) (rowGet asV_len hx (by decide : 0 < 9)), ?_⟩ | refine ⟨keepOne (j := i * 9 + 0) (H.rd s2) (rowGet asV_len hy (by decide : 0 < 9)), ?_⟩ | refine ⟨keepSrc (j := i * 9 + 1) (H.rd s1) (rowSub (r := 1) (n := 6) hrx (by decide)) rfl, ?_⟩ | refine ⟨keepSrc (j := i * 9 + 1) (H.rd s2) (rowSub (r := 1) (n := 6) hry (by decide)) rfl, ?_⟩ | refine ⟨hJ1 _, ?_⟩); (repeat first | refine goN ?_ | ((try conv => whnf); first | (refine Ar_gate ?_; first | (fail_if_success skip) | refine xA ?_) | (first | refine Do_str_eq ?_ | refine Do_str_ne ?_ | refine DoN_len tok rfl ?_ | refine Eqv_in ?_)) | ((try conv => whnf); (first | (refine St_gate ?_; refine xS ?_) | (refine StN_gate ?_; refine xN ?_)); clear H; intro w H))))
      exact Ret_in ⟨rfl, H⟩
    | true =>
      have hv : sameAs k m = true := by unfold sameAs; rw [hv, decide_eq_true h3]; rfl
      (repeat first | refine goN ?_ | ((try conv => whnf); first | (refine Ar_gate ?_; first | (fail_if_success skip) | refine xA ?_) | (first | refine Do_str_eq ?_ | refine Do_str_ne ?_ | refine DoN_len tok rfl ?_ | refine Eqv_in ?_)) | ((try conv => whnf); (first | (refine St_gate ?_; refine xS ?_) | (refine StN_gate ?_; refine xN ?_)); clear H; intro w H))
      (repeat (refine Kept_gate ?_; (first | refine xK ?_ | refine ⟨keepOne (j := i * 9 + 0) (H.rd s1) (rowGet asV_len hx (by decide : 0 < 9)), ?_⟩ | refine ⟨keepOne (j := i * 9 + 0) (H.rd s2) (rowGet asV_len hy (by decide : 0 < 9)), ?_⟩ | refine ⟨keepSrc (j := i * 9 + 1) (H.rd s1) (rowSub (r := 1) (n := 6) hrx (by decide)) rfl, ?_⟩ | refine ⟨keepSrc (j := i * 9 + 1) (H.rd s2) (rowSub (r := 1) (n := 6) hry (by decide)) rfl, ?_⟩ | refine ⟨hJ1 _, ?_⟩); (repeat first | refine goN ?_ | ((try conv => whnf); first | (refine Ar_gate ?_; first | (fail_if_success skip) | refine xA ?_) | (first | refine Do_str_eq ?_ | refine Do_str_ne ?_ | refine DoN_len tok rfl ?_ | refine Eqv_in ?_)) | ((try conv => whnf); (first | (refine St_gate ?_; refine xS ?_) | (refine StN_gate ?_; refine xN ?_)); clear H; intro w H))))
      exact ⟨i + 1, ⟨congrArg some (vint (by omega)), trivial⟩, ⟨⟨by omega, allZ_up hx hy hv hall⟩, H⟩, by omega⟩
  · obtain rfl : i = xs.length := by omega
    rw [allZ_all h4 hall]
    (repeat first | refine goN ?_ | ((try conv => whnf); first | (refine Ar_gate ?_; first | (fail_if_success skip) | refine xA ?_) | (first | refine Do_str_eq ?_ | refine Do_str_ne ?_ | refine DoN_len tok rfl ?_ | refine Eqv_in ?_)) | ((try conv => whnf); (first | (refine St_gate ?_; refine xS ?_) | (refine StN_gate ?_; refine xN ?_)); clear H; intro w H))
    exact Ret_in ⟨rfl, H⟩
theorem en_len {k : En} (h : enK k ≤ 2000000) : k.vals.length ≤ 2000000 := by
  have y1 := sum_len (l := k.vals) (g := fun v => v.size + 1) fun x => by omega
  unfold enK at h
  omega
theorem de_len {k : De} (h : deK k ≤ 2000000) : k.begins.length ≤ 2000000 := by
  have y1 := sum_len (l := k.begins) (g := bulk) fun x => by have := bulk_pos x; omega
  unfold deK at h
  omega
theorem de_bulk {k : De} (h : deK k ≤ 2000000) : ∀ x ∈ k.begins, bulk x ≤ 2000000 := fun v hv => by
  have := sum_mem (g := bulk) hv
  unfold deK at h
  omega
theorem pr_len {k : Pr} (h : prK k ≤ 2000000) : k.rules.length ≤ 2000000 := by
  have y1 := sum_len (l := k.rules) (g := ruK) fun x => by unfold ruK; omega
  unfold prK at h
  omega
theorem pr_ru {k : Pr} (h : prK k ≤ 2000000) : ∀ x ∈ k.rules, ruK x ≤ 2000000 := fun v hv => by
  have := sum_mem (g := ruK) hv
  unfold prK at h
  omega
theorem ru_len {k : Ru} (h : ruK k ≤ 2000000) : k.acts.length ≤ 2000000 := by
  have y1 := sum_len (l := k.acts) (g := asK) fun x => by unfold asK; omega
  unfold ruK at h
  omega
theorem ru_when {k : Ru} (h : ruK k ≤ 2000000) : bulk k.when_ ≤ 2000000 := by
  unfold ruK at h
  omega
theorem ru_as {k : Ru} (h : ruK k ≤ 2000000) : ∀ x ∈ k.acts, bulk x.to ≤ 2000000 := fun v hv => by
  have := sum_mem (g := asK) hv
  unfold ruK at h
  have e : asK v = 4 + v.name.size + bulk v.to := rfl
  omega
theorem so_b {m : So} (hb : soK m ≤ 2000000) : (m.enums.length ≤ 2000000 ∧ m.vars.length ≤ 2000000 ∧ m.procs.length ≤ 2000000) ∧ (∀ a ∈ m.enums, enK a ≤ 2000000) ∧ (∀ a ∈ m.vars, deK a ≤ 2000000) ∧ ∀ a ∈ m.procs, prK a ≤ 2000000 := by
  unfold soK at hb
  have a1 := sum_len (l := m.enums) (g := enK) fun x => by unfold enK; omega
  have a2 := sum_len (l := m.vars) (g := deK) fun x => by unfold deK; omega
  have a3 := sum_len (l := m.procs) (g := prK) fun x => by unfold prK; omega
  refine ⟨⟨by omega, by omega, by omega⟩, fun v hv => ?_, fun v hv => ?_, fun v hv => ?_⟩
  · have := sum_mem (g := enK) hv; omega
  · have := sum_mem (g := deK) hv; omega
  · have := sum_mem (g := prK) hv; omega
theorem no_E {m n : So} (h : allZ (m.enums.map sameEn) n.enums = false) : sameSo m n = false := by unfold sameSo; rw [h]; rfl
theorem no_V {m n : So} (h : allZ (m.vars.map sameDe) n.vars = false) : sameSo m n = false := by unfold sameSo; rw [h, Bool.and_false]; rfl
theorem no_P {m n : So} (h : allZ (m.procs.map samePr) n.procs = false) : sameSo m n = false := by unfold sameSo; rw [h, Bool.and_false]
theorem ret_no {b : Bool} {l : List Res} {w0 w' : World} (h : b = false) (H : Sep w0 w' l) : (Value.bool false) = .bool b ∧ Sep w0 w' l := ⟨by rw [h], H⟩
theorem dSameSo (m n : So) (H : Sep w0 w l) (hs : SoOk w0 m) (ht : SoOk w0 n) (hb : soK m ≤ 2000000) (hc : soK n ≤ 2000000) : Does Tryz.prog 8 #[soA m, soA n] w fun v w' => v = .bool (sameSo m n) ∧ Sep w0 w' l := by
  obtain ⟨⟨l1, l2, l3⟩, c1, c2, c3⟩ := so_b hb
  obtain ⟨⟨l4, l5, l6⟩, d1, d2, d3⟩ := so_b hc
  obtain ⟨ea, ec, va, vc, pa, pc, E, V, P⟩ := m
  obtain ⟨ea', ec', va', vc', pa', pc', E', V', P'⟩ := n
  obtain ⟨es, vs, ps, sen, sde, spr⟩ := hs
  obtain ⟨es', vs', ps', sen', sde', spr'⟩ := ht
  simp only [] at *
  clear hb hc
  refine Does_intro tok (Tryz.call8 _ _) Tryz.func8 rfl (by rfl) ?_
  (repeat first | refine goN ?_ | ((try conv => whnf); first | (refine Ar_gate ?_; first | (fail_if_success skip) | refine xA ?_) | (first | refine Do_str_eq ?_ | refine Do_str_ne ?_ | refine DoN_len tok rfl ?_ | refine Eqv_in ?_)) | ((try conv => whnf); (first | (refine St_gate ?_; refine xS ?_) | (refine StN_gate ?_; refine xN ?_)); clear H; intro w H))
  (refine Nw_sep H ?_; clear H; intro xb w H; (try simp only [Value.cells, List.toList_toArray, List.append_nil, List.cons_append, List.nil_append] at H))
  (repeat first | refine goN ?_ | ((try conv => whnf); first | (refine Ar_gate ?_; first | (fail_if_success skip) | refine xA ?_) | (first | refine Do_str_eq ?_ | refine Do_str_ne ?_ | refine DoN_len tok rfl ?_ | refine Eqv_in ?_)) | ((try conv => whnf); (first | (refine St_gate ?_; refine xS ?_) | (refine StN_gate ?_; refine xN ?_)); clear H; intro w H))
  (refine Nw_sep H ?_; clear H; intro yb w H; (try simp only [Value.cells, List.toList_toArray, List.append_nil, List.cons_append, List.nil_append] at H))
  (repeat first | refine goN ?_ | ((try conv => whnf); first | (refine Ar_gate ?_; first | (fail_if_success skip) | refine xA ?_) | (first | refine Do_str_eq ?_ | refine Do_str_ne ?_ | refine DoN_len tok rfl ?_ | refine Eqv_in ?_)) | ((try conv => whnf); (first | (refine St_gate ?_; refine xS ?_) | (refine StN_gate ?_; refine xN ?_)); clear H; intro w H))
  by_cases h1 : E.length = E'.length
  case neg =>
    (repeat first | refine goN ?_ | ((try conv => whnf); first | (refine Ar_gate ?_; first | (fail_if_success skip) | refine xA ?_) | (first | refine Do_str_eq ?_ | refine Do_str_ne ?_ | refine DoN_len tok rfl ?_ | refine Eqv_in ?_)) | ((try conv => whnf); (first | (refine St_gate ?_; refine xS ?_) | (refine StN_gate ?_; refine xN ?_)); clear H; intro w H))
    exact Ret_in (ret_no (no_E (allZ_ne h1)) H.tail.tail)
  by_cases h2 : V.length = V'.length
  case neg =>
    (repeat first | refine goN ?_ | ((try conv => whnf); first | (refine Ar_gate ?_; first | (fail_if_success skip) | refine xA ?_) | (first | refine Do_str_eq ?_ | refine Do_str_ne ?_ | refine DoN_len tok rfl ?_ | refine Eqv_in ?_)) | ((try conv => whnf); (first | (refine St_gate ?_; refine xS ?_) | (refine StN_gate ?_; refine xN ?_)); clear H; intro w H))
    exact Ret_in (ret_no (no_V (allZ_ne h2)) H.tail.tail)
  by_cases h3 : P.length = P'.length
  case neg =>
    (repeat first | refine goN ?_ | ((try conv => whnf); first | (refine Ar_gate ?_; first | (fail_if_success skip) | refine xA ?_) | (first | refine Do_str_eq ?_ | refine Do_str_ne ?_ | refine DoN_len tok rfl ?_ | refine Eqv_in ?_)) | ((try conv => whnf); (first | (refine St_gate ?_; refine xS ?_) | (refine StN_gate ?_; refine xN ?_)); clear H; intro w H))
    exact Ret_in (ret_no (no_P (allZ_ne h3)) H.tail.tail)
  (repeat first | refine goN ?_ | ((try conv => whnf); first | (refine Ar_gate ?_; first | (fail_if_success skip) | refine xA ?_) | (first | refine Do_str_eq ?_ | refine Do_str_ne ?_ | refine DoN_len tok rfl ?_ | refine Eqv_in ?_)) | ((try conv => whnf); (first | (refine St_gate ?_; refine xS ?_) | (refine StN_gate ?_; refine xN ?_)); clear H; intro w H))
  refine Loop_intro (fun i : Nat => [(45, .int .i64 (i : Int))]) (fun i w => (i ≤ E.length ∧ ∀ (j : Nat) u v, j < i → E[j]? = some u → E'[j]? = some v → sameEn u v = true) ∧ Sep w0 w (cellsR yb 26 (soV (So.mk ea' ec' va' vc' pa' pc' E' V' P')) :: cellsR xb 26 (soV (So.mk ea ec va vc pa pc E V P)) :: l)) (fun i => E.length - i)
    0 ⟨rfl, trivial⟩ ⟨⟨Nat.zero_le _, fun j u v h => by omega⟩, H⟩ ?_
  clear H
  rintro i w ⟨⟨hi, hall⟩, H⟩
  refine Br_dec (fun k1 => ?_) (fun k1 => ?_)
  · have hlt : i < E.length := Int.ofNat_lt.1 k1
    have hlt2 : i < E'.length := by omega
    obtain ⟨⟨kn, ka, kc, kl, kco, kv⟩, hx⟩ : ∃ u, E[i]? = some u := ⟨_, List.getElem?_eq_getElem hlt⟩
    obtain ⟨⟨qn, qa, qc, ql, qco, qv⟩, hy⟩ : ∃ u, E'[i]? = some u := ⟨_, List.getElem?_eq_getElem hlt2⟩
    have hmx := List.mem_of_getElem? hx
    have hmy := List.mem_of_getElem? hy
    have hrx := rowPart (f := enV) (sz := 4) enV_len hx
    have hry := rowPart (f := enV) (sz := 4) enV_len hy
    have s1 := es
    have s2 := es'
    obtain ⟨ba, oa, ha⟩ := s1.addr (by rw [rowLen enV_len]; omega)
    obtain ⟨bb, ob, hb'⟩ := s2.addr (by rw [rowLen enV_len]; omega)
    subst ha hb'
    have t1 := (sen _ hmx).1
    have t2 := (sen' _ hmy).1
    have hkl := en_len (c1 _ hmx)
    have hql := en_len (d1 _ hmy)
    simp only [] at t1 t2 hkl hql
    (repeat first | refine goN ?_ | ((try conv => whnf); first | (refine Ar_gate ?_; first | (fail_if_success skip) | refine xA ?_) | (first | refine Do_str_eq ?_ | refine Do_str_ne ?_ | refine DoN_len tok rfl ?_ | refine Eqv_in ?_)) | ((try conv => whnf); (first | (refine St_gate ?_; refine xS ?_) | (refine StN_gate ?_; refine xN ?_)); clear H; intro w H))
    refine Ix_in i rfl hlt ?_
    refine LdN_src (H.rd s1) (vs := [.string kn, .slice ka kv.length kc, .int .i64 kl, .int .i64 kco]) hrx rfl ?_
    (repeat first | refine goN ?_ | ((try conv => whnf); first | (refine Ar_gate ?_; first | (fail_if_success skip) | refine xA ?_) | (first | refine Do_str_eq ?_ | refine Do_str_ne ?_ | refine DoN_len tok rfl ?_ | refine Eqv_in ?_)) | ((try conv => whnf); (first | (refine St_gate ?_; refine xS ?_) | (refine StN_gate ?_; refine xN ?_)); clear H; intro w H))
    (refine Nw_sep H ?_; clear H; intro kb w H; (try simp only [Value.cells, List.toList_toArray, List.append_nil, List.cons_append, List.nil_append] at H))
    (repeat first | refine goN ?_ | ((try conv => whnf); first | (refine Ar_gate ?_; first | (fail_if_success skip) | refine xA ?_) | (first | refine Do_str_eq ?_ | refine Do_str_ne ?_ | refine DoN_len tok rfl ?_ | refine Eqv_in ?_)) | ((try conv => whnf); (first | (refine St_gate ?_; refine xS ?_) | (refine StN_gate ?_; refine xN ?_)); clear H; intro w H))
    refine Ix_in i rfl hlt2 ?_
    refine LdN_src (H.rd s2) (vs := [.string qn, .slice qa qv.length qc, .int .i64 ql, .int .i64 qco]) hry rfl ?_
    (repeat first | refine goN ?_ | ((try conv => whnf); first | (refine Ar_gate ?_; first | (fail_if_success skip) | refine xA ?_) | (first | refine Do_str_eq ?_ | refine Do_str_ne ?_ | refine DoN_len tok rfl ?_ | refine Eqv_in ?_)) | ((try conv => whnf); (first | (refine St_gate ?_; refine xS ?_) | (refine StN_gate ?_; refine xN ?_)); clear H; intro w H))
    (refine Nw_sep H ?_; clear H; intro qb w H; (try simp only [Value.cells, List.toList_toArray, List.append_nil, List.cons_append, List.nil_append] at H))
    (repeat first | refine goN ?_ | ((try conv => whnf); first | (refine Ar_gate ?_; first | (fail_if_success skip) | refine xA ?_) | (first | refine Do_str_eq ?_ | refine Do_str_ne ?_ | refine DoN_len tok rfl ?_ | refine Eqv_in ?_)) | ((try conv => whnf); (first | (refine St_gate ?_; refine xS ?_) | (refine StN_gate ?_; refine xN ?_)); clear H; intro w H))
    by_cases g1 : kn = qn
    case neg =>
      have hv : sameEn (En.mk kn ka kc kl kco kv) (En.mk qn qa qc ql qco qv) = false := by unfold sameEn; rw [decide_eq_false g1]; rfl
      (repeat first | refine goN ?_ | ((try conv => whnf); first | (refine Ar_gate ?_; first | (fail_if_success skip) | refine xA ?_) | (first | refine Do_str_eq ?_ | refine Do_str_ne ?_ | refine DoN_len tok rfl ?_ | refine Eqv_in ?_)) | ((try conv => whnf); (first | (refine St_gate ?_; refine xS ?_) | (refine StN_gate ?_; refine xN ?_)); clear H; intro w H))
      exact Ret_in (ret_no (no_E (allZ_no hx hy hv)) H.tail.tail.tail.tail)
    by_cases g2 : kv.length = qv.length
    case neg =>
      have hvv : ¬ kv = qv := fun e => g2 (by rw [e])
      have hv : sameEn (En.mk kn ka kc kl kco kv) (En.mk qn qa qc ql qco qv) = false := by unfold sameEn; rw [decide_eq_false hvv, Bool.and_false]
      (repeat first | refine goN ?_ | ((try conv => whnf); first | (refine Ar_gate ?_; first | (fail_if_success skip) | refine xA ?_) | (first | refine Do_str_eq ?_ | refine Do_str_ne ?_ | refine DoN_len tok rfl ?_ | refine Eqv_in ?_)) | ((try conv => whnf); (first | (refine St_gate ?_; refine xS ?_) | (refine StN_gate ?_; refine xN ?_)); clear H; intro w H))
      exact Ret_in (ret_no (no_E (allZ_no hx hy hv)) H.tail.tail.tail.tail)
    (repeat first | refine goN ?_ | ((try conv => whnf); first | (refine Ar_gate ?_; first | (fail_if_success skip) | refine xA ?_) | (first | refine Do_str_eq ?_ | refine Do_str_ne ?_ | refine DoN_len tok rfl ?_ | refine Eqv_in ?_)) | ((try conv => whnf); (first | (refine St_gate ?_; refine xS ?_) | (refine StN_gate ?_; refine xN ?_)); clear H; intro w H))
    refine Loop_intro (fun j : Nat => [(72, .int .i64 (j : Int))]) (fun j w => (j ≤ kv.length ∧ ∀ u : Nat, u < j → kv[u]? = qv[u]?) ∧ Sep w0 w (cellsR qb 48 (enV (En.mk qn qa qc ql qco qv)) :: cellsR kb 48 (enV (En.mk kn ka kc kl kco kv)) :: cellsR yb 26 (soV (So.mk (some ⟨bb, ob, none⟩) ec' va' vc' pa' pc' E' V' P')) :: cellsR xb 26 (soV (So.mk (some ⟨ba, oa, none⟩) ec va vc pa pc E V P)) :: l)) (fun j => kv.length - j)
      0 ⟨rfl, trivial⟩ ⟨⟨Nat.zero_le _, fun u h => by omega⟩, H⟩ ?_
    clear H
    rintro j w ⟨⟨hj, hal⟩, H⟩
    refine Br_dec (fun k2 => ?_) (fun k2 => ?_)
    · have hlj : j < kv.length := by omega
      have hlj2 : j < qv.length := by omega
      refine Exists.elim (⟨_, List.getElem?_eq_getElem hlj⟩ : ∃ u, kv[j]? = some u) fun u hu => ?_
      refine Exists.elim (⟨_, List.getElem?_eq_getElem hlj2⟩ : ∃ u, qv[j]? = some u) fun v hw => ?_
      refine Exists.elim (t1.addr (by rw [List.length_map]; omega)) fun e1 he1 => Exists.elim he1 fun o1 he1 => ?_
      refine Exists.elim (t2.addr (by rw [List.length_map]; omega)) fun e2 he2 => Exists.elim he2 fun o2 he2 => ?_
      subst he1 he2
      have hu' : (kv.map Value.string)[j]? = some (.string u) := by rw [List.getElem?_map, hu]; rfl
      have hw' : (qv.map Value.string)[j]? = some (.string v) := by rw [List.getElem?_map, hw]; rfl
      (repeat first | refine goN ?_ | ((try conv => whnf); first | (refine Ar_gate ?_; first | (fail_if_success skip) | refine xA ?_) | (first | refine Do_str_eq ?_ | refine Do_str_ne ?_ | refine DoN_len tok rfl ?_ | refine Eqv_in ?_)) | ((try conv => whnf); (first | (refine St_gate ?_; refine xS ?_) | (refine StN_gate ?_; refine xN ?_)); clear H; intro w H))
      refine Draw_intro mixed [0, 1, 2, 3, 4, 5, 6, 7, 8, 9, 10] (by decide +kernel) (fun w _ fd => ?_); replace H := H.fr fd; clear fd
      (repeat first | refine goN ?_ | ((try conv => whnf); first | (refine Ar_gate ?_; first | (fail_if_success skip) | refine xA ?_) | (first | refine Do_str_eq ?_ | refine Do_str_ne ?_ | refine DoN_len tok rfl ?_ | refine Eqv_in ?_)) | ((try conv => whnf); (first | (refine St_gate ?_; refine xS ?_) | (refine StN_gate ?_; refine xN ?_)); clear H; intro w H))
      refine Ix_in j rfl hlj ?_
      conv => whnf
      refine Ld_src (j := j) (H.rd t1) hu' ?_
      (repeat first | refine goN ?_ | ((try conv => whnf); first | (refine Ar_gate ?_; first | (fail_if_success skip) | refine xA ?_) | (first | refine Do_str_eq ?_ | refine Do_str_ne ?_ | refine DoN_len tok rfl ?_ | refine Eqv_in ?_)) | ((try conv => whnf); (first | (refine St_gate ?_; refine xS ?_) | (refine StN_gate ?_; refine xN ?_)); clear H; intro w H))
      refine Ix_in j rfl hlj2 ?_
      conv => whnf
      refine Ld_src (j := j) (H.rd t2) hw' ?_
      (repeat first | refine goN ?_ | ((try conv => whnf); first | (refine Ar_gate ?_; first | (fail_if_success skip) | refine xA ?_) | (first | refine Do_str_eq ?_ | refine Do_str_ne ?_ | refine DoN_len tok rfl ?_ | refine Eqv_in ?_)) | ((try conv => whnf); (first | (refine St_gate ?_; refine xS ?_) | (refine StN_gate ?_; refine xN ?_)); clear H; intro w H))
      refine DoS_sne (fun J1 hJ1 => ?_)
      (repeat first | refine goN ?_ | ((try conv => whnf); first | (refine Ar_gate ?_; first | (fail_if_success skip) | refine xA ?_) | (first | refine Do_str_eq ?_ | refine Do_str_ne ?_ | refine DoN_len tok rfl ?_ | refine Eqv_in ?_)) | ((try conv => whnf); (first | (refine St_gate ?_; refine xS ?_) | (refine StN_gate ?_; refine xN ?_)); clear H; intro w H))
      by_cases g3 : u = v
      · (repeat first | refine goN ?_ | ((try conv => whnf); first | (refine Ar_gate ?_; first | (fail_if_success skip) | refine xA ?_) | (first | refine Do_str_eq ?_ | refine Do_str_ne ?_ | refine DoN_len tok rfl ?_ | refine Eqv_in ?_)) | ((try conv => whnf); (first | (refine St_gate ?_; refine xS ?_) | (refine StN_gate ?_; refine xN ?_)); clear H; intro w H))
        refine ⟨j + 1, ⟨congrArg some (vint (by omega)), trivial⟩, ⟨⟨by omega, fun r hr => ?_⟩, H⟩, by omega⟩
        rcases Nat.lt_or_ge r j with h' | h'
        · exact hal r h'
        · obtain rfl : r = j := by omega
          rw [hu, hw, g3]
      · have hv : sameEn (En.mk kn (some ⟨e1, o1, none⟩) kc kl kco kv) (En.mk qn (some ⟨e2, o2, none⟩) qc ql qco qv) = false := by
          unfold sameEn
          have hvv : ¬ kv = qv := fun e => by rw [e, hw] at hu; exact g3 (Option.some.inj hu).symm
          rw [decide_eq_false hvv, Bool.and_false]
        (repeat first | refine goN ?_ | ((try conv => whnf); first | (refine Ar_gate ?_; first | (fail_if_success skip) | refine xA ?_) | (first | refine Do_str_eq ?_ | refine Do_str_ne ?_ | refine DoN_len tok rfl ?_ | refine Eqv_in ?_)) | ((try conv => whnf); (first | (refine St_gate ?_; refine xS ?_) | (refine StN_gate ?_; refine xN ?_)); clear H; intro w H))
        exact Ret_in (ret_no (no_E (allZ_no hx hy hv)) H.tail.tail.tail.tail)
    · have hje : j = kv.length := by omega
      subst hje
      have hv : sameEn (En.mk kn ka kc kl kco kv) (En.mk qn qa qc ql qco qv) = true := by
        unfold sameEn
        rw [decide_eq_true g1, decide_eq_true (by
          apply List.ext_getElem?
          intro r
          by_cases hr : r < kv.length
          · exact hal r hr
          · rw [List.getElem?_eq_none (by omega), List.getElem?_eq_none (by omega)] : kv = qv)]
        rfl
      (repeat first | refine goN ?_ | ((try conv => whnf); first | (refine Ar_gate ?_; first | (fail_if_success skip) | refine xA ?_) | (first | refine Do_str_eq ?_ | refine Do_str_ne ?_ | refine DoN_len tok rfl ?_ | refine Eqv_in ?_)) | ((try conv => whnf); (first | (refine St_gate ?_; refine xS ?_) | (refine StN_gate ?_; refine xN ?_)); clear H; intro w H))
      exact ⟨i + 1, ⟨congrArg some (vint (by omega)), trivial⟩, ⟨⟨by omega, allZ_up hx hy hv hall⟩, H.tail.tail⟩, by omega⟩
  · have k3 : ¬ (i : Int) < (E.length : Nat) := k1
    have hie : i = E.length := by omega
    subst hie
    have hZ1 : allZ (E.map sameEn) E' = true := allZ_all h1 hall
    clear hall hi k1
    (repeat first | refine goN ?_ | ((try conv => whnf); first | (refine Ar_gate ?_; first | (fail_if_success skip) | refine xA ?_) | (first | refine Do_str_eq ?_ | refine Do_str_ne ?_ | refine DoN_len tok rfl ?_ | refine Eqv_in ?_)) | ((try conv => whnf); (first | (refine St_gate ?_; refine xS ?_) | (refine StN_gate ?_; refine xN ?_)); clear H; intro w H))
    refine Loop_intro (fun i : Nat => [(91, .int .i64 (i : Int))]) (fun i w => (i ≤ V.length ∧ ∀ (j : Nat) u v, j < i → V[j]? = some u → V'[j]? = some v → sameDe u v = true) ∧ Sep w0 w (cellsR yb 26 (soV (So.mk ea' ec' va' vc' pa' pc' E' V' P')) :: cellsR xb 26 (soV (So.mk ea ec va vc pa pc E V P)) :: l)) (fun i => V.length - i)
      0 ⟨rfl, trivial⟩ ⟨⟨Nat.zero_le _, fun j u v h => by omega⟩, H⟩ ?_
    clear H
    rintro i w ⟨⟨hi, hall⟩, H⟩
    refine Br_dec (fun k1 => ?_) (fun k1 => ?_)
    · have hlt : i < V.length := Int.ofNat_lt.1 k1
      have hlt2 : i < V'.length := by omega
      obtain ⟨⟨kn, kt, klo, khi, ka, kc, kl, kco, kv⟩, hx⟩ : ∃ u, V[i]? = some u := ⟨_, List.getElem?_eq_getElem hlt⟩
      obtain ⟨⟨qn, qt, qlo, qhi, qa, qc, ql, qco, qv⟩, hy⟩ : ∃ u, V'[i]? = some u := ⟨_, List.getElem?_eq_getElem hlt2⟩
      have hmx := List.mem_of_getElem? hx
      have hmy := List.mem_of_getElem? hy
      have hrx := rowPart (f := deV) (sz := 7) deV_len hx
      have hry := rowPart (f := deV) (sz := 7) deV_len hy
      have s1 := vs
      have s2 := vs'
      obtain ⟨ba, oa, ha⟩ := s1.addr (by rw [rowLen deV_len]; omega)
      obtain ⟨bb, ob, hb'⟩ := s2.addr (by rw [rowLen deV_len]; omega)
      subst ha hb'
      have t1 := (sde _ hmx).1
      have t2 := (sde' _ hmy).1
      have u1 := (sde _ hmx).2
      have u2 := (sde' _ hmy).2
      have hkl := de_len (c2 _ hmx)
      have hql := de_len (d2 _ hmy)
      have hkb := de_bulk (c2 _ hmx)
      have hqb := de_bulk (d2 _ hmy)
      simp only [] at t1 t2 u1 u2 hkl hql hkb hqb
      (repeat first | refine goN ?_ | ((try conv => whnf); first | (refine Ar_gate ?_; first | (fail_if_success skip) | refine xA ?_) | (first | refine Do_str_eq ?_ | refine Do_str_ne ?_ | refine DoN_len tok rfl ?_ | refine Eqv_in ?_)) | ((try conv => whnf); (first | (refine St_gate ?_; refine xS ?_) | (refine StN_gate ?_; refine xN ?_)); clear H; intro w H))
      refine Ix_in i rfl hlt ?_
      refine LdN_src (H.rd s1) (vs := [.string kn, .string kt, .int .i64 klo, .int .i64 khi, .slice ka kv.length kc, .int .i64 kl, .int .i64 kco]) hrx rfl ?_
      (repeat first | refine goN ?_ | ((try conv => whnf); first | (refine Ar_gate ?_; first | (fail_if_success skip) | refine xA ?_) | (first | refine Do_str_eq ?_ | refine Do_str_ne ?_ | refine DoN_len tok rfl ?_ | refine Eqv_in ?_)) | ((try conv => whnf); (first | (refine St_gate ?_; refine xS ?_) | (refine StN_gate ?_; refine xN ?_)); clear H; intro w H))
      (refine Nw_sep H ?_; clear H; intro kb w H; (try simp only [Value.cells, List.toList_toArray, List.append_nil, List.cons_append, List.nil_append] at H))
      (repeat first | refine goN ?_ | ((try conv => whnf); first | (refine Ar_gate ?_; first | (fail_if_success skip) | refine xA ?_) | (first | refine Do_str_eq ?_ | refine Do_str_ne ?_ | refine DoN_len tok rfl ?_ | refine Eqv_in ?_)) | ((try conv => whnf); (first | (refine St_gate ?_; refine xS ?_) | (refine StN_gate ?_; refine xN ?_)); clear H; intro w H))
      refine Ix_in i rfl hlt2 ?_
      refine LdN_src (H.rd s2) (vs := [.string qn, .string qt, .int .i64 qlo, .int .i64 qhi, .slice qa qv.length qc, .int .i64 ql, .int .i64 qco]) hry rfl ?_
      (repeat first | refine goN ?_ | ((try conv => whnf); first | (refine Ar_gate ?_; first | (fail_if_success skip) | refine xA ?_) | (first | refine Do_str_eq ?_ | refine Do_str_ne ?_ | refine DoN_len tok rfl ?_ | refine Eqv_in ?_)) | ((try conv => whnf); (first | (refine St_gate ?_; refine xS ?_) | (refine StN_gate ?_; refine xN ?_)); clear H; intro w H))
      (refine Nw_sep H ?_; clear H; intro qb w H; (try simp only [Value.cells, List.toList_toArray, List.append_nil, List.cons_append, List.nil_append] at H))
      (repeat first | refine goN ?_ | ((try conv => whnf); first | (refine Ar_gate ?_; first | (fail_if_success skip) | refine xA ?_) | (first | refine Do_str_eq ?_ | refine Do_str_ne ?_ | refine DoN_len tok rfl ?_ | refine Eqv_in ?_)) | ((try conv => whnf); (first | (refine St_gate ?_; refine xS ?_) | (refine StN_gate ?_; refine xN ?_)); clear H; intro w H))
      by_cases g1 : kn = qn
      case neg =>
        have hv : sameDe (De.mk kn kt klo khi ka kc kl kco kv) (De.mk qn qt qlo qhi qa qc ql qco qv) = false := by unfold sameDe; rw [decide_eq_false g1]; rfl
        (repeat first | refine goN ?_ | ((try conv => whnf); first | (refine Ar_gate ?_; first | (fail_if_success skip) | refine xA ?_) | (first | refine Do_str_eq ?_ | refine Do_str_ne ?_ | refine DoN_len tok rfl ?_ | refine Eqv_in ?_)) | ((try conv => whnf); (first | (refine St_gate ?_; refine xS ?_) | (refine StN_gate ?_; refine xN ?_)); clear H; intro w H))
        exact Ret_in (ret_no (no_V (allZ_no hx hy hv)) H.tail.tail.tail.tail)
      by_cases g2 : kt = qt
      case neg =>
        have hv : sameDe (De.mk kn kt klo khi ka kc kl kco kv) (De.mk qn qt qlo qhi qa qc ql qco qv) = false := by unfold sameDe; rw [decide_eq_false g2, Bool.and_false]; rfl
        (repeat first | refine goN ?_ | ((try conv => whnf); first | (refine Ar_gate ?_; first | (fail_if_success skip) | refine xA ?_) | (first | refine Do_str_eq ?_ | refine Do_str_ne ?_ | refine DoN_len tok rfl ?_ | refine Eqv_in ?_)) | ((try conv => whnf); (first | (refine St_gate ?_; refine xS ?_) | (refine StN_gate ?_; refine xN ?_)); clear H; intro w H))
        exact Ret_in (ret_no (no_V (allZ_no hx hy hv)) H.tail.tail.tail.tail)
      by_cases g3 : klo = qlo
      case neg =>
        have hv : sameDe (De.mk kn kt klo khi ka kc kl kco kv) (De.mk qn qt qlo qhi qa qc ql qco qv) = false := by unfold sameDe; rw [decide_eq_false g3, Bool.and_false]; rfl
        (repeat first | refine goN ?_ | ((try conv => whnf); first | (refine Ar_gate ?_; first | (fail_if_success skip) | refine xA ?_) | (first | refine Do_str_eq ?_ | refine Do_str_ne ?_ | refine DoN_len tok rfl ?_ | refine Eqv_in ?_)) | ((try conv => whnf); (first | (refine St_gate ?_; refine xS ?_) | (refine StN_gate ?_; refine xN ?_)); clear H; intro w H))
        exact Ret_in (ret_no (no_V (allZ_no hx hy hv)) H.tail.tail.tail.tail)
      by_cases g4 : khi = qhi
      case neg =>
        have hv : sameDe (De.mk kn kt klo khi ka kc kl kco kv) (De.mk qn qt qlo qhi qa qc ql qco qv) = false := by unfold sameDe; rw [decide_eq_false g4, Bool.and_false]; rfl
        (repeat first | refine goN ?_ | ((try conv => whnf); first | (refine Ar_gate ?_; first | (fail_if_success skip) | refine xA ?_) | (first | refine Do_str_eq ?_ | refine Do_str_ne ?_ | refine DoN_len tok rfl ?_ | refine Eqv_in ?_)) | ((try conv => whnf); (first | (refine St_gate ?_; refine xS ?_) | (refine StN_gate ?_; refine xN ?_)); clear H; intro w H))
        exact Ret_in (ret_no (no_V (allZ_no hx hy hv)) H.tail.tail.tail.tail)
      by_cases g5 : kv.length = qv.length
      case neg =>
        have hv : sameDe (De.mk kn kt klo khi ka kc kl kco kv) (De.mk qn qt qlo qhi qa qc ql qco qv) = false := by unfold sameDe; rw [allZ_ne g5, Bool.and_false]
        (repeat first | refine goN ?_ | ((try conv => whnf); first | (refine Ar_gate ?_; first | (fail_if_success skip) | refine xA ?_) | (first | refine Do_str_eq ?_ | refine Do_str_ne ?_ | refine DoN_len tok rfl ?_ | refine Eqv_in ?_)) | ((try conv => whnf); (first | (refine St_gate ?_; refine xS ?_) | (refine StN_gate ?_; refine xN ?_)); clear H; intro w H))
        exact Ret_in (ret_no (no_V (allZ_no hx hy hv)) H.tail.tail.tail.tail)
      (repeat first | refine goN ?_ | ((try conv => whnf); first | (refine Ar_gate ?_; first | (fail_if_success skip) | refine xA ?_) | (first | refine Do_str_eq ?_ | refine Do_str_ne ?_ | refine DoN_len tok rfl ?_ | refine Eqv_in ?_)) | ((try conv => whnf); (first | (refine St_gate ?_; refine xS ?_) | (refine StN_gate ?_; refine xN ?_)); clear H; intro w H))
      refine Loop_intro (fun j : Nat => [(139, .int .i64 (j : Int))]) (fun j w => (j ≤ kv.length ∧ ∀ (r : Nat) u v, r < j → kv[r]? = some u → qv[r]? = some v → sameB u v = true) ∧ Sep w0 w (cellsR qb 55 (deV (De.mk qn qt qlo qhi qa qc ql qco qv)) :: cellsR kb 55 (deV (De.mk kn kt klo khi ka kc kl kco kv)) :: cellsR yb 26 (soV (So.mk ea' ec' (some ⟨bb, ob, none⟩) vc' pa' pc' E' V' P')) :: cellsR xb 26 (soV (So.mk ea ec (some ⟨ba, oa, none⟩) vc pa pc E V P)) :: l)) (fun j => kv.length - j)
        0 ⟨rfl, trivial⟩ ⟨⟨Nat.zero_le _, fun r u v h => by omega⟩, H⟩ ?_
      clear H
      rintro j w ⟨⟨hj, hal⟩, H⟩
      refine Br_dec (fun k2 => ?_) (fun k2 => ?_)
      · have hlj : j < kv.length := by omega
        have hlj2 : j < qv.length := by omega
        refine Exists.elim (⟨_, List.getElem?_eq_getElem hlj⟩ : ∃ u, kv[j]? = some u) fun u hu => ?_
        refine Exists.elim (⟨_, List.getElem?_eq_getElem hlj2⟩ : ∃ u, qv[j]? = some u) fun v hw => ?_
        have hmu := List.mem_of_getElem? hu
        have hmw := List.mem_of_getElem? hw
        have hru := rowPart (f := exV) (sz := 6) exV_len hu
        have hrw := rowPart (f := exV) (sz := 6) exV_len hw
        refine Exists.elim (t1.addr (by rw [rowLen exV_len]; omega)) fun e1 he1 => Exists.elim he1 fun o1 he1 => ?_
        refine Exists.elim (t2.addr (by rw [rowLen exV_len]; omega)) fun e2 he2 => Exists.elim he2 fun o2 he2 => ?_
        subst he1 he2
        (repeat first | refine goN ?_ | ((try conv => whnf); first | (refine Ar_gate ?_; first | (fail_if_success skip) | refine xA ?_) | (first | refine Do_str_eq ?_ | refine Do_str_ne ?_ | refine DoN_len tok rfl ?_ | refine Eqv_in ?_)) | ((try conv => whnf); (first | (refine St_gate ?_; refine xS ?_) | (refine StN_gate ?_; refine xN ?_)); clear H; intro w H))
        refine Draw_intro mixed [0, 1, 2, 3, 4, 5, 6, 7, 8, 9, 10, 11] (by decide +kernel) (fun w _ fd => ?_); replace H := H.fr fd; clear fd
        (repeat first | refine goN ?_ | ((try conv => whnf); first | (refine Ar_gate ?_; first | (fail_if_success skip) | refine xA ?_) | (first | refine Do_str_eq ?_ | refine Do_str_ne ?_ | refine DoN_len tok rfl ?_ | refine Eqv_in ?_)) | ((try conv => whnf); (first | (refine St_gate ?_; refine xS ?_) | (refine StN_gate ?_; refine xN ?_)); clear H; intro w H))
        refine Ix_in j rfl hlj ?_
        refine LdN_src (H.rd t1) (vs := [.int .i64 u.op, .int .i64 u.num, .string u.name, .slice u.at_ u.kids.length u.cap, .int .i64 u.line, .int .i64 u.col]) hru rfl ?_
        (repeat first | refine goN ?_ | ((try conv => whnf); first | (refine Ar_gate ?_; first | (fail_if_success skip) | refine xA ?_) | (first | refine Do_str_eq ?_ | refine Do_str_ne ?_ | refine DoN_len tok rfl ?_ | refine Eqv_in ?_)) | ((try conv => whnf); (first | (refine St_gate ?_; refine xS ?_) | (refine StN_gate ?_; refine xN ?_)); clear H; intro w H))
        refine Ix_in j rfl hlj2 ?_
        refine LdN_src (H.rd t2) (vs := [.int .i64 v.op, .int .i64 v.num, .string v.name, .slice v.at_ v.kids.length v.cap, .int .i64 v.line, .int .i64 v.col]) hrw rfl ?_
        (repeat first | refine goN ?_ | ((try conv => whnf); first | (refine Ar_gate ?_; first | (fail_if_success skip) | refine xA ?_) | (first | refine Do_str_eq ?_ | refine Do_str_ne ?_ | refine DoN_len tok rfl ?_ | refine Eqv_in ?_)) | ((try conv => whnf); (first | (refine St_gate ?_; refine xS ?_) | (refine StN_gate ?_; refine xN ?_)); clear H; intro w H))
        refine Call_of (dSame u v H (u1 u hmu) (u2 v hmw) (hkb u hmu) (hqb v hmw)) ?_
        clear H
        intro rv w hR
        have H := hR.2
        have hrv := hR.1
        clear hR
        by_cases hv0 : sameB u v = false
        case pos =>
          rw [hv0] at hrv
          subst hrv
          have hv : sameDe (De.mk kn kt klo khi (some ⟨e1, o1, none⟩) kc kl kco kv) (De.mk qn qt qlo qhi (some ⟨e2, o2, none⟩) qc ql qco qv) = false := by unfold sameDe; rw [allZ_no hu hw hv0, Bool.and_false]
          (repeat first | refine goN ?_ | ((try conv => whnf); first | (refine Ar_gate ?_; first | (fail_if_success skip) | refine xA ?_) | (first | refine Do_str_eq ?_ | refine Do_str_ne ?_ | refine DoN_len tok rfl ?_ | refine Eqv_in ?_)) | ((try conv => whnf); (first | (refine St_gate ?_; refine xS ?_) | (refine StN_gate ?_; refine xN ?_)); clear H; intro w H))
          (repeat (refine Kept_gate ?_; (first | refine xK ?_ | refine ⟨keepSrc (H.rd t1) hru rfl, ?_⟩ | refine ⟨keepSrc (H.rd t2) hrw rfl, ?_⟩); (repeat first | refine goN ?_ | ((try conv => whnf); first | (refine Ar_gate ?_; first | (fail_if_success skip) | refine xA ?_) | (first | refine Do_str_eq ?_ | refine Do_str_ne ?_ | refine DoN_len tok rfl ?_ | refine Eqv_in ?_)) | ((try conv => whnf); (first | (refine St_gate ?_; refine xS ?_) | (refine StN_gate ?_; refine xN ?_)); clear H; intro w H))))
          exact Ret_in (ret_no (no_V (allZ_no hx hy hv)) H.tail.tail.tail.tail)
        case neg =>
          have hv0 : sameB u v = true := by cases h : sameB u v <;> simp_all
          rw [hv0] at hrv
          subst hrv
          (repeat first | refine goN ?_ | ((try conv => whnf); first | (refine Ar_gate ?_; first | (fail_if_success skip) | refine xA ?_) | (first | refine Do_str_eq ?_ | refine Do_str_ne ?_ | refine DoN_len tok rfl ?_ | refine Eqv_in ?_)) | ((try conv => whnf); (first | (refine St_gate ?_; refine xS ?_) | (refine StN_gate ?_; refine xN ?_)); clear H; intro w H))
          (repeat (refine Kept_gate ?_; (first | refine xK ?_ | refine ⟨keepSrc (H.rd t1) hru rfl, ?_⟩ | refine ⟨keepSrc (H.rd t2) hrw rfl, ?_⟩); (repeat first | refine goN ?_ | ((try conv => whnf); first | (refine Ar_gate ?_; first | (fail_if_success skip) | refine xA ?_) | (first | refine Do_str_eq ?_ | refine Do_str_ne ?_ | refine DoN_len tok rfl ?_ | refine Eqv_in ?_)) | ((try conv => whnf); (first | (refine St_gate ?_; refine xS ?_) | (refine StN_gate ?_; refine xN ?_)); clear H; intro w H))))
          exact ⟨j + 1, ⟨congrArg some (vint (by omega)), trivial⟩, ⟨⟨by omega, allZ_up hu hw hv0 hal⟩, H⟩, by omega⟩
      · have hje : j = kv.length := by omega
        subst hje
        have hv : sameDe (De.mk kn kt klo khi ka kc kl kco kv) (De.mk qn qt qlo qhi qa qc ql qco qv) = true := by
          unfold sameDe
          rw [decide_eq_true g1, decide_eq_true g2, decide_eq_true g3, decide_eq_true g4, allZ_all g5 hal]
          rfl
        (repeat first | refine goN ?_ | ((try conv => whnf); first | (refine Ar_gate ?_; first | (fail_if_success skip) | refine xA ?_) | (first | refine Do_str_eq ?_ | refine Do_str_ne ?_ | refine DoN_len tok rfl ?_ | refine Eqv_in ?_)) | ((try conv => whnf); (first | (refine St_gate ?_; refine xS ?_) | (refine StN_gate ?_; refine xN ?_)); clear H; intro w H))
        exact ⟨i + 1, ⟨congrArg some (vint (by omega)), trivial⟩, ⟨⟨by omega, allZ_up hx hy hv hall⟩, H.tail.tail⟩, by omega⟩
    · have k3 : ¬ (i : Int) < (V.length : Nat) := k1
      have hie : i = V.length := by omega
      subst hie
      have hZ2 : allZ (V.map sameDe) V' = true := allZ_all h2 hall
      clear hall hi k1
      (repeat first | refine goN ?_ | ((try conv => whnf); first | (refine Ar_gate ?_; first | (fail_if_success skip) | refine xA ?_) | (first | refine Do_str_eq ?_ | refine Do_str_ne ?_ | refine DoN_len tok rfl ?_ | refine Eqv_in ?_)) | ((try conv => whnf); (first | (refine St_gate ?_; refine xS ?_) | (refine StN_gate ?_; refine xN ?_)); clear H; intro w H))
      refine Loop_intro (fun i : Nat => [(159, .int .i64 (i : Int))]) (fun i w => (i ≤ P.length ∧ ∀ (j : Nat) u v, j < i → P[j]? = some u → P'[j]? = some v → samePr u v = true) ∧ Sep w0 w (cellsR yb 26 (soV (So.mk ea' ec' va' vc' pa' pc' E' V' P')) :: cellsR xb 26 (soV (So.mk ea ec va vc pa pc E V P)) :: l)) (fun i => P.length - i)
        0 ⟨rfl, trivial⟩ ⟨⟨Nat.zero_le _, fun j u v h => by omega⟩, H⟩ ?_
      clear H
      rintro i w ⟨⟨hi, hall⟩, H⟩
      refine Br_dec (fun k1 => ?_) (fun k1 => ?_)
      · have hlt : i < P.length := Int.ofNat_lt.1 k1
        have hlt2 : i < P'.length := by omega
        obtain ⟨⟨kn, ka, kc, kl, kco, kv⟩, hx⟩ : ∃ u, P[i]? = some u := ⟨_, List.getElem?_eq_getElem hlt⟩
        obtain ⟨⟨qn, qa, qc, ql, qco, qv⟩, hy⟩ : ∃ u, P'[i]? = some u := ⟨_, List.getElem?_eq_getElem hlt2⟩
        have hmx := List.mem_of_getElem? hx
        have hmy := List.mem_of_getElem? hy
        have hrx := rowPart (f := prV) (sz := 4) prV_len hx
        have hry := rowPart (f := prV) (sz := 4) prV_len hy
        have s1 := ps
        have s2 := ps'
        obtain ⟨ba, oa, ha⟩ := s1.addr (by rw [rowLen prV_len]; omega)
        obtain ⟨bb, ob, hb'⟩ := s2.addr (by rw [rowLen prV_len]; omega)
        subst ha hb'
        have t1 := (spr _ hmx).1
        have t2 := (spr' _ hmy).1
        have u1 := (spr _ hmx).2
        have u2 := (spr' _ hmy).2
        have hkl := pr_len (c3 _ hmx)
        have hql := pr_len (d3 _ hmy)
        have hkb := pr_ru (c3 _ hmx)
        have hqb := pr_ru (d3 _ hmy)
        simp only [] at t1 t2 u1 u2 hkl hql hkb hqb
        (repeat first | refine goN ?_ | ((try conv => whnf); first | (refine Ar_gate ?_; first | (fail_if_success skip) | refine xA ?_) | (first | refine Do_str_eq ?_ | refine Do_str_ne ?_ | refine DoN_len tok rfl ?_ | refine Eqv_in ?_)) | ((try conv => whnf); (first | (refine St_gate ?_; refine xS ?_) | (refine StN_gate ?_; refine xN ?_)); clear H; intro w H))
        refine Ix_in i rfl hlt ?_
        refine LdN_src (H.rd s1) (vs := [.string kn, .slice ka kv.length kc, .int .i64 kl, .int .i64 kco]) hrx rfl ?_
        (repeat first | refine goN ?_ | ((try conv => whnf); first | (refine Ar_gate ?_; first | (fail_if_success skip) | refine xA ?_) | (first | refine Do_str_eq ?_ | refine Do_str_ne ?_ | refine DoN_len tok rfl ?_ | refine Eqv_in ?_)) | ((try conv => whnf); (first | (refine St_gate ?_; refine xS ?_) | (refine StN_gate ?_; refine xN ?_)); clear H; intro w H))
        (refine Nw_sep H ?_; clear H; intro kb w H; (try simp only [Value.cells, List.toList_toArray, List.append_nil, List.cons_append, List.nil_append] at H))
        (repeat first | refine goN ?_ | ((try conv => whnf); first | (refine Ar_gate ?_; first | (fail_if_success skip) | refine xA ?_) | (first | refine Do_str_eq ?_ | refine Do_str_ne ?_ | refine DoN_len tok rfl ?_ | refine Eqv_in ?_)) | ((try conv => whnf); (first | (refine St_gate ?_; refine xS ?_) | (refine StN_gate ?_; refine xN ?_)); clear H; intro w H))
        refine Ix_in i rfl hlt2 ?_
        refine LdN_src (H.rd s2) (vs := [.string qn, .slice qa qv.length qc, .int .i64 ql, .int .i64 qco]) hry rfl ?_
        (repeat first | refine goN ?_ | ((try conv => whnf); first | (refine Ar_gate ?_; first | (fail_if_success skip) | refine xA ?_) | (first | refine Do_str_eq ?_ | refine Do_str_ne ?_ | refine DoN_len tok rfl ?_ | refine Eqv_in ?_)) | ((try conv => whnf); (first | (refine St_gate ?_; refine xS ?_) | (refine StN_gate ?_; refine xN ?_)); clear H; intro w H))
        (refine Nw_sep H ?_; clear H; intro qb w H; (try simp only [Value.cells, List.toList_toArray, List.append_nil, List.cons_append, List.nil_append] at H))
        (repeat first | refine goN ?_ | ((try conv => whnf); first | (refine Ar_gate ?_; first | (fail_if_success skip) | refine xA ?_) | (first | refine Do_str_eq ?_ | refine Do_str_ne ?_ | refine DoN_len tok rfl ?_ | refine Eqv_in ?_)) | ((try conv => whnf); (first | (refine St_gate ?_; refine xS ?_) | (refine StN_gate ?_; refine xN ?_)); clear H; intro w H))
        by_cases g1 : kn = qn
        case neg =>
          have hv : samePr (Pr.mk kn ka kc kl kco kv) (Pr.mk qn qa qc ql qco qv) = false := by unfold samePr; rw [decide_eq_false g1]; rfl
          (repeat first | refine goN ?_ | ((try conv => whnf); first | (refine Ar_gate ?_; first | (fail_if_success skip) | refine xA ?_) | (first | refine Do_str_eq ?_ | refine Do_str_ne ?_ | refine DoN_len tok rfl ?_ | refine Eqv_in ?_)) | ((try conv => whnf); (first | (refine St_gate ?_; refine xS ?_) | (refine StN_gate ?_; refine xN ?_)); clear H; intro w H))
          exact Ret_in (ret_no (no_P (allZ_no hx hy hv)) H.tail.tail.tail.tail)
        by_cases g5 : kv.length = qv.length
        case neg =>
          have hv : samePr (Pr.mk kn ka kc kl kco kv) (Pr.mk qn qa qc ql qco qv) = false := by unfold samePr; rw [allZ_ne g5, Bool.and_false]
          (repeat first | refine goN ?_ | ((try conv => whnf); first | (refine Ar_gate ?_; first | (fail_if_success skip) | refine xA ?_) | (first | refine Do_str_eq ?_ | refine Do_str_ne ?_ | refine DoN_len tok rfl ?_ | refine Eqv_in ?_)) | ((try conv => whnf); (first | (refine St_gate ?_; refine xS ?_) | (refine StN_gate ?_; refine xN ?_)); clear H; intro w H))
          exact Ret_in (ret_no (no_P (allZ_no hx hy hv)) H.tail.tail.tail.tail)
        (repeat first | refine goN ?_ | ((try conv => whnf); first | (refine Ar_gate ?_; first | (fail_if_success skip) | refine xA ?_) | (first | refine Do_str_eq ?_ | refine Do_str_ne ?_ | refine DoN_len tok rfl ?_ | refine Eqv_in ?_)) | ((try conv => whnf); (first | (refine St_gate ?_; refine xS ?_) | (refine StN_gate ?_; refine xN ?_)); clear H; intro w H))
        refine Loop_intro (fun j : Nat => [(186, .int .i64 (j : Int))]) (fun j w => (j ≤ kv.length ∧ ∀ (r : Nat) u v, r < j → kv[r]? = some u → qv[r]? = some v → sameRu u v = true) ∧ Sep w0 w (cellsR qb 59 (prV (Pr.mk qn qa qc ql qco qv)) :: cellsR kb 59 (prV (Pr.mk kn ka kc kl kco kv)) :: cellsR yb 26 (soV (So.mk ea' ec' va' vc' (some ⟨bb, ob, none⟩) pc' E' V' P')) :: cellsR xb 26 (soV (So.mk ea ec va vc (some ⟨ba, oa, none⟩) pc E V P)) :: l)) (fun j => kv.length - j)
          0 ⟨rfl, trivial⟩ ⟨⟨Nat.zero_le _, fun r u v h => by omega⟩, H⟩ ?_
        clear H
        rintro j w ⟨⟨hj, hal⟩, H⟩
        refine Br_dec (fun k2 => ?_) (fun k2 => ?_)
        · have hlj : j < kv.length := by omega
          have hlj2 : j < qv.length := by omega
          refine Exists.elim (⟨_, List.getElem?_eq_getElem hlj⟩ : ∃ u, kv[j]? = some u) fun u hu => ?_
          refine Exists.elim (⟨_, List.getElem?_eq_getElem hlj2⟩ : ∃ u, qv[j]? = some u) fun v hw => ?_
          have hmu := List.mem_of_getElem? hu
          have hmw := List.mem_of_getElem? hw
          have hru := rowPart (f := ruV) (sz := 7) ruV_len hu
          have hrw := rowPart (f := ruV) (sz := 7) ruV_len hw
          refine Exists.elim (t1.addr (by rw [rowLen ruV_len]; omega)) fun e1 he1 => Exists.elim he1 fun o1 he1 => ?_
          refine Exists.elim (t2.addr (by rw [rowLen ruV_len]; omega)) fun e2 he2 => Exists.elim he2 fun o2 he2 => ?_
          subst he1 he2
          have v1 := u1 u hmu
          have v2 := u2 v hmw
          have x1 := hkb u hmu
          have x2 := hqb v hmw
          (repeat first | refine goN ?_ | ((try conv => whnf); first | (refine Ar_gate ?_; first | (fail_if_success skip) | refine xA ?_) | (first | refine Do_str_eq ?_ | refine Do_str_ne ?_ | refine DoN_len tok rfl ?_ | refine Eqv_in ?_)) | ((try conv => whnf); (first | (refine St_gate ?_; refine xS ?_) | (refine StN_gate ?_; refine xN ?_)); clear H; intro w H))
          refine Draw_intro mixed [0, 1, 2, 3, 4, 5, 6, 7, 8, 9, 10, 11, 12, 13, 14, 15, 16, 17, 18, 19, 20, 21, 22, 23, 24, 25, 26, 27, 28, 29] (by decide +kernel) (fun w _ fd => ?_); replace H := H.fr fd; clear fd
          (repeat first | refine goN ?_ | ((try conv => whnf); first | (refine Ar_gate ?_; first | (fail_if_success skip) | refine xA ?_) | (first | refine Do_str_eq ?_ | refine Do_str_ne ?_ | refine DoN_len tok rfl ?_ | refine Eqv_in ?_)) | ((try conv => whnf); (first | (refine St_gate ?_; refine xS ?_) | (refine StN_gate ?_; refine xN ?_)); clear H; intro w H))
          refine Ix_in j rfl hlj ?_
          (repeat first | refine goN ?_ | ((try conv => whnf); first | (refine Ar_gate ?_; first | (fail_if_success skip) | refine xA ?_) | (first | refine Do_str_eq ?_ | refine Do_str_ne ?_ | refine DoN_len tok rfl ?_ | refine Eqv_in ?_)) | ((try conv => whnf); (first | (refine St_gate ?_; refine xS ?_) | (refine StN_gate ?_; refine xN ?_)); clear H; intro w H))
          refine LdN_src (j := j * 7 + 0) (H.rd t1) (vs := [.int .i64 u.when_.op, .int .i64 u.when_.num, .string u.when_.name, .slice u.when_.at_ u.when_.kids.length u.when_.cap, .int .i64 u.when_.line, .int .i64 u.when_.col]) (rowSub (r := 0) (n := 6) hru (by decide)) rfl ?_
          (repeat first | refine goN ?_ | ((try conv => whnf); first | (refine Ar_gate ?_; first | (fail_if_success skip) | refine xA ?_) | (first | refine Do_str_eq ?_ | refine Do_str_ne ?_ | refine DoN_len tok rfl ?_ | refine Eqv_in ?_)) | ((try conv => whnf); (first | (refine St_gate ?_; refine xS ?_) | (refine StN_gate ?_; refine xN ?_)); clear H; intro w H))
          refine Ix_in j rfl hlj2 ?_
          (repeat first | refine goN ?_ | ((try conv => whnf); first | (refine Ar_gate ?_; first | (fail_if_success skip) | refine xA ?_) | (first | refine Do_str_eq ?_ | refine Do_str_ne ?_ | refine DoN_len tok rfl ?_ | refine Eqv_in ?_)) | ((try conv => whnf); (first | (refine St_gate ?_; refine xS ?_) | (refine StN_gate ?_; refine xN ?_)); clear H; intro w H))
          refine LdN_src (j := j * 7 + 0) (H.rd t2) (vs := [.int .i64 v.when_.op, .int .i64 v.when_.num, .string v.when_.name, .slice v.when_.at_ v.when_.kids.length v.when_.cap, .int .i64 v.when_.line, .int .i64 v.when_.col]) (rowSub (r := 0) (n := 6) hrw (by decide)) rfl ?_
          (repeat first | refine goN ?_ | ((try conv => whnf); first | (refine Ar_gate ?_; first | (fail_if_success skip) | refine xA ?_) | (first | refine Do_str_eq ?_ | refine Do_str_ne ?_ | refine DoN_len tok rfl ?_ | refine Eqv_in ?_)) | ((try conv => whnf); (first | (refine St_gate ?_; refine xS ?_) | (refine StN_gate ?_; refine xN ?_)); clear H; intro w H))
          refine Call_of (dSame u.when_ v.when_ H v1.1 v2.1 (ru_when x1) (ru_when x2)) ?_
          clear H
          intro rv w hR
          have H := hR.2
          have hrv := hR.1
          clear hR
          by_cases hv0 : sameB u.when_ v.when_ = false
          case pos =>
            rw [hv0] at hrv
            subst hrv
            have hv1 : sameRu u v = false := by unfold sameRu; rw [hv0]; rfl
            have hv : samePr (Pr.mk kn (some ⟨e1, o1, none⟩) kc kl kco kv) (Pr.mk qn (some ⟨e2, o2, none⟩) qc ql qco qv) = false := by unfold samePr; rw [allZ_no hu hw hv1, Bool.and_false]
            (repeat first | refine goN ?_ | ((try conv => whnf); first | (refine Ar_gate ?_; first | (fail_if_success skip) | refine xA ?_) | (first | refine Do_str_eq ?_ | refine Do_str_ne ?_ | refine DoN_len tok rfl ?_ | refine Eqv_in ?_)) | ((try conv => whnf); (first | (refine St_gate ?_; refine xS ?_) | (refine StN_gate ?_; refine xN ?_)); clear H; intro w H))
            (repeat (refine Kept_gate ?_; (first | refine xK ?_ | refine ⟨keepOne (j := j * 7 + 6) (H.rd t1) (rowGet ruV_len hu (by decide : 6 < 7)), ?_⟩ | refine ⟨keepOne (j := j * 7 + 6) (H.rd t2) (rowGet ruV_len hw (by decide : 6 < 7)), ?_⟩ | refine ⟨keepSrc (j := j * 7 + 0) (H.rd t1) (rowSub (r := 0) (n := 6) hru (by decide)) rfl, ?_⟩ | refine ⟨keepSrc (j := j * 7 + 0) (H.rd t2) (rowSub (r := 0) (n := 6) hrw (by decide)) rfl, ?_⟩); (repeat first | refine goN ?_ | ((try conv => whnf); first | (refine Ar_gate ?_; first | (fail_if_success skip) | refine xA ?_) | (first | refine Do_str_eq ?_ | refine Do_str_ne ?_ | refine DoN_len tok rfl ?_ | refine Eqv_in ?_)) | ((try conv => whnf); (first | (refine St_gate ?_; refine xS ?_) | (refine StN_gate ?_; refine xN ?_)); clear H; intro w H))))
            exact Ret_in (ret_no (no_P (allZ_no hx hy hv)) H.tail.tail.tail.tail)
          case neg =>
            have hv0 : sameB u.when_ v.when_ = true := by cases h : sameB u.when_ v.when_ <;> simp_all
            rw [hv0] at hrv
            subst hrv
            (repeat first | refine goN ?_ | ((try conv => whnf); first | (refine Ar_gate ?_; first | (fail_if_success skip) | refine xA ?_) | (first | refine Do_str_eq ?_ | refine Do_str_ne ?_ | refine DoN_len tok rfl ?_ | refine Eqv_in ?_)) | ((try conv => whnf); (first | (refine St_gate ?_; refine xS ?_) | (refine StN_gate ?_; refine xN ?_)); clear H; intro w H))
            refine Ix_in j rfl hlj ?_
            (repeat first | refine goN ?_ | ((try conv => whnf); first | (refine Ar_gate ?_; first | (fail_if_success skip) | refine xA ?_) | (first | refine Do_str_eq ?_ | refine Do_str_ne ?_ | refine DoN_len tok rfl ?_ | refine Eqv_in ?_)) | ((try conv => whnf); (first | (refine St_gate ?_; refine xS ?_) | (refine StN_gate ?_; refine xN ?_)); clear H; intro w H))
            refine Ld_src (j := j * 7 + 6) (H.rd t1) (rowGet ruV_len hu (by decide : 6 < 7)) ?_
            (repeat first | refine goN ?_ | ((try conv => whnf); first | (refine Ar_gate ?_; first | (fail_if_success skip) | refine xA ?_) | (first | refine Do_str_eq ?_ | refine Do_str_ne ?_ | refine DoN_len tok rfl ?_ | refine Eqv_in ?_)) | ((try conv => whnf); (first | (refine St_gate ?_; refine xS ?_) | (refine StN_gate ?_; refine xN ?_)); clear H; intro w H))
            refine Ix_in j rfl hlj2 ?_
            (repeat first | refine goN ?_ | ((try conv => whnf); first | (refine Ar_gate ?_; first | (fail_if_success skip) | refine xA ?_) | (first | refine Do_str_eq ?_ | refine Do_str_ne ?_ | refine DoN_len tok rfl ?_ | refine Eqv_in ?_)) | ((try conv => whnf); (first | (refine St_gate ?_; refine xS ?_) | (refine StN_gate ?_; refine xN ?_)); clear H; intro w H))
            refine Ld_src (j := j * 7 + 6) (H.rd t2) (rowGet ruV_len hw (by decide : 6 < 7)) ?_
            (repeat first | refine goN ?_ | ((try conv => whnf); first | (refine Ar_gate ?_; first | (fail_if_success skip) | refine xA ?_) | (first | refine Do_str_eq ?_ | refine Do_str_ne ?_ | refine DoN_len tok rfl ?_ | refine Eqv_in ?_)) | ((try conv => whnf); (first | (refine St_gate ?_; refine xS ?_) | (refine StN_gate ?_; refine xN ?_)); clear H; intro w H))
            refine Call_of (dSameAs H v1.2.1 v2.2.1 (Nat.le_trans (ru_len x1) (by decide)) (Nat.le_trans (ru_len x2) (by decide)) (fun x hx => ⟨v1.2.2 x hx, ru_as x1 x hx⟩) (fun x hx => ⟨v2.2.2 x hx, ru_as x2 x hx⟩)) ?_
            clear H
            intro rv w hR
            have H := hR.2
            have hrv := hR.1
            clear hR
            by_cases hv2 : allZ (u.acts.map sameAs) v.acts = false
            case pos =>
              rw [hv2] at hrv
              subst hrv
              have hv1 : sameRu u v = false := by unfold sameRu; rw [hv2, Bool.and_false]
              have hv : samePr (Pr.mk kn (some ⟨e1, o1, none⟩) kc kl kco kv) (Pr.mk qn (some ⟨e2, o2, none⟩) qc ql qco qv) = false := by unfold samePr; rw [allZ_no hu hw hv1, Bool.and_false]
              (repeat first | refine goN ?_ | ((try conv => whnf); first | (refine Ar_gate ?_; first | (fail_if_success skip) | refine xA ?_) | (first | refine Do_str_eq ?_ | refine Do_str_ne ?_ | refine DoN_len tok rfl ?_ | refine Eqv_in ?_)) | ((try conv => whnf); (first | (refine St_gate ?_; refine xS ?_) | (refine StN_gate ?_; refine xN ?_)); clear H; intro w H))
              (repeat (refine Kept_gate ?_; (first | refine xK ?_ | refine ⟨keepOne (j := j * 7 + 6) (H.rd t1) (rowGet ruV_len hu (by decide : 6 < 7)), ?_⟩ | refine ⟨keepOne (j := j * 7 + 6) (H.rd t2) (rowGet ruV_len hw (by decide : 6 < 7)), ?_⟩ | refine ⟨keepSrc (j := j * 7 + 0) (H.rd t1) (rowSub (r := 0) (n := 6) hru (by decide)) rfl, ?_⟩ | refine ⟨keepSrc (j := j * 7 + 0) (H.rd t2) (rowSub (r := 0) (n := 6) hrw (by decide)) rfl, ?_⟩); (repeat first | refine goN ?_ | ((try conv => whnf); first | (refine Ar_gate ?_; first | (fail_if_success skip) | refine xA ?_) | (first | refine Do_str_eq ?_ | refine Do_str_ne ?_ | refine DoN_len tok rfl ?_ | refine Eqv_in ?_)) | ((try conv => whnf); (first | (refine St_gate ?_; refine xS ?_) | (refine StN_gate ?_; refine xN ?_)); clear H; intro w H))))
              exact Ret_in (ret_no (no_P (allZ_no hx hy hv)) H.tail.tail.tail.tail)
            case neg =>
              have hv2 : allZ (u.acts.map sameAs) v.acts = true := by cases h : allZ (u.acts.map sameAs) v.acts <;> simp_all
              rw [hv2] at hrv
              subst hrv
              have hv0 : sameRu u v = true := by unfold sameRu; rw [hv0, hv2]; rfl
              (repeat first | refine goN ?_ | ((try conv => whnf); first | (refine Ar_gate ?_; first | (fail_if_success skip) | refine xA ?_) | (first | refine Do_str_eq ?_ | refine Do_str_ne ?_ | refine DoN_len tok rfl ?_ | refine Eqv_in ?_)) | ((try conv => whnf); (first | (refine St_gate ?_; refine xS ?_) | (refine StN_gate ?_; refine xN ?_)); clear H; intro w H))
              (repeat (refine Kept_gate ?_; (first | refine xK ?_ | refine ⟨keepOne (j := j * 7 + 6) (H.rd t1) (rowGet ruV_len hu (by decide : 6 < 7)), ?_⟩ | refine ⟨keepOne (j := j * 7 + 6) (H.rd t2) (rowGet ruV_len hw (by decide : 6 < 7)), ?_⟩ | refine ⟨keepSrc (j := j * 7 + 0) (H.rd t1) (rowSub (r := 0) (n := 6) hru (by decide)) rfl, ?_⟩ | refine ⟨keepSrc (j := j * 7 + 0) (H.rd t2) (rowSub (r := 0) (n := 6) hrw (by decide)) rfl, ?_⟩); (repeat first | refine goN ?_ | ((try conv => whnf); first | (refine Ar_gate ?_; first | (fail_if_success skip) | refine xA ?_) | (first | refine Do_str_eq ?_ | refine Do_str_ne ?_ | refine DoN_len tok rfl ?_ | refine Eqv_in ?_)) | ((try conv => whnf); (first | (refine St_gate ?_; refine xS ?_) | (refine StN_gate ?_; refine xN ?_)); clear H; intro w H))))
              exact ⟨j + 1, ⟨congrArg some (vint (by omega)), trivial⟩, ⟨⟨by omega, allZ_up hu hw hv0 hal⟩, H⟩, by omega⟩
        · have hje : j = kv.length := by omega
          subst hje
          have hv : samePr (Pr.mk kn ka kc kl kco kv) (Pr.mk qn qa qc ql qco qv) = true := by
            unfold samePr
            rw [decide_eq_true g1, allZ_all g5 hal]
            rfl
          (repeat first | refine goN ?_ | ((try conv => whnf); first | (refine Ar_gate ?_; first | (fail_if_success skip) | refine xA ?_) | (first | refine Do_str_eq ?_ | refine Do_str_ne ?_ | refine DoN_len tok rfl ?_ | refine Eqv_in ?_)) | ((try conv => whnf); (first | (refine St_gate ?_; refine xS ?_) | (refine StN_gate ?_; refine xN ?_)); clear H; intro w H))
          exact ⟨i + 1, ⟨congrArg some (vint (by omega)), trivial⟩, ⟨⟨by omega, allZ_up hx hy hv hall⟩, H.tail.tail⟩, by omega⟩
      · have k3 : ¬ (i : Int) < (P.length : Nat) := k1
        have hie : i = P.length := by omega
        subst hie
        have hZ3 : allZ (P.map samePr) P' = true := allZ_all h3 hall
        clear hall hi k1
        (repeat first | refine goN ?_ | ((try conv => whnf); first | (refine Ar_gate ?_; first | (fail_if_success skip) | refine xA ?_) | (first | refine Do_str_eq ?_ | refine Do_str_ne ?_ | refine DoN_len tok rfl ?_ | refine Eqv_in ?_)) | ((try conv => whnf); (first | (refine St_gate ?_; refine xS ?_) | (refine StN_gate ?_; refine xN ?_)); clear H; intro w H))
        exact Ret_in ⟨by unfold sameSo; rw [hZ1, hZ2, hZ3]; rfl, H.tail.tail⟩
end
end Go.Proofs.YthpekiohalejmaaGreatDoor
