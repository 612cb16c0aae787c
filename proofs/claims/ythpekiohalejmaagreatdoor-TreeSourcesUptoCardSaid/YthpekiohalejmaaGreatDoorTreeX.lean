/- Expressions in memory: how many they are, are they the same. -/
import Derived.Test.YthpekiohalejmaaGreatDoorTreeW
set_option linter.unusedVariables false
set_option linter.unusedSimpArgs false
namespace Go.Proofs.YthpekiohalejmaaGreatDoor
open Go Go.Vc Go.Tree
set_option maxHeartbeats 4000000
set_option maxRecDepth 100000
def exV (x : Ex) : List Value := [.int .i64 x.op, .int .i64 x.num, .string x.name, .slice x.at_ x.kids.length x.cap, .int .i64 x.line, .int .i64 x.col]
abbrev exA (x : Ex) : Value := .agg #[.int .i64 x.op, .int .i64 x.num, .string x.name, .slice x.at_ x.kids.length x.cap, .int .i64 x.line, .int .i64 x.col]
theorem exV_len (x : Ex) : (exV x).length = 6 := rfl
/-- The parts lie where they are said to lie. -/
def TOk (w : World) : Ex → Prop := Ex.fold fun x r => Src w x.at_ x.kids.length 6 (x.kids.flatMap exV) ∧ ∀ p ∈ r, p
theorem TOk_iff {w : World} {x : Ex} : TOk w x ↔ Src w x.at_ x.kids.length 6 (x.kids.flatMap exV) ∧ ∀ k ∈ x.kids, TOk w k := by
  have h : TOk w x = (Src w x.at_ x.kids.length 6 (x.kids.flatMap exV) ∧ ∀ p ∈ x.kids.map (TOk w), p) := Ex.fold_eq _ x
  rw [h]
  constructor
  · rintro ⟨h1, h2⟩
    exact ⟨h1, fun k hk => h2 _ (List.mem_map.2 ⟨k, hk, rfl⟩)⟩
  · rintro ⟨h1, h2⟩
    refine ⟨h1, fun p hp => ?_⟩
    obtain ⟨k, hk, rfl⟩ := List.mem_map.1 hp
    exact h2 k hk
section
variable {w0 w : World} {l : List Res}
theorem TOk.rd {x : Ex} (h : TOk w0 x) (H : Sep w0 w l) : TOk w x := by
  revert h
  induction x using Ex.ind with
  | h x ih =>
    rw [TOk_iff, TOk_iff]
    rintro ⟨h1, h2⟩
    exact ⟨H.rd h1, fun k hk => ih k hk (h2 k hk)⟩
theorem tSize (x : Ex) : ∀ {w : World} {l : List Res} (H : Sep w0 w l) (hs : ∀ {w' : World} {l' : List Res}, Sep w0 w' (l' ++ l) → TOk w' x) (hb : bulk x ≤ 10000000),
    Does Tryz.prog 11 #[exA x] w fun v w' => v = .int .i64 (size x : Int) ∧ Sep w0 w' l := by
  induction x using Ex.ind with
  | h x ih =>
    intro w l H hs hb
    refine Does_intro tok (Tryz.call11 _ _) Tryz.func11 rfl (by rfl) ?_
    have hkl := kids_bulk x
    have hsb := size_bulk x
    have hse := size_eq x
    (repeat first | refine goN ?_ | ((try conv => whnf); first | (refine Ar_gate ?_; first | (fail_if_success skip) | refine xA ?_) | (first | refine Do_str_eq ?_ | refine Do_str_ne ?_ | refine DoN_len tok rfl ?_ | refine Eqv_in ?_)) | ((try conv => whnf); (first | (refine St_gate ?_; refine xS ?_) | (refine StN_gate ?_; refine xN ?_)); clear H; intro w H))
    (refine Nw_sep H ?_; clear H; intro xb w H; (try simp only [Value.cells, List.toList_toArray, List.append_nil, List.cons_append, List.nil_append] at H))
    (repeat first | refine goN ?_ | ((try conv => whnf); first | (refine Ar_gate ?_; first | (fail_if_success skip) | refine xA ?_) | (first | refine Do_str_eq ?_ | refine Do_str_ne ?_ | refine DoN_len tok rfl ?_ | refine Eqv_in ?_)) | ((try conv => whnf); (first | (refine St_gate ?_; refine xS ?_) | (refine StN_gate ?_; refine xN ?_)); clear H; intro w H))
    refine Loop_intro (fun i : Nat => [(9, .int .i64 (i : Int)), (3, .int .i64 ((1 + ((x.kids.take i).map size).sum : Nat) : Int))]) (fun i w => i ≤ x.kids.length ∧ Sep w0 w (cellsR xb 36 (exV x) :: l)) (fun i => x.kids.length - i)
      0 ⟨rfl, rfl, trivial⟩ ⟨Nat.zero_le _, H⟩ ?_
    clear H
    rintro i w ⟨hi, H⟩
    refine Br_dec (fun k1 => ?_) (fun k1 => ?_)
    · have hlt : i < x.kids.length := by omega
      have hok := TOk_iff.1 (hs (l' := [_]) H)
      obtain ⟨b, o, ho⟩ := hok.1.addr (by rw [rowLen exV_len]; omega)
      have hx : x.kids[i]? = some x.kids[i] := List.getElem?_eq_getElem hlt
      have htk : (x.kids.take (i + 1)).map size = (x.kids.take i).map size ++ [size x.kids[i]] := by rw [List.take_add_one, hx, List.map_append]; rfl
      have hmem := List.getElem_mem hlt
      have hsum : ((x.kids.take i).map size).sum + size x.kids[i] ≤ (x.kids.map size).sum := by
        have := List.take_append_drop (i + 1) (x.kids.map size)
        rw [← this, List.sum_append, ← List.map_take, htk, List.sum_append]
        simp
      have hrow := rowPart (f := exV) (sz := 6) exV_len hx
      generalize x.kids[i] = k at *
      have hsrc := hok.1
      rw [ho] at hsrc ⊢
      refine Ix_in i rfl hlt ?_
      refine LdN_src hsrc (vs := [.int .i64 k.op, .int .i64 k.num, .string k.name, .slice k.at_ k.kids.length k.cap, .int .i64 k.line, .int .i64 k.col]) hrow rfl ?_
      (repeat first | refine goN ?_ | ((try conv => whnf); first | (refine Ar_gate ?_; first | (fail_if_success skip) | refine xA ?_) | (first | refine Do_str_eq ?_ | refine Do_str_ne ?_ | refine DoN_len tok rfl ?_ | refine Eqv_in ?_)) | ((try conv => whnf); (first | (refine St_gate ?_; refine xS ?_) | (refine StN_gate ?_; refine xN ?_)); clear H; intro w H))
      (refine Nw_sep H ?_; clear H; intro kb w H; (try simp only [Value.cells, List.toList_toArray, List.append_nil, List.cons_append, List.nil_append] at H))
      (repeat first | refine goN ?_ | ((try conv => whnf); first | (refine Ar_gate ?_; first | (fail_if_success skip) | refine xA ?_) | (first | refine Do_str_eq ?_ | refine Do_str_ne ?_ | refine DoN_len tok rfl ?_ | refine Eqv_in ?_)) | ((try conv => whnf); (first | (refine St_gate ?_; refine xS ?_) | (refine StN_gate ?_; refine xN ?_)); clear H; intro w H))
      have hbk := bulk_kid hmem
      refine Call_of (ih k hmem H (fun {w'} {l'} h => (TOk_iff.1 (hs (l' := l' ++ [_, _]) (by simpa using h))).2 k hmem) (by omega)) ?_
      clear H
      rintro _ w ⟨rfl, H⟩
      have hsk := size_bulk x
      (repeat first | refine goN ?_ | ((try conv => whnf); first | (refine Ar_gate ?_; first | (fail_if_success skip) | refine xA ?_) | (first | refine Do_str_eq ?_ | refine Do_str_ne ?_ | refine DoN_len tok rfl ?_ | refine Eqv_in ?_)) | ((try conv => whnf); (first | (refine St_gate ?_; refine xS ?_) | (refine StN_gate ?_; refine xN ?_)); clear H; intro w H))
      refine ⟨i + 1, ⟨congrArg some (vint (by omega)), congrArg some (vint ?_), trivial⟩, ⟨by omega, H.tail⟩, by omega⟩
      rw [htk, List.sum_append]
      simp; omega
    · obtain rfl : i = x.kids.length := by omega
      rw [List.take_length, ← hse]
      (repeat first | refine goN ?_ | ((try conv => whnf); first | (refine Ar_gate ?_; first | (fail_if_success skip) | refine xA ?_) | (first | refine Do_str_eq ?_ | refine Do_str_ne ?_ | refine DoN_len tok rfl ?_ | refine Eqv_in ?_)) | ((try conv => whnf); (first | (refine St_gate ?_; refine xS ?_) | (refine StN_gate ?_; refine xN ?_)); clear H; intro w H))
      exact Ret_in ⟨rfl, H.tail⟩
end
theorem exEqual {w0 w : World} {l : List Res} {xs ys : List Ex} {a b : Option Addr} {c d : Nat} (H : Sep w0 w l) (hs : ∀ {w' : World} {l' : List Res}, Sep w0 w' (l' ++ l) → Src w' a xs.length 6 (xs.flatMap exV)) (ht : ∀ {w' : World} {l' : List Res}, Sep w0 w' (l' ++ l) → Src w' b ys.length 6 (ys.flatMap exV))
    (hm : xs.length ≤ 10000000) (hn : ys.length ≤ 10000000) {k : FuncId}  {p : Ex → Ex → Bool}
    (hf : ∀ x ∈ xs, ∀ y ∈ ys, ∀ {w : World} {l' : List Res}, Sep w0 w (l' ++ l) → Does Tryz.prog k #[exA x, exA y] w fun v w' => v = .bool (p x y) ∧ Sep w0 w' (l' ++ l)) :
    Does Tryz.prog 28 #[.slice a xs.length c, .slice b ys.length d, .func (.func k) #[] #[]] w fun v w' => v = .bool (allZ (xs.map p) ys) ∧ Sep w0 w' l := by
  refine Does_intro tok (Tryz.call28 _ _) Tryz.func28 rfl (by rfl) ?_
  by_cases he : xs.length = ys.length
  case neg =>
    (repeat first | refine goN ?_ | ((try conv => whnf); first | (refine Ar_gate ?_; first | (fail_if_success skip) | refine xA ?_) | (first | refine Do_str_eq ?_ | refine Do_str_ne ?_ | refine DoN_len tok rfl ?_ | refine Eqv_in ?_)) | ((try conv => whnf); (first | (refine St_gate ?_; refine xS ?_) | (refine StN_gate ?_; refine xN ?_)); clear H; intro w H))
    refine Ret_in ⟨congrArg Value.bool (Eq.symm ?_), H⟩
    rw [Bool.eq_false_iff]
    intro h
    exact he (allZ_iff.1 h).1
  (repeat first | refine goN ?_ | ((try conv => whnf); first | (refine Ar_gate ?_; first | (fail_if_success skip) | refine xA ?_) | (first | refine Do_str_eq ?_ | refine Do_str_ne ?_ | refine DoN_len tok rfl ?_ | refine Eqv_in ?_)) | ((try conv => whnf); (first | (refine St_gate ?_; refine xS ?_) | (refine StN_gate ?_; refine xN ?_)); clear H; intro w H))
  refine Loop_intro (fun i : Nat => [(17, .int .i64 (i : Int))]) (fun i w => (i ≤ xs.length ∧ ∀ (j : Nat) x y, j < i → xs[j]? = some x → ys[j]? = some y → p x y = true) ∧ Sep w0 w l) (fun i => xs.length - i)
    0 ⟨rfl, trivial⟩ ⟨⟨Nat.zero_le _, fun j x y h => by omega⟩, H⟩ ?_
  clear H
  rintro i w ⟨⟨hi, hall⟩, H⟩
  refine Br_dec (fun k1 => ?_) (fun k1 => ?_)
  · have hlt : i < xs.length := by omega
    have hlt2 : i < ys.length := by omega
    have s1 := hs (l' := []) H
    obtain ⟨ba, oa, rfl⟩ := s1.addr (by rw [rowLen exV_len]; omega)
    have s2 := ht (l' := []) H
    obtain ⟨bb, ob, rfl⟩ := s2.addr (by rw [rowLen exV_len]; omega)
    have hx : xs[i]? = some xs[i] := List.getElem?_eq_getElem hlt
    have hy : ys[i]? = some ys[i] := List.getElem?_eq_getElem hlt2
    have hmx := List.getElem_mem hlt
    have hmy := List.getElem_mem hlt2
    have hrx := rowPart (f := exV) (sz := 6) exV_len hx
    have hry := rowPart (f := exV) (sz := 6) exV_len hy
    have hp : ∀ x y, xs[i]? = some x → ys[i]? = some y → p x y = p xs[i] ys[i] := fun x y h1 h2 => by rw [hx] at h1; rw [hy] at h2; cases h1; cases h2; rfl
    generalize xs[i] = x at *
    generalize ys[i] = y at *
    refine Ix_in i rfl hlt ?_
    refine LdN_src s1 (vs := [.int .i64 x.op, .int .i64 x.num, .string x.name, .slice x.at_ x.kids.length x.cap, .int .i64 x.line, .int .i64 x.col]) hrx rfl ?_
    clear s1 s2
    (repeat first | refine goN ?_ | ((try conv => whnf); first | (refine Ar_gate ?_; first | (fail_if_success skip) | refine xA ?_) | (first | refine Do_str_eq ?_ | refine Do_str_ne ?_ | refine DoN_len tok rfl ?_ | refine Eqv_in ?_)) | ((try conv => whnf); (first | (refine St_gate ?_; refine xS ?_) | (refine StN_gate ?_; refine xN ?_)); clear H; intro w H))
    (refine Nw_sep H ?_; clear H; intro b1 w H; (try simp only [Value.cells, List.toList_toArray, List.append_nil, List.cons_append, List.nil_append] at H))
    (repeat first | refine goN ?_ | ((try conv => whnf); first | (refine Ar_gate ?_; first | (fail_if_success skip) | refine xA ?_) | (first | refine Do_str_eq ?_ | refine Do_str_ne ?_ | refine DoN_len tok rfl ?_ | refine Eqv_in ?_)) | ((try conv => whnf); (first | (refine St_gate ?_; refine xS ?_) | (refine StN_gate ?_; refine xN ?_)); clear H; intro w H))
    have s2 := ht (l' := [_]) H
    refine Ix_in i rfl hlt2 ?_
    refine LdN_src s2 (vs := [.int .i64 y.op, .int .i64 y.num, .string y.name, .slice y.at_ y.kids.length y.cap, .int .i64 y.line, .int .i64 y.col]) hry rfl ?_
    clear s2
    (repeat first | refine goN ?_ | ((try conv => whnf); first | (refine Ar_gate ?_; first | (fail_if_success skip) | refine xA ?_) | (first | refine Do_str_eq ?_ | refine Do_str_ne ?_ | refine DoN_len tok rfl ?_ | refine Eqv_in ?_)) | ((try conv => whnf); (first | (refine St_gate ?_; refine xS ?_) | (refine StN_gate ?_; refine xN ?_)); clear H; intro w H))
    (refine Nw_sep H ?_; clear H; intro b2 w H; (try simp only [Value.cells, List.toList_toArray, List.append_nil, List.cons_append, List.nil_append] at H))
    (repeat first | refine goN ?_ | ((try conv => whnf); first | (refine Ar_gate ?_; first | (fail_if_success skip) | refine xA ?_) | (first | refine Do_str_eq ?_ | refine Do_str_ne ?_ | refine DoN_len tok rfl ?_ | refine Eqv_in ?_)) | ((try conv => whnf); (first | (refine St_gate ?_; refine xS ?_) | (refine StN_gate ?_; refine xN ?_)); clear H; intro w H))
    refine Call_of (hf x hmx y hmy (l' := [_, _]) H) ?_
    clear H
    rintro _ w ⟨rfl, H⟩
    cases hpx : p x y with
    | true =>
      (repeat first | refine goN ?_ | ((try conv => whnf); first | (refine Ar_gate ?_; first | (fail_if_success skip) | refine xA ?_) | (first | refine Do_str_eq ?_ | refine Do_str_ne ?_ | refine DoN_len tok rfl ?_ | refine Eqv_in ?_)) | ((try conv => whnf); (first | (refine St_gate ?_; refine xS ?_) | (refine StN_gate ?_; refine xN ?_)); clear H; intro w H))
      refine ⟨i + 1, ⟨congrArg some (vint (by omega)), trivial⟩, ⟨⟨by omega, fun j u v hj hu hv => ?_⟩, H.tail.tail⟩, by omega⟩
      rcases Nat.lt_or_ge j i with h | h
      · exact hall j u v h hu hv
      · obtain rfl : j = i := by omega
        rw [hp u v hu hv]; exact hpx
    | false =>
      (repeat first | refine goN ?_ | ((try conv => whnf); first | (refine Ar_gate ?_; first | (fail_if_success skip) | refine xA ?_) | (first | refine Do_str_eq ?_ | refine Do_str_ne ?_ | refine DoN_len tok rfl ?_ | refine Eqv_in ?_)) | ((try conv => whnf); (first | (refine St_gate ?_; refine xS ?_) | (refine StN_gate ?_; refine xN ?_)); clear H; intro w H))
      refine Ret_in ⟨congrArg Value.bool (Eq.symm ?_), H.tail.tail⟩
      rw [Bool.eq_false_iff]
      intro h
      have := (allZ_iff.1 h).2 i x y hx hy
      rw [hpx] at this; cases this
  · obtain rfl : i = xs.length := by omega
    (repeat first | refine goN ?_ | ((try conv => whnf); first | (refine Ar_gate ?_; first | (fail_if_success skip) | refine xA ?_) | (first | refine Do_str_eq ?_ | refine Do_str_ne ?_ | refine DoN_len tok rfl ?_ | refine Eqv_in ?_)) | ((try conv => whnf); (first | (refine St_gate ?_; refine xS ?_) | (refine StN_gate ?_; refine xN ?_)); clear H; intro w H))
    refine Ret_in ⟨congrArg Value.bool (Eq.symm ?_), H⟩
    exact allZ_iff.2 ⟨he, fun j x y hx hy => hall j x y (List.getElem?_eq_some_iff.1 hx).1 hx hy⟩

theorem exIndexW {w0 w : World} {l : List Res} {xs : List Ex} {a : Option Addr} {c : Nat} (H : Sep w0 w l) (hs : ∀ {w' : World} {l' : List Res}, Sep w0 w' (l' ++ l) → Src w' a xs.length 6 (xs.flatMap exV)) (hm : xs.length ≤ 10000000) {k : FuncId}  {p : Ex → Bool}
    (hf : ∀ x ∈ xs, ∀ {w : World} {l' : List Res}, Sep w0 w (l' ++ l) → Does Tryz.prog k #[exA x] w fun v w' => v = .bool (p x) ∧ Sep w0 w' (l' ++ l)) :
    Does Tryz.prog 87 #[.slice a xs.length c, .func (.func k) #[] #[]] w fun v w' => v = .int .i64 (match xs.findIdx? p with | some i => (i : Int) | none => -1) ∧ Sep w0 w' l := by
  refine Does_intro tok (Tryz.call87 _ _) Tryz.func87 rfl (by rfl) ?_
  (repeat first | refine goN ?_ | ((try conv => whnf); first | (refine Ar_gate ?_; first | (fail_if_success skip) | refine xA ?_) | (first | refine Do_str_eq ?_ | refine Do_str_ne ?_ | refine DoN_len tok rfl ?_ | refine Eqv_in ?_)) | ((try conv => whnf); (first | (refine St_gate ?_; refine xS ?_) | (refine StN_gate ?_; refine xN ?_)); clear H; intro w H))
  refine Loop_intro (fun i : Nat => [(8, .int .i64 (i : Int))]) (fun i w => (i ≤ xs.length ∧ ∀ j x, j < i → xs[j]? = some x → p x = false) ∧ Sep w0 w l) (fun i => xs.length - i) 0 ⟨rfl, trivial⟩ ⟨⟨Nat.zero_le _, fun j x h => by omega⟩, H⟩ ?_
  clear H
  rintro i w ⟨⟨hi, hno⟩, H⟩
  simp only [] at hi hno ⊢
  refine Br_dec (fun k1 => ?_) (fun k1 => ?_)
  · have hlt : i < xs.length := by omega
    have s1 := hs (l' := []) H
    obtain ⟨ba, oa, rfl⟩ := s1.addr (by rw [rowLen exV_len]; omega)
    have hx : xs[i]? = some xs[i] := List.getElem?_eq_getElem hlt
    refine Ix_in i rfl hlt ?_
    refine LdN_src s1 (vs := [.int .i64 xs[i].op, .int .i64 xs[i].num, .string xs[i].name, .slice xs[i].at_ xs[i].kids.length xs[i].cap, .int .i64 xs[i].line, .int .i64 xs[i].col]) (rowPart (f := exV) (sz := 6) exV_len hx) rfl ?_
    clear s1
    (repeat first | refine goN ?_ | ((try conv => whnf); first | (refine Ar_gate ?_; first | (fail_if_success skip) | refine xA ?_) | (first | refine Do_str_eq ?_ | refine Do_str_ne ?_ | refine DoN_len tok rfl ?_ | refine Eqv_in ?_)) | ((try conv => whnf); (first | (refine St_gate ?_; refine xS ?_) | (refine StN_gate ?_; refine xN ?_)); clear H; intro w H))
    refine Call_of (hf xs[i] (List.getElem_mem hlt) (l' := []) H) ?_
    clear H
    rintro _ w ⟨rfl, H⟩
    refine Br_if (fun hp => ?_) (fun hp => ?_)
    · refine Ret_in ⟨vint ?_, H⟩
      have : xs.findIdx? p = some i := by
        rw [List.findIdx?_eq_some_iff_getElem]
        exact ⟨hlt, hp, fun j hj => by rw [hno j xs[j] hj (List.getElem?_eq_getElem (by omega))]; exact Bool.false_ne_true⟩
      rw [this]
    · (repeat first | refine goN ?_ | ((try conv => whnf); first | (refine Ar_gate ?_; first | (fail_if_success skip) | refine xA ?_) | (first | refine Do_str_eq ?_ | refine Do_str_ne ?_ | refine DoN_len tok rfl ?_ | refine Eqv_in ?_)) | ((try conv => whnf); (first | (refine St_gate ?_; refine xS ?_) | (refine StN_gate ?_; refine xN ?_)); clear H; intro w H))
      refine ⟨i + 1, ⟨congrArg some (vint (by omega)), trivial⟩, ⟨⟨by omega, fun j x hj hjx => ?_⟩, H⟩, by omega⟩
      rcases Nat.lt_or_ge j i with h | h
      · exact hno j x h hjx
      · obtain rfl : j = i := by omega
        rw [hx] at hjx; cases hjx; simpa using hp
  · refine Ret_in ⟨vint ?_, H⟩
    have : xs.findIdx? p = none := by
      rw [List.findIdx?_eq_none_iff]
      intro x hx
      obtain ⟨j, hj⟩ := List.getElem?_of_mem hx
      exact hno j x (by have := (List.getElem?_eq_some_iff.1 hj).1; omega) hj
    rw [this]
theorem exContains {w0 w : World} {l : List Res} {xs : List Ex} {a : Option Addr} {c : Nat} (H : Sep w0 w l) (hs : ∀ {w' : World} {l' : List Res}, Sep w0 w' (l' ++ l) → Src w' a xs.length 6 (xs.flatMap exV)) (hm : xs.length ≤ 10000000) {k : FuncId}  {p : Ex → Bool}
    (hf : ∀ x ∈ xs, ∀ {w : World} {l' : List Res}, Sep w0 w (l' ++ l) → Does Tryz.prog k #[exA x] w fun v w' => v = .bool (p x) ∧ Sep w0 w' (l' ++ l)) :
    Does Tryz.prog 66 #[.slice a xs.length c, .func (.func k) #[] #[]] w fun v w' => v = .bool (xs.any p) ∧ Sep w0 w' l := by
  refine Does_intro tok (Tryz.call66 _ _) Tryz.func66 rfl (by rfl) ?_
  (repeat first | refine goN ?_ | ((try conv => whnf); first | (refine Ar_gate ?_; first | (fail_if_success skip) | refine xA ?_) | (first | refine Do_str_eq ?_ | refine Do_str_ne ?_ | refine DoN_len tok rfl ?_ | refine Eqv_in ?_)) | ((try conv => whnf); (first | (refine St_gate ?_; refine xS ?_) | (refine StN_gate ?_; refine xN ?_)); clear H; intro w H))
  refine Call_of (exIndexW H hs hm hf) ?_
  clear H
  rintro _ w ⟨rfl, H⟩
  (repeat first | refine goN ?_ | ((try conv => whnf); first | (refine Ar_gate ?_; first | (fail_if_success skip) | refine xA ?_) | (first | refine Do_str_eq ?_ | refine Do_str_ne ?_ | refine DoN_len tok rfl ?_ | refine Eqv_in ?_)) | ((try conv => whnf); (first | (refine St_gate ?_; refine xS ?_) | (refine StN_gate ?_; refine xN ?_)); clear H; intro w H))
  refine Ret_in ⟨vbool ?_, H⟩
  cases h : xs.findIdx? p with
  | none =>
    rw [List.findIdx?_eq_none_iff] at h
    have : xs.any p = false := by rw [List.any_eq_false]; intro x hx; rw [h x hx]; exact Bool.false_ne_true
    rw [this]; rfl
  | some i =>
    obtain ⟨hlt, h1, _⟩ := List.findIdx?_eq_some_iff_getElem.1 h
    have : xs.any p = true := List.any_eq_true.2 ⟨xs[i], List.getElem_mem hlt, h1⟩
    rw [this]
    exact decide_eq_true (show (i : Int) ≥ 0 by omega)

theorem exCIndexW {w0 w : World} {l : List Res} {xs : List Ex} {a : Option Addr} {c : Nat} (H : Sep w0 w l) (hs : ∀ {w' : World} {l' : List Res}, Sep w0 w' (l' ++ l) → Src w' a xs.length 6 (xs.flatMap exV)) (hm : xs.length ≤ 10000000) {k : FuncId} {cv : Value} {p : Ex → Bool}
    (hf : ∀ x ∈ xs, ∀ {w : World} {l' : List Res}, Sep w0 w (l' ++ l) → Does Tryz.prog k #[exA x, cv] w fun v w' => v = .bool (p x) ∧ Sep w0 w' (l' ++ l)) :
    Does Tryz.prog 87 #[.slice a xs.length c, .func (.func k) #[] #[cv]] w fun v w' => v = .int .i64 (match xs.findIdx? p with | some i => (i : Int) | none => -1) ∧ Sep w0 w' l := by
  refine Does_intro tok (Tryz.call87 _ _) Tryz.func87 rfl (by rfl) ?_
  (repeat first | refine goN ?_ | ((try conv => whnf); first | (refine Ar_gate ?_; first | (fail_if_success skip) | refine xA ?_) | (first | refine Do_str_eq ?_ | refine Do_str_ne ?_ | refine DoN_len tok rfl ?_ | refine Eqv_in ?_)) | ((try conv => whnf); (first | (refine St_gate ?_; refine xS ?_) | (refine StN_gate ?_; refine xN ?_)); clear H; intro w H))
  refine Loop_intro (fun i : Nat => [(8, .int .i64 (i : Int))]) (fun i w => (i ≤ xs.length ∧ ∀ j x, j < i → xs[j]? = some x → p x = false) ∧ Sep w0 w l) (fun i => xs.length - i) 0 ⟨rfl, trivial⟩ ⟨⟨Nat.zero_le _, fun j x h => by omega⟩, H⟩ ?_
  clear H
  rintro i w ⟨⟨hi, hno⟩, H⟩
  simp only [] at hi hno ⊢
  refine Br_dec (fun k1 => ?_) (fun k1 => ?_)
  · have hlt : i < xs.length := by omega
    have s1 := hs (l' := []) H
    obtain ⟨ba, oa, rfl⟩ := s1.addr (by rw [rowLen exV_len]; omega)
    have hx : xs[i]? = some xs[i] := List.getElem?_eq_getElem hlt
    refine Ix_in i rfl hlt ?_
    refine LdN_src s1 (vs := [.int .i64 xs[i].op, .int .i64 xs[i].num, .string xs[i].name, .slice xs[i].at_ xs[i].kids.length xs[i].cap, .int .i64 xs[i].line, .int .i64 xs[i].col]) (rowPart (f := exV) (sz := 6) exV_len hx) rfl ?_
    clear s1
    (repeat first | refine goN ?_ | ((try conv => whnf); first | (refine Ar_gate ?_; first | (fail_if_success skip) | refine xA ?_) | (first | refine Do_str_eq ?_ | refine Do_str_ne ?_ | refine DoN_len tok rfl ?_ | refine Eqv_in ?_)) | ((try conv => whnf); (first | (refine St_gate ?_; refine xS ?_) | (refine StN_gate ?_; refine xN ?_)); clear H; intro w H))
    refine Call_of (hf xs[i] (List.getElem_mem hlt) (l' := []) H) ?_
    clear H
    rintro _ w ⟨rfl, H⟩
    refine Br_if (fun hp => ?_) (fun hp => ?_)
    · refine Ret_in ⟨vint ?_, H⟩
      have : xs.findIdx? p = some i := by
        rw [List.findIdx?_eq_some_iff_getElem]
        exact ⟨hlt, hp, fun j hj => by rw [hno j xs[j] hj (List.getElem?_eq_getElem (by omega))]; exact Bool.false_ne_true⟩
      rw [this]
    · (repeat first | refine goN ?_ | ((try conv => whnf); first | (refine Ar_gate ?_; first | (fail_if_success skip) | refine xA ?_) | (first | refine Do_str_eq ?_ | refine Do_str_ne ?_ | refine DoN_len tok rfl ?_ | refine Eqv_in ?_)) | ((try conv => whnf); (first | (refine St_gate ?_; refine xS ?_) | (refine StN_gate ?_; refine xN ?_)); clear H; intro w H))
      refine ⟨i + 1, ⟨congrArg some (vint (by omega)), trivial⟩, ⟨⟨by omega, fun j x hj hjx => ?_⟩, H⟩, by omega⟩
      rcases Nat.lt_or_ge j i with h | h
      · exact hno j x h hjx
      · obtain rfl : j = i := by omega
        rw [hx] at hjx; cases hjx; simpa using hp
  · refine Ret_in ⟨vint ?_, H⟩
    have : xs.findIdx? p = none := by
      rw [List.findIdx?_eq_none_iff]
      intro x hx
      obtain ⟨j, hj⟩ := List.getElem?_of_mem hx
      exact hno j x (by have := (List.getElem?_eq_some_iff.1 hj).1; omega) hj
    rw [this]
theorem exCContains {w0 w : World} {l : List Res} {xs : List Ex} {a : Option Addr} {c : Nat} (H : Sep w0 w l) (hs : ∀ {w' : World} {l' : List Res}, Sep w0 w' (l' ++ l) → Src w' a xs.length 6 (xs.flatMap exV)) (hm : xs.length ≤ 10000000) {k : FuncId} {cv : Value} {p : Ex → Bool}
    (hf : ∀ x ∈ xs, ∀ {w : World} {l' : List Res}, Sep w0 w (l' ++ l) → Does Tryz.prog k #[exA x, cv] w fun v w' => v = .bool (p x) ∧ Sep w0 w' (l' ++ l)) :
    Does Tryz.prog 66 #[.slice a xs.length c, .func (.func k) #[] #[cv]] w fun v w' => v = .bool (xs.any p) ∧ Sep w0 w' l := by
  refine Does_intro tok (Tryz.call66 _ _) Tryz.func66 rfl (by rfl) ?_
  (repeat first | refine goN ?_ | ((try conv => whnf); first | (refine Ar_gate ?_; first | (fail_if_success skip) | refine xA ?_) | (first | refine Do_str_eq ?_ | refine Do_str_ne ?_ | refine DoN_len tok rfl ?_ | refine Eqv_in ?_)) | ((try conv => whnf); (first | (refine St_gate ?_; refine xS ?_) | (refine StN_gate ?_; refine xN ?_)); clear H; intro w H))
  refine Call_of (exCIndexW H hs hm hf) ?_
  clear H
  rintro _ w ⟨rfl, H⟩
  (repeat first | refine goN ?_ | ((try conv => whnf); first | (refine Ar_gate ?_; first | (fail_if_success skip) | refine xA ?_) | (first | refine Do_str_eq ?_ | refine Do_str_ne ?_ | refine DoN_len tok rfl ?_ | refine Eqv_in ?_)) | ((try conv => whnf); (first | (refine St_gate ?_; refine xS ?_) | (refine StN_gate ?_; refine xN ?_)); clear H; intro w H))
  refine Ret_in ⟨vbool ?_, H⟩
  cases h : xs.findIdx? p with
  | none =>
    rw [List.findIdx?_eq_none_iff] at h
    have : xs.any p = false := by rw [List.any_eq_false]; intro x hx; rw [h x hx]; exact Bool.false_ne_true
    rw [this]; rfl
  | some i =>
    obtain ⟨hlt, h1, _⟩ := List.findIdx?_eq_some_iff_getElem.1 h
    have : xs.any p = true := List.any_eq_true.2 ⟨xs[i], List.getElem_mem hlt, h1⟩
    rw [this]
    exact decide_eq_true (show (i : Int) ≥ 0 by omega)

section
variable {w0 : World}
theorem TOk.kids {w0 : World} {l : List Res} {x : Ex} (hs : ∀ {w' : World} {l' : List Res}, Sep w0 w' (l' ++ l) → TOk w' x) : ∀ k ∈ x.kids, ∀ {w' : World} {l' : List Res}, Sep w0 w' (l' ++ l) → TOk w' k :=
  fun k hk _ _ h => (TOk_iff.1 (hs h)).2 k hk
theorem tSame (x : Ex) : ∀ (y : Ex) {w : World} {l : List Res} (H : Sep w0 w l) (hs : ∀ {w' : World} {l' : List Res}, Sep w0 w' (l' ++ l) → TOk w' x) (ht : ∀ {w' : World} {l' : List Res}, Sep w0 w' (l' ++ l) → TOk w' y) (hb : bulk x ≤ 10000000) (hc : bulk y ≤ 10000000),
    Does Tryz.prog 29 #[exA x, exA y] w fun v w' => v = .bool (sameB x y) ∧ Sep w0 w' l := by
  induction x using Ex.ind with
  | h x ih =>
    intro y w l H hs ht hb hc
    refine Does_intro tok (Tryz.call29 _ _) Tryz.func29 rfl (by rfl) ?_
    have hkl := kids_bulk x
    have hkl2 := kids_bulk y
    rw [same_eq]
    (repeat first | refine goN ?_ | ((try conv => whnf); first | (refine Ar_gate ?_; first | (fail_if_success skip) | refine xA ?_) | (first | refine Do_str_eq ?_ | refine Do_str_ne ?_ | refine DoN_len tok rfl ?_ | refine Eqv_in ?_)) | ((try conv => whnf); (first | (refine St_gate ?_; refine xS ?_) | (refine StN_gate ?_; refine xN ?_)); clear H; intro w H))
    (refine Nw_sep H ?_; clear H; intro xb w H; (try simp only [Value.cells, List.toList_toArray, List.append_nil, List.cons_append, List.nil_append] at H))
    (repeat first | refine goN ?_ | ((try conv => whnf); first | (refine Ar_gate ?_; first | (fail_if_success skip) | refine xA ?_) | (first | refine Do_str_eq ?_ | refine Do_str_ne ?_ | refine DoN_len tok rfl ?_ | refine Eqv_in ?_)) | ((try conv => whnf); (first | (refine St_gate ?_; refine xS ?_) | (refine StN_gate ?_; refine xN ?_)); clear H; intro w H))
    (refine Nw_sep H ?_; clear H; intro yb w H; (try simp only [Value.cells, List.toList_toArray, List.append_nil, List.cons_append, List.nil_append] at H))
    (repeat first | refine goN ?_ | ((try conv => whnf); first | (refine Ar_gate ?_; first | (fail_if_success skip) | refine xA ?_) | (first | refine Do_str_eq ?_ | refine Do_str_ne ?_ | refine DoN_len tok rfl ?_ | refine Eqv_in ?_)) | ((try conv => whnf); (first | (refine St_gate ?_; refine xS ?_) | (refine StN_gate ?_; refine xN ?_)); clear H; intro w H))
    by_cases h1 : x.op = y.op
    case neg =>
      (repeat first | refine goN ?_ | ((try conv => whnf); first | (refine Ar_gate ?_; first | (fail_if_success skip) | refine xA ?_) | (first | refine Do_str_eq ?_ | refine Do_str_ne ?_ | refine DoN_len tok rfl ?_ | refine Eqv_in ?_)) | ((try conv => whnf); (first | (refine St_gate ?_; refine xS ?_) | (refine StN_gate ?_; refine xN ?_)); clear H; intro w H))
      exact Ret_in ⟨by simp [h1]; rfl, H.tail.tail⟩
    by_cases h2 : x.num = y.num
    case neg =>
      (repeat first | refine goN ?_ | ((try conv => whnf); first | (refine Ar_gate ?_; first | (fail_if_success skip) | refine xA ?_) | (first | refine Do_str_eq ?_ | refine Do_str_ne ?_ | refine DoN_len tok rfl ?_ | refine Eqv_in ?_)) | ((try conv => whnf); (first | (refine St_gate ?_; refine xS ?_) | (refine StN_gate ?_; refine xN ?_)); clear H; intro w H))
      exact Ret_in ⟨by simp [h2]; rfl, H.tail.tail⟩
    (repeat first | refine goN ?_ | ((try conv => whnf); first | (refine Ar_gate ?_; first | (fail_if_success skip) | refine xA ?_) | (first | refine Do_str_eq ?_ | refine Do_str_ne ?_ | refine DoN_len tok rfl ?_ | refine Eqv_in ?_)) | ((try conv => whnf); (first | (refine St_gate ?_; refine xS ?_) | (refine StN_gate ?_; refine xN ?_)); clear H; intro w H))
    by_cases h3 : x.name = y.name
    case neg =>
      rw [decide_eq_false h3]
      (repeat first | refine goN ?_ | ((try conv => whnf); first | (refine Ar_gate ?_; first | (fail_if_success skip) | refine xA ?_) | (first | refine Do_str_eq ?_ | refine Do_str_ne ?_ | refine DoN_len tok rfl ?_ | refine Eqv_in ?_)) | ((try conv => whnf); (first | (refine St_gate ?_; refine xS ?_) | (refine StN_gate ?_; refine xN ?_)); clear H; intro w H))
      exact Ret_in ⟨by simp [h3]; rfl, H.tail.tail⟩
    rw [decide_eq_true h3]
    (repeat first | refine goN ?_ | ((try conv => whnf); first | (refine Ar_gate ?_; first | (fail_if_success skip) | refine xA ?_) | (first | refine Do_str_eq ?_ | refine Do_str_ne ?_ | refine DoN_len tok rfl ?_ | refine Eqv_in ?_)) | ((try conv => whnf); (first | (refine St_gate ?_; refine xS ?_) | (refine StN_gate ?_; refine xN ?_)); clear H; intro w H))
    refine Call_of (exEqual (p := sameB) H (fun {w'} {l'} h => (TOk_iff.1 (hs (l' := l' ++ [_, _]) (by simpa using h))).1) (fun {w'} {l'} h => (TOk_iff.1 (ht (l' := l' ++ [_, _]) (by simpa using h))).1) (by omega) (by omega)
      (fun k hk m hm {w} {l'} H => ih k hk m H (fun {w'} {l''} h => TOk.kids hs k hk (l' := l'' ++ l' ++ [_, _]) (by simpa using h)) (fun {w'} {l''} h => TOk.kids ht m hm (l' := l'' ++ l' ++ [_, _]) (by simpa using h)) (by have := bulk_kid hk; omega) (by have := bulk_kid hm; omega))) ?_
    clear H
    rintro _ w ⟨rfl, H⟩
    (repeat first | refine goN ?_ | ((try conv => whnf); first | (refine Ar_gate ?_; first | (fail_if_success skip) | refine xA ?_) | (first | refine Do_str_eq ?_ | refine Do_str_ne ?_ | refine DoN_len tok rfl ?_ | refine Eqv_in ?_)) | ((try conv => whnf); (first | (refine St_gate ?_; refine xS ?_) | (refine StN_gate ?_; refine xN ?_)); clear H; intro w H))
    exact Ret_in ⟨by simp [h1, h2]; rfl, H.tail.tail⟩
end
end Go.Proofs.YthpekiohalejmaaGreatDoor
