/- Are two models the same? -/
import Derived.Test.YthpekiohalejmaaGreatDoorTreeS
set_option linter.unusedVariables false
set_option linter.unusedSimpArgs false
namespace Go.Tree
def sameEn (x y : En) : Bool := decide (x.name = y.name) && decide (x.vals = y.vals)
def sameDe (x y : De) : Bool := decide (x.name = y.name) && decide (x.typ = y.typ) && decide (x.lo = y.lo) && decide (x.hi = y.hi) && allZ (x.begins.map sameB) y.begins
def sameAs (x y : As) : Bool := decide (x.name = y.name) && sameB x.to y.to
def sameRu (x y : Ru) : Bool := sameB x.when_ y.when_ && allZ (x.acts.map sameAs) y.acts
def samePr (x y : Pr) : Bool := decide (x.name = y.name) && allZ (x.rules.map sameRu) y.rules
def sameSo (x y : So) : Bool := allZ (x.enums.map sameEn) y.enums && allZ (x.vars.map sameDe) y.vars && allZ (x.procs.map samePr) y.procs
theorem allZ_self {α : Type} {f : α → α → Bool} {l : List α} (h : ∀ x ∈ l, f x x = true) : allZ (l.map f) l = true :=
  allZ_iff.2 ⟨rfl, fun i x y hx hy => by rw [hx] at hy; cases hy; exact h x (List.mem_of_getElem? hx)⟩
theorem sameSo_self (m : So) : sameSo m m = true := by
  unfold sameSo
  have h1 : ∀ x ∈ m.enums, sameEn x x = true := fun x _ => by simp [sameEn]
  have h2 : ∀ x ∈ m.vars, sameDe x x = true := fun x _ => by simp [sameDe, allZ_self (fun k _ => same_refl k)]
  have h3 : ∀ x : As, sameAs x x = true := fun x => by simp [sameAs, same_refl]
  have h4 : ∀ x : Ru, sameRu x x = true := fun x => by simp [sameRu, same_refl, allZ_self (fun k _ => h3 k)]
  have h5 : ∀ x ∈ m.procs, samePr x x = true := fun x _ => by simp [samePr, allZ_self (fun k _ => h4 k)]
  rw [allZ_self h1, allZ_self h2, allZ_self h5]
  rfl
end Go.Tree
namespace Go.Proofs.YthpekiohalejmaaGreatDoor
open Go Go.Vc Go.Tree
set_option maxHeartbeats 4000000
set_option maxRecDepth 100000
theorem enEqual {w0 w : World} {l : List Res} {xs ys : List En} {a b : Option Addr} {c d : Nat} (H : Sep w0 w l) (hs : ∀ {w' : World} {l' : List Res}, Sep w0 w' (l' ++ l) → Src w' a xs.length 4 (xs.flatMap enV)) (ht : ∀ {w' : World} {l' : List Res}, Sep w0 w' (l' ++ l) → Src w' b ys.length 4 (ys.flatMap enV))
    (hm : xs.length ≤ 10000000) (hn : ys.length ≤ 10000000) {k : FuncId}  {p : En → En → Bool}
    (hf : ∀ x ∈ xs, ∀ y ∈ ys, ∀ {w : World} {l' : List Res}, Sep w0 w (l' ++ l) → Does Tryz.prog k #[enA x, enA y] w fun v w' => v = .bool (p x y) ∧ Sep w0 w' (l' ++ l)) :
    Does Tryz.prog 23 #[.slice a xs.length c, .slice b ys.length d, .func (.func k) #[] #[]] w fun v w' => v = .bool (allZ (xs.map p) ys) ∧ Sep w0 w' l := by
  refine Does_intro tok (Tryz.call23 _ _) Tryz.func23 rfl (by rfl) ?_
  by_cases he : xs.length = ys.length
  case neg =>
    (repeat first | refine goN ?_ | ((try conv => whnf); first | (refine Ar_gate ?_; first | (fail_if_success skip) | refine xA ?_) | (first | refine Do_str_eq ?_ | refine Do_str_ne ?_ | refine DoN_len tok rfl ?_ | refine Eqv_in ?_)) | ((try conv => whnf); (first | (refine St_gate ?_; refine xS ?_) | (refine StN_gate ?_; refine xN ?_)); clear H; intro w H))
    refine Ret_in ⟨congrArg Value.bool (Eq.symm ?_), H⟩
    rw [Bool.eq_false_iff]
    intro h
    exact he (allZ_iff.1 h).1
  (repeat first | refine goN ?_ | ((try conv => whnf); first | (refine Ar_gate ?_; first | (fail_if_success skip) | refine xA ?_) | (first | refine Do_str_eq ?_ | refine Do_str_ne ?_ | refine DoN_len tok rfl ?_ | refine Eqv_in ?_)) | ((try conv => whnf); (first | (refine St_gate ?_; refine xS ?_) | (refine StN_gate ?_; refine xN ?_)); clear H; intro w H))
  refine Loop_intro (fun i : Nat => [(17, .int .i64 (i : Int))]) (fun i w => (i ≤ xs.length ∧ ∀ (j : Nat) x y, j < i → xs[j]? = some x → ys[j]? = some y → p x y = true) ∧ Sep w0 w l) (fun i => xs.length - i)
    0 ⟨rfl, trivial⟩ ⟨⟨Nat.zero_le _, fun j x y h => by omega⟩, H⟩ ?_
  clear H
  rintro i w ⟨⟨hi, hall⟩, H⟩
  refine Br_dec (fun k1 => ?_) (fun k1 => ?_)
  · have hlt : i < xs.length := by omega
    have hlt2 : i < ys.length := by omega
    have s1 := hs (l' := []) H
    obtain ⟨ba, oa, rfl⟩ := s1.addr (by rw [rowLen enV_len]; omega)
    have s2 := ht (l' := []) H
    obtain ⟨bb, ob, rfl⟩ := s2.addr (by rw [rowLen enV_len]; omega)
    have hx : xs[i]? = some xs[i] := List.getElem?_eq_getElem hlt
    have hy : ys[i]? = some ys[i] := List.getElem?_eq_getElem hlt2
    have hmx := List.getElem_mem hlt
    have hmy := List.getElem_mem hlt2
    have hrx := rowPart (f := enV) (sz := 4) enV_len hx
    have hry := rowPart (f := enV) (sz := 4) enV_len hy
    have hp : ∀ x y, xs[i]? = some x → ys[i]? = some y → p x y = p xs[i] ys[i] := fun x y h1 h2 => by rw [hx] at h1; rw [hy] at h2; cases h1; cases h2; rfl
    generalize xs[i] = x at *
    generalize ys[i] = y at *
    refine Ix_in i rfl hlt ?_
    refine LdN_src s1 (vs := [.string x.name, .slice x.a x.vals.length x.c, .int .i64 x.line, .int .i64 x.col]) hrx rfl ?_
    clear s1 s2
    (repeat first | refine goN ?_ | ((try conv => whnf); first | (refine Ar_gate ?_; first | (fail_if_success skip) | refine xA ?_) | (first | refine Do_str_eq ?_ | refine Do_str_ne ?_ | refine DoN_len tok rfl ?_ | refine Eqv_in ?_)) | ((try conv => whnf); (first | (refine St_gate ?_; refine xS ?_) | (refine StN_gate ?_; refine xN ?_)); clear H; intro w H))
    (refine Nw_sep H ?_; clear H; intro b1 w H; (try simp only [Value.cells, List.toList_toArray, List.append_nil, List.cons_append, List.nil_append] at H))
    (repeat first | refine goN ?_ | ((try conv => whnf); first | (refine Ar_gate ?_; first | (fail_if_success skip) | refine xA ?_) | (first | refine Do_str_eq ?_ | refine Do_str_ne ?_ | refine DoN_len tok rfl ?_ | refine Eqv_in ?_)) | ((try conv => whnf); (first | (refine St_gate ?_; refine xS ?_) | (refine StN_gate ?_; refine xN ?_)); clear H; intro w H))
    have s2 := ht (l' := [_]) H
    refine Ix_in i rfl hlt2 ?_
    refine LdN_src s2 (vs := [.string y.name, .slice y.a y.vals.length y.c, .int .i64 y.line, .int .i64 y.col]) hry rfl ?_
    clear s2
    (repeat first | refine goN ?_ | ((try conv => whnf); first | (refine Ar_gate ?_; first | (fail_if_success skip) | refine xA ?_) | (first | refine Do_str_eq ?_ | refine Do_str_ne ?_ | refine DoN_len tok rfl ?_ | refine Eqv_in ?_)) | ((try conv => whnf); (first | (refine St_gate ?_; refine xS ?_) | (refine StN_gate ?_; refine xN ?_)); clear H; intro w H))
    (refine Nw_sep H ?_; clear H; intro b2 w H; (try simp only [Value.cells, List.toList_toArray, List.append_nil, List.cons_append, List.nil_append] at H))
    (repeat first | refine goN ?_ | ((try conv => whnf); first | (refine Ar_gate ?_; first | (fail_if_success skip) | refine xA ?_) | (first | refine Do_str_eq ?_ | refine Do_str_ne ?_ | refine DoN_len tok rfl ?_ | refine Eqv_in ?_)) | ((try conv => whnf); (first | (refine St_gate ?_; refine xS ?_) | (refine StN_gate ?_; refine xN ?_)); clear H; intro w H))
    refine Call_of (hf x hmx y hmy (l' := [_, _]) H) ?_
    clear H
    rintro _ w ⟨rfl, H⟩
    cases hpx : p x y with
    | true =>
      (repeat first | refine goN ?_ | ((try conv => whnf); first | (refine Ar_gate ?_; first | (fail_if_success skip) | refine xA ?_) | (first | refine Do_str_eq ?_ | refine Do_str_ne ?_ | refine DoN_len tok rfl ?_ | refine Eqv_in ?_)) | ((try conv => whnf); (first | (refine St_gate ?_; refine xS ?_) | (refine StN_gate ?_; refine xN ?_)); clear H; intro w H))
      refine ⟨i + 1, ⟨congrArg some (vint (by omega)), trivial⟩, ⟨⟨by omega, fun j u v hj hu hv => ?_⟩, H.tail.tail⟩, by omega⟩
      rcases Nat.lt_or_ge j i with h | h
      · exact hall j u v h hu hv
      · obtain rfl : j = i := by omega
        rw [hp u v hu hv]; exact hpx
    | false =>
      (repeat first | refine goN ?_ | ((try conv => whnf); first | (refine Ar_gate ?_; first | (fail_if_success skip) | refine xA ?_) | (first | refine Do_str_eq ?_ | refine Do_str_ne ?_ | refine DoN_len tok rfl ?_ | refine Eqv_in ?_)) | ((try conv => whnf); (first | (refine St_gate ?_; refine xS ?_) | (refine StN_gate ?_; refine xN ?_)); clear H; intro w H))
      refine Ret_in ⟨congrArg Value.bool (Eq.symm ?_), H.tail.tail⟩
      rw [Bool.eq_false_iff]
      intro h
      have := (allZ_iff.1 h).2 i x y hx hy
      rw [hpx] at this; cases this
  · obtain rfl : i = xs.length := by omega
    (repeat first | refine goN ?_ | ((try conv => whnf); first | (refine Ar_gate ?_; first | (fail_if_success skip) | refine xA ?_) | (first | refine Do_str_eq ?_ | refine Do_str_ne ?_ | refine DoN_len tok rfl ?_ | refine Eqv_in ?_)) | ((try conv => whnf); (first | (refine St_gate ?_; refine xS ?_) | (refine StN_gate ?_; refine xN ?_)); clear H; intro w H))
    refine Ret_in ⟨congrArg Value.bool (Eq.symm ?_), H⟩
    exact allZ_iff.2 ⟨he, fun j x y hx hy => hall j x y (List.getElem?_eq_some_iff.1 hx).1 hx hy⟩

theorem deEqual {w0 w : World} {l : List Res} {xs ys : List De} {a b : Option Addr} {c d : Nat} (H : Sep w0 w l) (hs : ∀ {w' : World} {l' : List Res}, Sep w0 w' (l' ++ l) → Src w' a xs.length 7 (xs.flatMap deV)) (ht : ∀ {w' : World} {l' : List Res}, Sep w0 w' (l' ++ l) → Src w' b ys.length 7 (ys.flatMap deV))
    (hm : xs.length ≤ 10000000) (hn : ys.length ≤ 10000000) {k : FuncId}  {p : De → De → Bool}
    (hf : ∀ x ∈ xs, ∀ y ∈ ys, ∀ {w : World} {l' : List Res}, Sep w0 w (l' ++ l) → Does Tryz.prog k #[deA x, deA y] w fun v w' => v = .bool (p x y) ∧ Sep w0 w' (l' ++ l)) :
    Does Tryz.prog 26 #[.slice a xs.length c, .slice b ys.length d, .func (.func k) #[] #[]] w fun v w' => v = .bool (allZ (xs.map p) ys) ∧ Sep w0 w' l := by
  refine Does_intro tok (Tryz.call26 _ _) Tryz.func26 rfl (by rfl) ?_
  by_cases he : xs.length = ys.length
  case neg =>
    (repeat first | refine goN ?_ | ((try conv => whnf); first | (refine Ar_gate ?_; first | (fail_if_success skip) | refine xA ?_) | (first | refine Do_str_eq ?_ | refine Do_str_ne ?_ | refine DoN_len tok rfl ?_ | refine Eqv_in ?_)) | ((try conv => whnf); (first | (refine St_gate ?_; refine xS ?_) | (refine StN_gate ?_; refine xN ?_)); clear H; intro w H))
    refine Ret_in ⟨congrArg Value.bool (Eq.symm ?_), H⟩
    rw [Bool.eq_false_iff]
    intro h
    exact he (allZ_iff.1 h).1
  (repeat first | refine goN ?_ | ((try conv => whnf); first | (refine Ar_gate ?_; first | (fail_if_success skip) | refine xA ?_) | (first | refine Do_str_eq ?_ | refine Do_str_ne ?_ | refine DoN_len tok rfl ?_ | refine Eqv_in ?_)) | ((try conv => whnf); (first | (refine St_gate ?_; refine xS ?_) | (refine StN_gate ?_; refine xN ?_)); clear H; intro w H))
  refine Loop_intro (fun i : Nat => [(17, .int .i64 (i : Int))]) (fun i w => (i ≤ xs.length ∧ ∀ (j : Nat) x y, j < i → xs[j]? = some x → ys[j]? = some y → p x y = true) ∧ Sep w0 w l) (fun i => xs.length - i)
    0 ⟨rfl, trivial⟩ ⟨⟨Nat.zero_le _, fun j x y h => by omega⟩, H⟩ ?_
  clear H
  rintro i w ⟨⟨hi, hall⟩, H⟩
  refine Br_dec (fun k1 => ?_) (fun k1 => ?_)
  · have hlt : i < xs.length := by omega
    have hlt2 : i < ys.length := by omega
    have s1 := hs (l' := []) H
    obtain ⟨ba, oa, rfl⟩ := s1.addr (by rw [rowLen deV_len]; omega)
    have s2 := ht (l' := []) H
    obtain ⟨bb, ob, rfl⟩ := s2.addr (by rw [rowLen deV_len]; omega)
    have hx : xs[i]? = some xs[i] := List.getElem?_eq_getElem hlt
    have hy : ys[i]? = some ys[i] := List.getElem?_eq_getElem hlt2
    have hmx := List.getElem_mem hlt
    have hmy := List.getElem_mem hlt2
    have hrx := rowPart (f := deV) (sz := 7) deV_len hx
    have hry := rowPart (f := deV) (sz := 7) deV_len hy
    have hp : ∀ x y, xs[i]? = some x → ys[i]? = some y → p x y = p xs[i] ys[i] := fun x y h1 h2 => by rw [hx] at h1; rw [hy] at h2; cases h1; cases h2; rfl
    generalize xs[i] = x at *
    generalize ys[i] = y at *
    refine Ix_in i rfl hlt ?_
    refine LdN_src s1 (vs := [.string x.name, .string x.typ, .int .i64 x.lo, .int .i64 x.hi, .slice x.a x.begins.length x.c, .int .i64 x.line, .int .i64 x.col]) hrx rfl ?_
    clear s1 s2
    (repeat first | refine goN ?_ | ((try conv => whnf); first | (refine Ar_gate ?_; first | (fail_if_success skip) | refine xA ?_) | (first | refine Do_str_eq ?_ | refine Do_str_ne ?_ | refine DoN_len tok rfl ?_ | refine Eqv_in ?_)) | ((try conv => whnf); (first | (refine St_gate ?_; refine xS ?_) | (refine StN_gate ?_; refine xN ?_)); clear H; intro w H))
    (refine Nw_sep H ?_; clear H; intro b1 w H; (try simp only [Value.cells, List.toList_toArray, List.append_nil, List.cons_append, List.nil_append] at H))
    (repeat first | refine goN ?_ | ((try conv => whnf); first | (refine Ar_gate ?_; first | (fail_if_success skip) | refine xA ?_) | (first | refine Do_str_eq ?_ | refine Do_str_ne ?_ | refine DoN_len tok rfl ?_ | refine Eqv_in ?_)) | ((try conv => whnf); (first | (refine St_gate ?_; refine xS ?_) | (refine StN_gate ?_; refine xN ?_)); clear H; intro w H))
    have s2 := ht (l' := [_]) H
    refine Ix_in i rfl hlt2 ?_
    refine LdN_src s2 (vs := [.string y.name, .string y.typ, .int .i64 y.lo, .int .i64 y.hi, .slice y.a y.begins.length y.c, .int .i64 y.line, .int .i64 y.col]) hry rfl ?_
    clear s2
    (repeat first | refine goN ?_ | ((try conv => whnf); first | (refine Ar_gate ?_; first | (fail_if_success skip) | refine xA ?_) | (first | refine Do_str_eq ?_ | refine Do_str_ne ?_ | refine DoN_len tok rfl ?_ | refine Eqv_in ?_)) | ((try conv => whnf); (first | (refine St_gate ?_; refine xS ?_) | (refine StN_gate ?_; refine xN ?_)); clear H; intro w H))
    (refine Nw_sep H ?_; clear H; intro b2 w H; (try simp only [Value.cells, List.toList_toArray, List.append_nil, List.cons_append, List.nil_append] at H))
    (repeat first | refine goN ?_ | ((try conv => whnf); first | (refine Ar_gate ?_; first | (fail_if_success skip) | refine xA ?_) | (first | refine Do_str_eq ?_ | refine Do_str_ne ?_ | refine DoN_len tok rfl ?_ | refine Eqv_in ?_)) | ((try conv => whnf); (first | (refine St_gate ?_; refine xS ?_) | (refine StN_gate ?_; refine xN ?_)); clear H; intro w H))
    refine Call_of (hf x hmx y hmy (l' := [_, _]) H) ?_
    clear H
    rintro _ w ⟨rfl, H⟩
    cases hpx : p x y with
    | true =>
      (repeat first | refine goN ?_ | ((try conv => whnf); first | (refine Ar_gate ?_; first | (fail_if_success skip) | refine xA ?_) | (first | refine Do_str_eq ?_ | refine Do_str_ne ?_ | refine DoN_len tok rfl ?_ | refine Eqv_in ?_)) | ((try conv => whnf); (first | (refine St_gate ?_; refine xS ?_) | (refine StN_gate ?_; refine xN ?_)); clear H; intro w H))
      refine ⟨i + 1, ⟨congrArg some (vint (by omega)), trivial⟩, ⟨⟨by omega, fun j u v hj hu hv => ?_⟩, H.tail.tail⟩, by omega⟩
      rcases Nat.lt_or_ge j i with h | h
      · exact hall j u v h hu hv
      · obtain rfl : j = i := by omega
        rw [hp u v hu hv]; exact hpx
    | false =>
      (repeat first | refine goN ?_ | ((try conv => whnf); first | (refine Ar_gate ?_; first | (fail_if_success skip) | refine xA ?_) | (first | refine Do_str_eq ?_ | refine Do_str_ne ?_ | refine DoN_len tok rfl ?_ | refine Eqv_in ?_)) | ((try conv => whnf); (first | (refine St_gate ?_; refine xS ?_) | (refine StN_gate ?_; refine xN ?_)); clear H; intro w H))
      refine Ret_in ⟨congrArg Value.bool (Eq.symm ?_), H.tail.tail⟩
      rw [Bool.eq_false_iff]
      intro h
      have := (allZ_iff.1 h).2 i x y hx hy
      rw [hpx] at this; cases this
  · obtain rfl : i = xs.length := by omega
    (repeat first | refine goN ?_ | ((try conv => whnf); first | (refine Ar_gate ?_; first | (fail_if_success skip) | refine xA ?_) | (first | refine Do_str_eq ?_ | refine Do_str_ne ?_ | refine DoN_len tok rfl ?_ | refine Eqv_in ?_)) | ((try conv => whnf); (first | (refine St_gate ?_; refine xS ?_) | (refine StN_gate ?_; refine xN ?_)); clear H; intro w H))
    refine Ret_in ⟨congrArg Value.bool (Eq.symm ?_), H⟩
    exact allZ_iff.2 ⟨he, fun j x y hx hy => hall j x y (List.getElem?_eq_some_iff.1 hx).1 hx hy⟩

theorem asEqual {w0 w : World} {l : List Res} {xs ys : List As} {a b : Option Addr} {c d : Nat} (H : Sep w0 w l) (hs : ∀ {w' : World} {l' : List Res}, Sep w0 w' (l' ++ l) → Src w' a xs.length 9 (xs.flatMap asV)) (ht : ∀ {w' : World} {l' : List Res}, Sep w0 w' (l' ++ l) → Src w' b ys.length 9 (ys.flatMap asV))
    (hm : xs.length ≤ 10000000) (hn : ys.length ≤ 10000000) {k : FuncId}  {p : As → As → Bool}
    (hf : ∀ x ∈ xs, ∀ y ∈ ys, ∀ {w : World} {l' : List Res}, Sep w0 w (l' ++ l) → Does Tryz.prog k #[asA x, asA y] w fun v w' => v = .bool (p x y) ∧ Sep w0 w' (l' ++ l)) :
    Does Tryz.prog 32 #[.slice a xs.length c, .slice b ys.length d, .func (.func k) #[] #[]] w fun v w' => v = .bool (allZ (xs.map p) ys) ∧ Sep w0 w' l := by
  refine Does_intro tok (Tryz.call32 _ _) Tryz.func32 rfl (by rfl) ?_
  by_cases he : xs.length = ys.length
  case neg =>
    (repeat first | refine goN ?_ | ((try conv => whnf); first | (refine Ar_gate ?_; first | (fail_if_success skip) | refine xA ?_) | (first | refine Do_str_eq ?_ | refine Do_str_ne ?_ | refine DoN_len tok rfl ?_ | refine Eqv_in ?_)) | ((try conv => whnf); (first | (refine St_gate ?_; refine xS ?_) | (refine StN_gate ?_; refine xN ?_)); clear H; intro w H))
    refine Ret_in ⟨congrArg Value.bool (Eq.symm ?_), H⟩
    rw [Bool.eq_false_iff]
    intro h
    exact he (allZ_iff.1 h).1
  (repeat first | refine goN ?_ | ((try conv => whnf); first | (refine Ar_gate ?_; first | (fail_if_success skip) | refine xA ?_) | (first | refine Do_str_eq ?_ | refine Do_str_ne ?_ | refine DoN_len tok rfl ?_ | refine Eqv_in ?_)) | ((try conv => whnf); (first | (refine St_gate ?_; refine xS ?_) | (refine StN_gate ?_; refine xN ?_)); clear H; intro w H))
  refine Loop_intro (fun i : Nat => [(17, .int .i64 (i : Int))]) (fun i w => (i ≤ xs.length ∧ ∀ (j : Nat) x y, j < i → xs[j]? = some x → ys[j]? = some y → p x y = true) ∧ Sep w0 w l) (fun i => xs.length - i)
    0 ⟨rfl, trivial⟩ ⟨⟨Nat.zero_le _, fun j x y h => by omega⟩, H⟩ ?_
  clear H
  rintro i w ⟨⟨hi, hall⟩, H⟩
  refine Br_dec (fun k1 => ?_) (fun k1 => ?_)
  · have hlt : i < xs.length := by omega
    have hlt2 : i < ys.length := by omega
    have s1 := hs (l' := []) H
    obtain ⟨ba, oa, rfl⟩ := s1.addr (by rw [rowLen asV_len]; omega)
    have s2 := ht (l' := []) H
    obtain ⟨bb, ob, rfl⟩ := s2.addr (by rw [rowLen asV_len]; omega)
    have hx : xs[i]? = some xs[i] := List.getElem?_eq_getElem hlt
    have hy : ys[i]? = some ys[i] := List.getElem?_eq_getElem hlt2
    have hmx := List.getElem_mem hlt
    have hmy := List.getElem_mem hlt2
    have hrx := rowPart (f := asV) (sz := 9) asV_len hx
    have hry := rowPart (f := asV) (sz := 9) asV_len hy
    have hp : ∀ x y, xs[i]? = some x → ys[i]? = some y → p x y = p xs[i] ys[i] := fun x y h1 h2 => by rw [hx] at h1; rw [hy] at h2; cases h1; cases h2; rfl
    generalize xs[i] = x at *
    generalize ys[i] = y at *
    refine Ix_in i rfl hlt ?_
    refine LdN_src s1 (vs := [.string x.name, .int .i64 x.to.op, .int .i64 x.to.num, .string x.to.name, .slice x.to.at_ x.to.kids.length x.to.cap, .int .i64 x.to.line, .int .i64 x.to.col, .int .i64 x.line, .int .i64 x.col]) hrx rfl ?_
    clear s1 s2
    (repeat first | refine goN ?_ | ((try conv => whnf); first | (refine Ar_gate ?_; first | (fail_if_success skip) | refine xA ?_) | (first | refine Do_str_eq ?_ | refine Do_str_ne ?_ | refine DoN_len tok rfl ?_ | refine Eqv_in ?_)) | ((try conv => whnf); (first | (refine St_gate ?_; refine xS ?_) | (refine StN_gate ?_; refine xN ?_)); clear H; intro w H))
    (refine Nw_sep H ?_; clear H; intro b1 w H; (try simp only [Value.cells, List.toList_toArray, List.append_nil, List.cons_append, List.nil_append] at H))
    (repeat first | refine goN ?_ | ((try conv => whnf); first | (refine Ar_gate ?_; first | (fail_if_success skip) | refine xA ?_) | (first | refine Do_str_eq ?_ | refine Do_str_ne ?_ | refine DoN_len tok rfl ?_ | refine Eqv_in ?_)) | ((try conv => whnf); (first | (refine St_gate ?_; refine xS ?_) | (refine StN_gate ?_; refine xN ?_)); clear H; intro w H))
    have s2 := ht (l' := [_]) H
    refine Ix_in i rfl hlt2 ?_
    refine LdN_src s2 (vs := [.string y.name, .int .i64 y.to.op, .int .i64 y.to.num, .string y.to.name, .slice y.to.at_ y.to.kids.length y.to.cap, .int .i64 y.to.line, .int .i64 y.to.col, .int .i64 y.line, .int .i64 y.col]) hry rfl ?_
    clear s2
    (repeat first | refine goN ?_ | ((try conv => whnf); first | (refine Ar_gate ?_; first | (fail_if_success skip) | refine xA ?_) | (first | refine Do_str_eq ?_ | refine Do_str_ne ?_ | refine DoN_len tok rfl ?_ | refine Eqv_in ?_)) | ((try conv => whnf); (first | (refine St_gate ?_; refine xS ?_) | (refine StN_gate ?_; refine xN ?_)); clear H; intro w H))
    (refine Nw_sep H ?_; clear H; intro b2 w H; (try simp only [Value.cells, List.toList_toArray, List.append_nil, List.cons_append, List.nil_append] at H))
    (repeat first | refine goN ?_ | ((try conv => whnf); first | (refine Ar_gate ?_; first | (fail_if_success skip) | refine xA ?_) | (first | refine Do_str_eq ?_ | refine Do_str_ne ?_ | refine DoN_len tok rfl ?_ | refine Eqv_in ?_)) | ((try conv => whnf); (first | (refine St_gate ?_; refine xS ?_) | (refine StN_gate ?_; refine xN ?_)); clear H; intro w H))
    refine Call_of (hf x hmx y hmy (l' := [_, _]) H) ?_
    clear H
    rintro _ w ⟨rfl, H⟩
    cases hpx : p x y with
    | true =>
      (repeat first | refine goN ?_ | ((try conv => whnf); first | (refine Ar_gate ?_; first | (fail_if_success skip) | refine xA ?_) | (first | refine Do_str_eq ?_ | refine Do_str_ne ?_ | refine DoN_len tok rfl ?_ | refine Eqv_in ?_)) | ((try conv => whnf); (first | (refine St_gate ?_; refine xS ?_) | (refine StN_gate ?_; refine xN ?_)); clear H; intro w H))
      refine ⟨i + 1, ⟨congrArg some (vint (by omega)), trivial⟩, ⟨⟨by omega, fun j u v hj hu hv => ?_⟩, H.tail.tail⟩, by omega⟩
      rcases Nat.lt_or_ge j i with h | h
      · exact hall j u v h hu hv
      · obtain rfl : j = i := by omega
        rw [hp u v hu hv]; exact hpx
    | false =>
      (repeat first | refine goN ?_ | ((try conv => whnf); first | (refine Ar_gate ?_; first | (fail_if_success skip) | refine xA ?_) | (first | refine Do_str_eq ?_ | refine Do_str_ne ?_ | refine DoN_len tok rfl ?_ | refine Eqv_in ?_)) | ((try conv => whnf); (first | (refine St_gate ?_; refine xS ?_) | (refine StN_gate ?_; refine xN ?_)); clear H; intro w H))
      refine Ret_in ⟨congrArg Value.bool (Eq.symm ?_), H.tail.tail⟩
      rw [Bool.eq_false_iff]
      intro h
      have := (allZ_iff.1 h).2 i x y hx hy
      rw [hpx] at this; cases this
  · obtain rfl : i = xs.length := by omega
    (repeat first | refine goN ?_ | ((try conv => whnf); first | (refine Ar_gate ?_; first | (fail_if_success skip) | refine xA ?_) | (first | refine Do_str_eq ?_ | refine Do_str_ne ?_ | refine DoN_len tok rfl ?_ | refine Eqv_in ?_)) | ((try conv => whnf); (first | (refine St_gate ?_; refine xS ?_) | (refine StN_gate ?_; refine xN ?_)); clear H; intro w H))
    refine Ret_in ⟨congrArg Value.bool (Eq.symm ?_), H⟩
    exact allZ_iff.2 ⟨he, fun j x y hx hy => hall j x y (List.getElem?_eq_some_iff.1 hx).1 hx hy⟩

theorem ruEqual {w0 w : World} {l : List Res} {xs ys : List Ru} {a b : Option Addr} {c d : Nat} (H : Sep w0 w l) (hs : ∀ {w' : World} {l' : List Res}, Sep w0 w' (l' ++ l) → Src w' a xs.length 7 (xs.flatMap ruV)) (ht : ∀ {w' : World} {l' : List Res}, Sep w0 w' (l' ++ l) → Src w' b ys.length 7 (ys.flatMap ruV))
    (hm : xs.length ≤ 10000000) (hn : ys.length ≤ 10000000) {k : FuncId} {cv : Value} {p : Ru → Ru → Bool}
    (hf : ∀ x ∈ xs, ∀ y ∈ ys, ∀ {w : World} {l' : List Res}, Sep w0 w (l' ++ l) → Does Tryz.prog k #[ruA x, ruA y, cv] w fun v w' => v = .bool (p x y) ∧ Sep w0 w' (l' ++ l)) :
    Does Tryz.prog 35 #[.slice a xs.length c, .slice b ys.length d, .func (.func k) #[] #[cv]] w fun v w' => v = .bool (allZ (xs.map p) ys) ∧ Sep w0 w' l := by
  refine Does_intro tok (Tryz.call35 _ _) Tryz.func35 rfl (by rfl) ?_
  by_cases he : xs.length = ys.length
  case neg =>
    (repeat first | refine goN ?_ | ((try conv => whnf); first | (refine Ar_gate ?_; first | (fail_if_success skip) | refine xA ?_) | (first | refine Do_str_eq ?_ | refine Do_str_ne ?_ | refine DoN_len tok rfl ?_ | refine Eqv_in ?_)) | ((try conv => whnf); (first | (refine St_gate ?_; refine xS ?_) | (refine StN_gate ?_; refine xN ?_)); clear H; intro w H))
    refine Ret_in ⟨congrArg Value.bool (Eq.symm ?_), H⟩
    rw [Bool.eq_false_iff]
    intro h
    exact he (allZ_iff.1 h).1
  (repeat first | refine goN ?_ | ((try conv => whnf); first | (refine Ar_gate ?_; first | (fail_if_success skip) | refine xA ?_) | (first | refine Do_str_eq ?_ | refine Do_str_ne ?_ | refine DoN_len tok rfl ?_ | refine Eqv_in ?_)) | ((try conv => whnf); (first | (refine St_gate ?_; refine xS ?_) | (refine StN_gate ?_; refine xN ?_)); clear H; intro w H))
  refine Loop_intro (fun i : Nat => [(17, .int .i64 (i : Int))]) (fun i w => (i ≤ xs.length ∧ ∀ (j : Nat) x y, j < i → xs[j]? = some x → ys[j]? = some y → p x y = true) ∧ Sep w0 w l) (fun i => xs.length - i)
    0 ⟨rfl, trivial⟩ ⟨⟨Nat.zero_le _, fun j x y h => by omega⟩, H⟩ ?_
  clear H
  rintro i w ⟨⟨hi, hall⟩, H⟩
  refine Br_dec (fun k1 => ?_) (fun k1 => ?_)
  · have hlt : i < xs.length := by omega
    have hlt2 : i < ys.length := by omega
    have s1 := hs (l' := []) H
    obtain ⟨ba, oa, rfl⟩ := s1.addr (by rw [rowLen ruV_len]; omega)
    have s2 := ht (l' := []) H
    obtain ⟨bb, ob, rfl⟩ := s2.addr (by rw [rowLen ruV_len]; omega)
    have hx : xs[i]? = some xs[i] := List.getElem?_eq_getElem hlt
    have hy : ys[i]? = some ys[i] := List.getElem?_eq_getElem hlt2
    have hmx := List.getElem_mem hlt
    have hmy := List.getElem_mem hlt2
    have hrx := rowPart (f := ruV) (sz := 7) ruV_len hx
    have hry := rowPart (f := ruV) (sz := 7) ruV_len hy
    have hp : ∀ x y, xs[i]? = some x → ys[i]? = some y → p x y = p xs[i] ys[i] := fun x y h1 h2 => by rw [hx] at h1; rw [hy] at h2; cases h1; cases h2; rfl
    generalize xs[i] = x at *
    generalize ys[i] = y at *
    refine Ix_in i rfl hlt ?_
    refine LdN_src s1 (vs := [.int .i64 x.when_.op, .int .i64 x.when_.num, .string x.when_.name, .slice x.when_.at_ x.when_.kids.length x.when_.cap, .int .i64 x.when_.line, .int .i64 x.when_.col, .slice x.a x.acts.length x.c]) hrx rfl ?_
    clear s1 s2
    (repeat first | refine goN ?_ | ((try conv => whnf); first | (refine Ar_gate ?_; first | (fail_if_success skip) | refine xA ?_) | (first | refine Do_str_eq ?_ | refine Do_str_ne ?_ | refine DoN_len tok rfl ?_ | refine Eqv_in ?_)) | ((try conv => whnf); (first | (refine St_gate ?_; refine xS ?_) | (refine StN_gate ?_; refine xN ?_)); clear H; intro w H))
    (refine Nw_sep H ?_; clear H; intro b1 w H; (try simp only [Value.cells, List.toList_toArray, List.append_nil, List.cons_append, List.nil_append] at H))
    (repeat first | refine goN ?_ | ((try conv => whnf); first | (refine Ar_gate ?_; first | (fail_if_success skip) | refine xA ?_) | (first | refine Do_str_eq ?_ | refine Do_str_ne ?_ | refine DoN_len tok rfl ?_ | refine Eqv_in ?_)) | ((try conv => whnf); (first | (refine St_gate ?_; refine xS ?_) | (refine StN_gate ?_; refine xN ?_)); clear H; intro w H))
    have s2 := ht (l' := [_]) H
    refine Ix_in i rfl hlt2 ?_
    refine LdN_src s2 (vs := [.int .i64 y.when_.op, .int .i64 y.when_.num, .string y.when_.name, .slice y.when_.at_ y.when_.kids.length y.when_.cap, .int .i64 y.when_.line, .int .i64 y.when_.col, .slice y.a y.acts.length y.c]) hry rfl ?_
    clear s2
    (repeat first | refine goN ?_ | ((try conv => whnf); first | (refine Ar_gate ?_; first | (fail_if_success skip) | refine xA ?_) | (first | refine Do_str_eq ?_ | refine Do_str_ne ?_ | refine DoN_len tok rfl ?_ | refine Eqv_in ?_)) | ((try conv => whnf); (first | (refine St_gate ?_; refine xS ?_) | (refine StN_gate ?_; refine xN ?_)); clear H; intro w H))
    (refine Nw_sep H ?_; clear H; intro b2 w H; (try simp only [Value.cells, List.toList_toArray, List.append_nil, List.cons_append, List.nil_append] at H))
    (repeat first | refine goN ?_ | ((try conv => whnf); first | (refine Ar_gate ?_; first | (fail_if_success skip) | refine xA ?_) | (first | refine Do_str_eq ?_ | refine Do_str_ne ?_ | refine DoN_len tok rfl ?_ | refine Eqv_in ?_)) | ((try conv => whnf); (first | (refine St_gate ?_; refine xS ?_) | (refine StN_gate ?_; refine xN ?_)); clear H; intro w H))
    refine Call_of (hf x hmx y hmy (l' := [_, _]) H) ?_
    clear H
    rintro _ w ⟨rfl, H⟩
    cases hpx : p x y with
    | true =>
      (repeat first | refine goN ?_ | ((try conv => whnf); first | (refine Ar_gate ?_; first | (fail_if_success skip) | refine xA ?_) | (first | refine Do_str_eq ?_ | refine Do_str_ne ?_ | refine DoN_len tok rfl ?_ | refine Eqv_in ?_)) | ((try conv => whnf); (first | (refine St_gate ?_; refine xS ?_) | (refine StN_gate ?_; refine xN ?_)); clear H; intro w H))
      refine ⟨i + 1, ⟨congrArg some (vint (by omega)), trivial⟩, ⟨⟨by omega, fun j u v hj hu hv => ?_⟩, H.tail.tail⟩, by omega⟩
      rcases Nat.lt_or_ge j i with h | h
      · exact hall j u v h hu hv
      · obtain rfl : j = i := by omega
        rw [hp u v hu hv]; exact hpx
    | false =>
      (repeat first | refine goN ?_ | ((try conv => whnf); first | (refine Ar_gate ?_; first | (fail_if_success skip) | refine xA ?_) | (first | refine Do_str_eq ?_ | refine Do_str_ne ?_ | refine DoN_len tok rfl ?_ | refine Eqv_in ?_)) | ((try conv => whnf); (first | (refine St_gate ?_; refine xS ?_) | (refine StN_gate ?_; refine xN ?_)); clear H; intro w H))
      refine Ret_in ⟨congrArg Value.bool (Eq.symm ?_), H.tail.tail⟩
      rw [Bool.eq_false_iff]
      intro h
      have := (allZ_iff.1 h).2 i x y hx hy
      rw [hpx] at this; cases this
  · obtain rfl : i = xs.length := by omega
    (repeat first | refine goN ?_ | ((try conv => whnf); first | (refine Ar_gate ?_; first | (fail_if_success skip) | refine xA ?_) | (first | refine Do_str_eq ?_ | refine Do_str_ne ?_ | refine DoN_len tok rfl ?_ | refine Eqv_in ?_)) | ((try conv => whnf); (first | (refine St_gate ?_; refine xS ?_) | (refine StN_gate ?_; refine xN ?_)); clear H; intro w H))
    refine Ret_in ⟨congrArg Value.bool (Eq.symm ?_), H⟩
    exact allZ_iff.2 ⟨he, fun j x y hx hy => hall j x y (List.getElem?_eq_some_iff.1 hx).1 hx hy⟩

theorem prEqual {w0 w : World} {l : List Res} {xs ys : List Pr} {a b : Option Addr} {c d : Nat} (H : Sep w0 w l) (hs : ∀ {w' : World} {l' : List Res}, Sep w0 w' (l' ++ l) → Src w' a xs.length 4 (xs.flatMap prV)) (ht : ∀ {w' : World} {l' : List Res}, Sep w0 w' (l' ++ l) → Src w' b ys.length 4 (ys.flatMap prV))
    (hm : xs.length ≤ 10000000) (hn : ys.length ≤ 10000000) {k : FuncId} {cv : Value} {p : Pr → Pr → Bool}
    (hf : ∀ x ∈ xs, ∀ y ∈ ys, ∀ {w : World} {l' : List Res}, Sep w0 w (l' ++ l) → Does Tryz.prog k #[prA x, prA y, cv] w fun v w' => v = .bool (p x y) ∧ Sep w0 w' (l' ++ l)) :
    Does Tryz.prog 33 #[.slice a xs.length c, .slice b ys.length d, .func (.func k) #[] #[cv]] w fun v w' => v = .bool (allZ (xs.map p) ys) ∧ Sep w0 w' l := by
  refine Does_intro tok (Tryz.call33 _ _) Tryz.func33 rfl (by rfl) ?_
  by_cases he : xs.length = ys.length
  case neg =>
    (repeat first | refine goN ?_ | ((try conv => whnf); first | (refine Ar_gate ?_; first | (fail_if_success skip) | refine xA ?_) | (first | refine Do_str_eq ?_ | refine Do_str_ne ?_ | refine DoN_len tok rfl ?_ | refine Eqv_in ?_)) | ((try conv => whnf); (first | (refine St_gate ?_; refine xS ?_) | (refine StN_gate ?_; refine xN ?_)); clear H; intro w H))
    refine Ret_in ⟨congrArg Value.bool (Eq.symm ?_), H⟩
    rw [Bool.eq_false_iff]
    intro h
    exact he (allZ_iff.1 h).1
  (repeat first | refine goN ?_ | ((try conv => whnf); first | (refine Ar_gate ?_; first | (fail_if_success skip) | refine xA ?_) | (first | refine Do_str_eq ?_ | refine Do_str_ne ?_ | refine DoN_len tok rfl ?_ | refine Eqv_in ?_)) | ((try conv => whnf); (first | (refine St_gate ?_; refine xS ?_) | (refine StN_gate ?_; refine xN ?_)); clear H; intro w H))
  refine Loop_intro (fun i : Nat => [(17, .int .i64 (i : Int))]) (fun i w => (i ≤ xs.length ∧ ∀ (j : Nat) x y, j < i → xs[j]? = some x → ys[j]? = some y → p x y = true) ∧ Sep w0 w l) (fun i => xs.length - i)
    0 ⟨rfl, trivial⟩ ⟨⟨Nat.zero_le _, fun j x y h => by omega⟩, H⟩ ?_
  clear H
  rintro i w ⟨⟨hi, hall⟩, H⟩
  refine Br_dec (fun k1 => ?_) (fun k1 => ?_)
  · have hlt : i < xs.length := by omega
    have hlt2 : i < ys.length := by omega
    have s1 := hs (l' := []) H
    obtain ⟨ba, oa, rfl⟩ := s1.addr (by rw [rowLen prV_len]; omega)
    have s2 := ht (l' := []) H
    obtain ⟨bb, ob, rfl⟩ := s2.addr (by rw [rowLen prV_len]; omega)
    have hx : xs[i]? = some xs[i] := List.getElem?_eq_getElem hlt
    have hy : ys[i]? = some ys[i] := List.getElem?_eq_getElem hlt2
    have hmx := List.getElem_mem hlt
    have hmy := List.getElem_mem hlt2
    have hrx := rowPart (f := prV) (sz := 4) prV_len hx
    have hry := rowPart (f := prV) (sz := 4) prV_len hy
    have hp : ∀ x y, xs[i]? = some x → ys[i]? = some y → p x y = p xs[i] ys[i] := fun x y h1 h2 => by rw [hx] at h1; rw [hy] at h2; cases h1; cases h2; rfl
    generalize xs[i] = x at *
    generalize ys[i] = y at *
    refine Ix_in i rfl hlt ?_
    refine LdN_src s1 (vs := [.string x.name, .slice x.a x.rules.length x.c, .int .i64 x.line, .int .i64 x.col]) hrx rfl ?_
    clear s1 s2
    (repeat first | refine goN ?_ | ((try conv => whnf); first | (refine Ar_gate ?_; first | (fail_if_success skip) | refine xA ?_) | (first | refine Do_str_eq ?_ | refine Do_str_ne ?_ | refine DoN_len tok rfl ?_ | refine Eqv_in ?_)) | ((try conv => whnf); (first | (refine St_gate ?_; refine xS ?_) | (refine StN_gate ?_; refine xN ?_)); clear H; intro w H))
    (refine Nw_sep H ?_; clear H; intro b1 w H; (try simp only [Value.cells, List.toList_toArray, List.append_nil, List.cons_append, List.nil_append] at H))
    (repeat first | refine goN ?_ | ((try conv => whnf); first | (refine Ar_gate ?_; first | (fail_if_success skip) | refine xA ?_) | (first | refine Do_str_eq ?_ | refine Do_str_ne ?_ | refine DoN_len tok rfl ?_ | refine Eqv_in ?_)) | ((try conv => whnf); (first | (refine St_gate ?_; refine xS ?_) | (refine StN_gate ?_; refine xN ?_)); clear H; intro w H))
    have s2 := ht (l' := [_]) H
    refine Ix_in i rfl hlt2 ?_
    refine LdN_src s2 (vs := [.string y.name, .slice y.a y.rules.length y.c, .int .i64 y.line, .int .i64 y.col]) hry rfl ?_
    clear s2
    (repeat first | refine goN ?_ | ((try conv => whnf); first | (refine Ar_gate ?_; first | (fail_if_success skip) | refine xA ?_) | (first | refine Do_str_eq ?_ | refine Do_str_ne ?_ | refine DoN_len tok rfl ?_ | refine Eqv_in ?_)) | ((try conv => whnf); (first | (refine St_gate ?_; refine xS ?_) | (refine StN_gate ?_; refine xN ?_)); clear H; intro w H))
    (refine Nw_sep H ?_; clear H; intro b2 w H; (try simp only [Value.cells, List.toList_toArray, List.append_nil, List.cons_append, List.nil_append] at H))
    (repeat first | refine goN ?_ | ((try conv => whnf); first | (refine Ar_gate ?_; first | (fail_if_success skip) | refine xA ?_) | (first | refine Do_str_eq ?_ | refine Do_str_ne ?_ | refine DoN_len tok rfl ?_ | refine Eqv_in ?_)) | ((try conv => whnf); (first | (refine St_gate ?_; refine xS ?_) | (refine StN_gate ?_; refine xN ?_)); clear H; intro w H))
    refine Call_of (hf x hmx y hmy (l' := [_, _]) H) ?_
    clear H
    rintro _ w ⟨rfl, H⟩
    cases hpx : p x y with
    | true =>
      (repeat first | refine goN ?_ | ((try conv => whnf); first | (refine Ar_gate ?_; first | (fail_if_success skip) | refine xA ?_) | (first | refine Do_str_eq ?_ | refine Do_str_ne ?_ | refine DoN_len tok rfl ?_ | refine Eqv_in ?_)) | ((try conv => whnf); (first | (refine St_gate ?_; refine xS ?_) | (refine StN_gate ?_; refine xN ?_)); clear H; intro w H))
      refine ⟨i + 1, ⟨congrArg some (vint (by omega)), trivial⟩, ⟨⟨by omega, fun j u v hj hu hv => ?_⟩, H.tail.tail⟩, by omega⟩
      rcases Nat.lt_or_ge j i with h | h
      · exact hall j u v h hu hv
      · obtain rfl : j = i := by omega
        rw [hp u v hu hv]; exact hpx
    | false =>
      (repeat first | refine goN ?_ | ((try conv => whnf); first | (refine Ar_gate ?_; first | (fail_if_success skip) | refine xA ?_) | (first | refine Do_str_eq ?_ | refine Do_str_ne ?_ | refine DoN_len tok rfl ?_ | refine Eqv_in ?_)) | ((try conv => whnf); (first | (refine St_gate ?_; refine xS ?_) | (refine StN_gate ?_; refine xN ?_)); clear H; intro w H))
      refine Ret_in ⟨congrArg Value.bool (Eq.symm ?_), H.tail.tail⟩
      rw [Bool.eq_false_iff]
      intro h
      have := (allZ_iff.1 h).2 i x y hx hy
      rw [hpx] at this; cases this
  · obtain rfl : i = xs.length := by omega
    (repeat first | refine goN ?_ | ((try conv => whnf); first | (refine Ar_gate ?_; first | (fail_if_success skip) | refine xA ?_) | (first | refine Do_str_eq ?_ | refine Do_str_ne ?_ | refine DoN_len tok rfl ?_ | refine Eqv_in ?_)) | ((try conv => whnf); (first | (refine St_gate ?_; refine xS ?_) | (refine StN_gate ?_; refine xN ?_)); clear H; intro w H))
    refine Ret_in ⟨congrArg Value.bool (Eq.symm ?_), H⟩
    exact allZ_iff.2 ⟨he, fun j x y hx hy => hall j x y (List.getElem?_eq_some_iff.1 hx).1 hx hy⟩

section
variable {w0 w : World} {l : List Res}
theorem stEqual {xs ys : List ByteArray} {a b : Option Addr} {c d : Nat} (H : Sep w0 w l) (hs : Src w0 a xs.length 1 (xs.map Value.string)) (ht : Src w0 b ys.length 1 (ys.map Value.string)) (hm : xs.length ≤ 10000000) (hn : ys.length ≤ 10000000) :
    Does Tryz.prog 25 #[.slice a xs.length c, .slice b ys.length d] w fun v w' => v = .bool (decide (xs = ys)) ∧ Sep w0 w' l := by
  refine Does_intro tok (Tryz.call25 _ _) Tryz.func25 rfl (by rfl) ?_
  by_cases he : xs.length = ys.length
  case neg =>
    have hne : ¬ xs = ys := fun h => he (by rw [h])
    rw [decide_eq_false hne]
    (repeat first | refine goN ?_ | ((try conv => whnf); first | (refine Ar_gate ?_; first | (fail_if_success skip) | refine xA ?_) | (first | refine Do_str_eq ?_ | refine Do_str_ne ?_ | refine DoN_len tok rfl ?_ | refine Eqv_in ?_)) | ((try conv => whnf); (first | (refine St_gate ?_; refine xS ?_) | (refine StN_gate ?_; refine xN ?_)); clear H; intro w H))
    exact Ret_in ⟨rfl, H⟩
  (repeat first | refine goN ?_ | ((try conv => whnf); first | (refine Ar_gate ?_; first | (fail_if_success skip) | refine xA ?_) | (first | refine Do_str_eq ?_ | refine Do_str_ne ?_ | refine DoN_len tok rfl ?_ | refine Eqv_in ?_)) | ((try conv => whnf); (first | (refine St_gate ?_; refine xS ?_) | (refine StN_gate ?_; refine xN ?_)); clear H; intro w H))
  refine Loop_intro (fun i : Nat => [(13, .int .i64 (i : Int))]) (fun i w => (i ≤ xs.length ∧ ∀ (j : Nat), j < i → xs[j]? = ys[j]?) ∧ Sep w0 w l) (fun i => xs.length - i)
    0 ⟨rfl, trivial⟩ ⟨⟨Nat.zero_le _, fun j h => by omega⟩, H⟩ ?_
  clear H
  rintro i w ⟨⟨hi, hall⟩, H⟩
  refine Br_dec (fun k1 => ?_) (fun k1 => ?_)
  · have hlt : i < xs.length := by omega
    have hlt2 : i < ys.length := by omega
    have hx : xs[i]? = some xs[i] := List.getElem?_eq_getElem hlt
    have hy : ys[i]? = some ys[i] := List.getElem?_eq_getElem hlt2
    generalize xs[i] = x at *
    generalize ys[i] = y at *
    (repeat first | refine goN ?_ | ((try conv => whnf); first | (refine Ar_gate ?_; first | (fail_if_success skip) | refine xA ?_) | (first | refine Do_str_eq ?_ | refine Do_str_ne ?_ | refine DoN_len tok rfl ?_ | refine Eqv_in ?_)) | ((try conv => whnf); (first | (refine St_gate ?_; refine xS ?_) | (refine StN_gate ?_; refine xN ?_)); clear H; intro w H))
    refine Draw_intro mixed [0, 1, 2, 3, 4, 5, 6, 7, 8] (by decide +kernel) (fun w _ fd => ?_); replace H := H.fr fd; clear fd
    have s1 := H.rd hs
    have s2 := H.rd ht
    obtain ⟨ba, oa, rfl⟩ := s1.addr (by rw [List.length_map]; omega)
    obtain ⟨bb, ob, rfl⟩ := s2.addr (by rw [List.length_map]; omega)
    (repeat first | refine goN ?_ | ((try conv => whnf); first | (refine Ar_gate ?_; first | (fail_if_success skip) | refine xA ?_) | (first | refine Do_str_eq ?_ | refine Do_str_ne ?_ | refine DoN_len tok rfl ?_ | refine Eqv_in ?_)) | ((try conv => whnf); (first | (refine St_gate ?_; refine xS ?_) | (refine StN_gate ?_; refine xN ?_)); clear H; intro w H))
    refine Ix_in i rfl hlt ?_
    conv => whnf
    refine Ld_src (j := i) s1 (v := .string x) (by rw [List.getElem?_map, hx]; rfl) ?_
    (repeat first | refine goN ?_ | ((try conv => whnf); first | (refine Ar_gate ?_; first | (fail_if_success skip) | refine xA ?_) | (first | refine Do_str_eq ?_ | refine Do_str_ne ?_ | refine DoN_len tok rfl ?_ | refine Eqv_in ?_)) | ((try conv => whnf); (first | (refine St_gate ?_; refine xS ?_) | (refine StN_gate ?_; refine xN ?_)); clear H; intro w H))
    refine Ix_in i rfl hlt2 ?_
    conv => whnf
    refine Ld_src (j := i) s2 (v := .string y) (by rw [List.getElem?_map, hy]; rfl) ?_
    clear s1 s2
    (repeat first | refine goN ?_ | ((try conv => whnf); first | (refine Ar_gate ?_; first | (fail_if_success skip) | refine xA ?_) | (first | refine Do_str_eq ?_ | refine Do_str_ne ?_ | refine DoN_len tok rfl ?_ | refine Eqv_in ?_)) | ((try conv => whnf); (first | (refine St_gate ?_; refine xS ?_) | (refine StN_gate ?_; refine xN ?_)); clear H; intro w H))
    refine DoS_sne (fun J1 hJ1 => ?_)
    (repeat first | refine goN ?_ | ((try conv => whnf); first | (refine Ar_gate ?_; first | (fail_if_success skip) | refine xA ?_) | (first | refine Do_str_eq ?_ | refine Do_str_ne ?_ | refine DoN_len tok rfl ?_ | refine Eqv_in ?_)) | ((try conv => whnf); (first | (refine St_gate ?_; refine xS ?_) | (refine StN_gate ?_; refine xN ?_)); clear H; intro w H))
    refine Br_dec (fun h => ?_) (fun h => ?_)
    · (repeat first | refine goN ?_ | ((try conv => whnf); first | (refine Ar_gate ?_; first | (fail_if_success skip) | refine xA ?_) | (first | refine Do_str_eq ?_ | refine Do_str_ne ?_ | refine DoN_len tok rfl ?_ | refine Eqv_in ?_)) | ((try conv => whnf); (first | (refine St_gate ?_; refine xS ?_) | (refine StN_gate ?_; refine xN ?_)); clear H; intro w H))
      refine ⟨i + 1, ⟨congrArg some (vint (by omega)), trivial⟩, ⟨⟨by omega, fun j hj => ?_⟩, H⟩, by omega⟩
      rcases Nat.lt_or_ge j i with h' | h'
      · exact hall j h'
      · obtain rfl : j = i := by omega
        rw [hx, hy, h]
    · have hne : ¬ xs = ys := fun e => by rw [e, hy] at hx; exact h (Option.some.inj hx).symm
      rw [decide_eq_false hne]
      (repeat first | refine goN ?_ | ((try conv => whnf); first | (refine Ar_gate ?_; first | (fail_if_success skip) | refine xA ?_) | (first | refine Do_str_eq ?_ | refine Do_str_ne ?_ | refine DoN_len tok rfl ?_ | refine Eqv_in ?_)) | ((try conv => whnf); (first | (refine St_gate ?_; refine xS ?_) | (refine StN_gate ?_; refine xN ?_)); clear H; intro w H))
      exact Ret_in ⟨rfl, H⟩
  · obtain rfl : i = xs.length := by omega
    have heq : xs = ys := by
      apply List.ext_getElem?
      intro j
      by_cases hj : j < xs.length
      · exact hall j hj
      · rw [List.getElem?_eq_none (by omega), List.getElem?_eq_none (by omega)]
    rw [decide_eq_true heq]
    (repeat first | refine goN ?_ | ((try conv => whnf); first | (refine Ar_gate ?_; first | (fail_if_success skip) | refine xA ?_) | (first | refine Do_str_eq ?_ | refine Do_str_ne ?_ | refine DoN_len tok rfl ?_ | refine Eqv_in ?_)) | ((try conv => whnf); (first | (refine St_gate ?_; refine xS ?_) | (refine StN_gate ?_; refine xN ?_)); clear H; intro w H))
    exact Ret_in ⟨rfl, H⟩
theorem sEn (x y : En) (H : Sep w0 w l) (hs : EnOk w0 x) (ht : EnOk w0 y) (hb : enK x ≤ 2000000) (hc : enK y ≤ 2000000) : Does Tryz.prog 24 #[enA x, enA y] w fun v w' => v = .bool (sameEn x y) ∧ Sep w0 w' l := by
  refine Does_intro tok (Tryz.call24 _ _) Tryz.func24 rfl (by rfl) ?_
  have h1 := sum_len (l := x.vals) (g := fun v => v.size + 1) fun x => by omega
  have h2 := sum_len (l := y.vals) (g := fun v => v.size + 1) fun x => by omega
  unfold enK at hb hc
  unfold sameEn
  (repeat first | refine goN ?_ | ((try conv => whnf); first | (refine Ar_gate ?_; first | (fail_if_success skip) | refine xA ?_) | (first | refine Do_str_eq ?_ | refine Do_str_ne ?_ | refine DoN_len tok rfl ?_ | refine Eqv_in ?_)) | ((try conv => whnf); (first | (refine St_gate ?_; refine xS ?_) | (refine StN_gate ?_; refine xN ?_)); clear H; intro w H))
  (refine Nw_sep H ?_; clear H; intro xb w H; (try simp only [Value.cells, List.toList_toArray, List.append_nil, List.cons_append, List.nil_append] at H))
  (repeat first | refine goN ?_ | ((try conv => whnf); first | (refine Ar_gate ?_; first | (fail_if_success skip) | refine xA ?_) | (first | refine Do_str_eq ?_ | refine Do_str_ne ?_ | refine DoN_len tok rfl ?_ | refine Eqv_in ?_)) | ((try conv => whnf); (first | (refine St_gate ?_; refine xS ?_) | (refine StN_gate ?_; refine xN ?_)); clear H; intro w H))
  (refine Nw_sep H ?_; clear H; intro yb w H; (try simp only [Value.cells, List.toList_toArray, List.append_nil, List.cons_append, List.nil_append] at H))
  (repeat first | refine goN ?_ | ((try conv => whnf); first | (refine Ar_gate ?_; first | (fail_if_success skip) | refine xA ?_) | (first | refine Do_str_eq ?_ | refine Do_str_ne ?_ | refine DoN_len tok rfl ?_ | refine Eqv_in ?_)) | ((try conv => whnf); (first | (refine St_gate ?_; refine xS ?_) | (refine StN_gate ?_; refine xN ?_)); clear H; intro w H))
  by_cases h3 : x.name = y.name
  case neg =>
    (repeat first | refine goN ?_ | ((try conv => whnf); first | (refine Ar_gate ?_; first | (fail_if_success skip) | refine xA ?_) | (first | refine Do_str_eq ?_ | refine Do_str_ne ?_ | refine DoN_len tok rfl ?_ | refine Eqv_in ?_)) | ((try conv => whnf); (first | (refine St_gate ?_; refine xS ?_) | (refine StN_gate ?_; refine xN ?_)); clear H; intro w H))
    exact Ret_in ⟨by rw [decide_eq_false h3]; rfl, H.tail.tail⟩
  (repeat first | refine goN ?_ | ((try conv => whnf); first | (refine Ar_gate ?_; first | (fail_if_success skip) | refine xA ?_) | (first | refine Do_str_eq ?_ | refine Do_str_ne ?_ | refine DoN_len tok rfl ?_ | refine Eqv_in ?_)) | ((try conv => whnf); (first | (refine St_gate ?_; refine xS ?_) | (refine StN_gate ?_; refine xN ?_)); clear H; intro w H))
  refine Call_of (stEqual H hs.1 ht.1 (by omega) (by omega)) ?_
  clear H
  rintro _ w ⟨rfl, H⟩
  (repeat first | refine goN ?_ | ((try conv => whnf); first | (refine Ar_gate ?_; first | (fail_if_success skip) | refine xA ?_) | (first | refine Do_str_eq ?_ | refine Do_str_ne ?_ | refine DoN_len tok rfl ?_ | refine Eqv_in ?_)) | ((try conv => whnf); (first | (refine St_gate ?_; refine xS ?_) | (refine StN_gate ?_; refine xN ?_)); clear H; intro w H))
  exact Ret_in ⟨by rw [decide_eq_true h3]; rfl, H.tail.tail⟩
theorem sDe (x y : De) (H : Sep w0 w l) (hs : DeOk w0 x) (ht : DeOk w0 y) (hb : deK x ≤ 2000000) (hc : deK y ≤ 2000000) : Does Tryz.prog 27 #[deA x, deA y] w fun v w' => v = .bool (sameDe x y) ∧ Sep w0 w' l := by
  refine Does_intro tok (Tryz.call27 _ _) Tryz.func27 rfl (by rfl) ?_
  have h1 := sum_len (l := x.begins) (g := bulk) fun x => by have := bulk_pos x; omega
  have h2 := sum_len (l := y.begins) (g := bulk) fun x => by have := bulk_pos x; omega
  unfold deK at hb hc
  have hvx : ∀ a ∈ x.begins, bulk a ≤ 10000000 := fun v hv => by have := sum_mem (g := bulk) hv; omega
  have hvy : ∀ a ∈ y.begins, bulk a ≤ 10000000 := fun v hv => by have := sum_mem (g := bulk) hv; omega
  unfold sameDe
  (repeat first | refine goN ?_ | ((try conv => whnf); first | (refine Ar_gate ?_; first | (fail_if_success skip) | refine xA ?_) | (first | refine Do_str_eq ?_ | refine Do_str_ne ?_ | refine DoN_len tok rfl ?_ | refine Eqv_in ?_)) | ((try conv => whnf); (first | (refine St_gate ?_; refine xS ?_) | (refine StN_gate ?_; refine xN ?_)); clear H; intro w H))
  (refine Nw_sep H ?_; clear H; intro xb w H; (try simp only [Value.cells, List.toList_toArray, List.append_nil, List.cons_append, List.nil_append] at H))
  (repeat first | refine goN ?_ | ((try conv => whnf); first | (refine Ar_gate ?_; first | (fail_if_success skip) | refine xA ?_) | (first | refine Do_str_eq ?_ | refine Do_str_ne ?_ | refine DoN_len tok rfl ?_ | refine Eqv_in ?_)) | ((try conv => whnf); (first | (refine St_gate ?_; refine xS ?_) | (refine StN_gate ?_; refine xN ?_)); clear H; intro w H))
  (refine Nw_sep H ?_; clear H; intro yb w H; (try simp only [Value.cells, List.toList_toArray, List.append_nil, List.cons_append, List.nil_append] at H))
  (repeat first | refine goN ?_ | ((try conv => whnf); first | (refine Ar_gate ?_; first | (fail_if_success skip) | refine xA ?_) | (first | refine Do_str_eq ?_ | refine Do_str_ne ?_ | refine DoN_len tok rfl ?_ | refine Eqv_in ?_)) | ((try conv => whnf); (first | (refine St_gate ?_; refine xS ?_) | (refine StN_gate ?_; refine xN ?_)); clear H; intro w H))
  by_cases h3 : x.name = y.name
  case neg =>
    (repeat first | refine goN ?_ | ((try conv => whnf); first | (refine Ar_gate ?_; first | (fail_if_success skip) | refine xA ?_) | (first | refine Do_str_eq ?_ | refine Do_str_ne ?_ | refine DoN_len tok rfl ?_ | refine Eqv_in ?_)) | ((try conv => whnf); (first | (refine St_gate ?_; refine xS ?_) | (refine StN_gate ?_; refine xN ?_)); clear H; intro w H))
    exact Ret_in ⟨by rw [decide_eq_false h3]; rfl, H.tail.tail⟩
  rw [decide_eq_true h3]
  by_cases h4 : x.typ = y.typ
  case neg =>
    (repeat first | refine goN ?_ | ((try conv => whnf); first | (refine Ar_gate ?_; first | (fail_if_success skip) | refine xA ?_) | (first | refine Do_str_eq ?_ | refine Do_str_ne ?_ | refine DoN_len tok rfl ?_ | refine Eqv_in ?_)) | ((try conv => whnf); (first | (refine St_gate ?_; refine xS ?_) | (refine StN_gate ?_; refine xN ?_)); clear H; intro w H))
    exact Ret_in ⟨by rw [decide_eq_false h4]; rfl, H.tail.tail⟩
  rw [decide_eq_true h4]
  by_cases h5 : x.lo = y.lo
  case neg =>
    (repeat first | refine goN ?_ | ((try conv => whnf); first | (refine Ar_gate ?_; first | (fail_if_success skip) | refine xA ?_) | (first | refine Do_str_eq ?_ | refine Do_str_ne ?_ | refine DoN_len tok rfl ?_ | refine Eqv_in ?_)) | ((try conv => whnf); (first | (refine St_gate ?_; refine xS ?_) | (refine StN_gate ?_; refine xN ?_)); clear H; intro w H))
    exact Ret_in ⟨by rw [decide_eq_false h5]; rfl, H.tail.tail⟩
  by_cases h6 : x.hi = y.hi
  case neg =>
    (repeat first | refine goN ?_ | ((try conv => whnf); first | (refine Ar_gate ?_; first | (fail_if_success skip) | refine xA ?_) | (first | refine Do_str_eq ?_ | refine Do_str_ne ?_ | refine DoN_len tok rfl ?_ | refine Eqv_in ?_)) | ((try conv => whnf); (first | (refine St_gate ?_; refine xS ?_) | (refine StN_gate ?_; refine xN ?_)); clear H; intro w H))
    exact Ret_in ⟨by rw [decide_eq_false h6, Bool.and_false]; rfl, H.tail.tail⟩
  (repeat first | refine goN ?_ | ((try conv => whnf); first | (refine Ar_gate ?_; first | (fail_if_success skip) | refine xA ?_) | (first | refine Do_str_eq ?_ | refine Do_str_ne ?_ | refine DoN_len tok rfl ?_ | refine Eqv_in ?_)) | ((try conv => whnf); (first | (refine St_gate ?_; refine xS ?_) | (refine StN_gate ?_; refine xN ?_)); clear H; intro w H))
  refine Call_of (exEqual (p := sameB) H (fun h => h.rd hs.1) (fun h => h.rd ht.1) (by omega) (by omega)
    (fun k hk m hm {w} {l'} H => tSame k m H (fun h => (hs.2 k hk).rd h) (fun h => (ht.2 m hm).rd h) (hvx k hk) (hvy m hm))) ?_
  clear H
  rintro _ w ⟨rfl, H⟩
  (repeat first | refine goN ?_ | ((try conv => whnf); first | (refine Ar_gate ?_; first | (fail_if_success skip) | refine xA ?_) | (first | refine Do_str_eq ?_ | refine Do_str_ne ?_ | refine DoN_len tok rfl ?_ | refine Eqv_in ?_)) | ((try conv => whnf); (first | (refine St_gate ?_; refine xS ?_) | (refine StN_gate ?_; refine xN ?_)); clear H; intro w H))
  exact Ret_in ⟨by rw [decide_eq_true h5, decide_eq_true h6]; rfl, H.tail.tail⟩
theorem sAs (x y : As) (H : Sep w0 w l) (hs : TOk w0 x.to) (ht : TOk w0 y.to) (hb : asK x ≤ 2000000) (hc : asK y ≤ 2000000) : Does Tryz.prog 30 #[asA x, asA y] w fun v w' => v = .bool (sameAs x y) ∧ Sep w0 w' l := by
  refine Does_intro tok (Tryz.call30 _ _) Tryz.func30 rfl (by rfl) ?_
  unfold asK at hb hc
  unfold sameAs
  (repeat first | refine goN ?_ | ((try conv => whnf); first | (refine Ar_gate ?_; first | (fail_if_success skip) | refine xA ?_) | (first | refine Do_str_eq ?_ | refine Do_str_ne ?_ | refine DoN_len tok rfl ?_ | refine Eqv_in ?_)) | ((try conv => whnf); (first | (refine St_gate ?_; refine xS ?_) | (refine StN_gate ?_; refine xN ?_)); clear H; intro w H))
  (refine Nw_sep H ?_; clear H; intro xb w H; (try simp only [Value.cells, List.toList_toArray, List.append_nil, List.cons_append, List.nil_append] at H))
  (repeat first | refine goN ?_ | ((try conv => whnf); first | (refine Ar_gate ?_; first | (fail_if_success skip) | refine xA ?_) | (first | refine Do_str_eq ?_ | refine Do_str_ne ?_ | refine DoN_len tok rfl ?_ | refine Eqv_in ?_)) | ((try conv => whnf); (first | (refine St_gate ?_; refine xS ?_) | (refine StN_gate ?_; refine xN ?_)); clear H; intro w H))
  (refine Nw_sep H ?_; clear H; intro yb w H; (try simp only [Value.cells, List.toList_toArray, List.append_nil, List.cons_append, List.nil_append] at H))
  (repeat first | refine goN ?_ | ((try conv => whnf); first | (refine Ar_gate ?_; first | (fail_if_success skip) | refine xA ?_) | (first | refine Do_str_eq ?_ | refine Do_str_ne ?_ | refine DoN_len tok rfl ?_ | refine Eqv_in ?_)) | ((try conv => whnf); (first | (refine St_gate ?_; refine xS ?_) | (refine StN_gate ?_; refine xN ?_)); clear H; intro w H))
  by_cases h3 : x.name = y.name
  case neg =>
    (repeat first | refine goN ?_ | ((try conv => whnf); first | (refine Ar_gate ?_; first | (fail_if_success skip) | refine xA ?_) | (first | refine Do_str_eq ?_ | refine Do_str_ne ?_ | refine DoN_len tok rfl ?_ | refine Eqv_in ?_)) | ((try conv => whnf); (first | (refine St_gate ?_; refine xS ?_) | (refine StN_gate ?_; refine xN ?_)); clear H; intro w H))
    exact Ret_in ⟨by rw [decide_eq_false h3]; rfl, H.tail.tail⟩
  (repeat first | refine goN ?_ | ((try conv => whnf); first | (refine Ar_gate ?_; first | (fail_if_success skip) | refine xA ?_) | (first | refine Do_str_eq ?_ | refine Do_str_ne ?_ | refine DoN_len tok rfl ?_ | refine Eqv_in ?_)) | ((try conv => whnf); (first | (refine St_gate ?_; refine xS ?_) | (refine StN_gate ?_; refine xN ?_)); clear H; intro w H))
  refine LdN_src (o := 0) (j := 1) (H.srcCM 1 9 (.tail _ (.head _)) rfl (by decide)) (vs := [.int .i64 x.to.op, .int .i64 x.to.num, .string x.to.name, .slice x.to.at_ x.to.kids.length x.to.cap, .int .i64 x.to.line, .int .i64 x.to.col]) rfl rfl ?_
  (repeat first | refine goN ?_ | ((try conv => whnf); first | (refine Ar_gate ?_; first | (fail_if_success skip) | refine xA ?_) | (first | refine Do_str_eq ?_ | refine Do_str_ne ?_ | refine DoN_len tok rfl ?_ | refine Eqv_in ?_)) | ((try conv => whnf); (first | (refine St_gate ?_; refine xS ?_) | (refine StN_gate ?_; refine xN ?_)); clear H; intro w H))
  refine LdN_src (o := 0) (j := 1) (H.srcCM 1 9 (.head _) rfl (by decide)) (vs := [.int .i64 y.to.op, .int .i64 y.to.num, .string y.to.name, .slice y.to.at_ y.to.kids.length y.to.cap, .int .i64 y.to.line, .int .i64 y.to.col]) rfl rfl ?_
  (repeat first | refine goN ?_ | ((try conv => whnf); first | (refine Ar_gate ?_; first | (fail_if_success skip) | refine xA ?_) | (first | refine Do_str_eq ?_ | refine Do_str_ne ?_ | refine DoN_len tok rfl ?_ | refine Eqv_in ?_)) | ((try conv => whnf); (first | (refine St_gate ?_; refine xS ?_) | (refine StN_gate ?_; refine xN ?_)); clear H; intro w H))
  refine Call_of (tSame x.to y.to H (fun h => hs.rd h) (fun h => ht.rd h) (by omega) (by omega)) ?_
  clear H
  rintro _ w ⟨rfl, H⟩
  (repeat first | refine goN ?_ | ((try conv => whnf); first | (refine Ar_gate ?_; first | (fail_if_success skip) | refine xA ?_) | (first | refine Do_str_eq ?_ | refine Do_str_ne ?_ | refine DoN_len tok rfl ?_ | refine Eqv_in ?_)) | ((try conv => whnf); (first | (refine St_gate ?_; refine xS ?_) | (refine StN_gate ?_; refine xN ?_)); clear H; intro w H))
  exact Ret_in ⟨by rw [decide_eq_true h3]; rfl, H.tail.tail⟩
theorem sRu {q t7 : Nat} (x y : Ru) (H : Sep w0 w l) (hq : cellsR q t7 [.func (.func 30) #[] #[]] ∈ l) (hs : RuOk w0 x) (ht : RuOk w0 y) (hb : ruK x ≤ 2000000) (hc : ruK y ≤ 2000000) :
    Does Tryz.prog 31 #[ruA x, ruA y, .pointer (some ⟨q, 0, none⟩)] w fun v w' => v = .bool (sameRu x y) ∧ Sep w0 w' l := by
  refine Does_intro tok (Tryz.call31 _ _) Tryz.func31 rfl (by rfl) ?_
  have h1 := sum_len (l := x.acts) (g := asK) fun x => by unfold asK; omega
  have h2 := sum_len (l := y.acts) (g := asK) fun x => by unfold asK; omega
  unfold ruK at hb hc
  have hvx : ∀ a ∈ x.acts, asK a ≤ 2000000 := fun v hv => by have := sum_mem (g := asK) hv; omega
  have hvy : ∀ a ∈ y.acts, asK a ≤ 2000000 := fun v hv => by have := sum_mem (g := asK) hv; omega
  unfold sameRu
  (repeat first | refine goN ?_ | ((try conv => whnf); first | (refine Ar_gate ?_; first | (fail_if_success skip) | refine xA ?_) | (first | refine Do_str_eq ?_ | refine Do_str_ne ?_ | refine DoN_len tok rfl ?_ | refine Eqv_in ?_)) | ((try conv => whnf); (first | (refine St_gate ?_; refine xS ?_) | (refine StN_gate ?_; refine xN ?_)); clear H; intro w H))
  (refine Nw_sep H ?_; clear H; intro xb w H; (try simp only [Value.cells, List.toList_toArray, List.append_nil, List.cons_append, List.nil_append] at H))
  (repeat first | refine goN ?_ | ((try conv => whnf); first | (refine Ar_gate ?_; first | (fail_if_success skip) | refine xA ?_) | (first | refine Do_str_eq ?_ | refine Do_str_ne ?_ | refine DoN_len tok rfl ?_ | refine Eqv_in ?_)) | ((try conv => whnf); (first | (refine St_gate ?_; refine xS ?_) | (refine StN_gate ?_; refine xN ?_)); clear H; intro w H))
  (refine Nw_sep H ?_; clear H; intro yb w H; (try simp only [Value.cells, List.toList_toArray, List.append_nil, List.cons_append, List.nil_append] at H))
  (repeat first | refine goN ?_ | ((try conv => whnf); first | (refine Ar_gate ?_; first | (fail_if_success skip) | refine xA ?_) | (first | refine Do_str_eq ?_ | refine Do_str_ne ?_ | refine DoN_len tok rfl ?_ | refine Eqv_in ?_)) | ((try conv => whnf); (first | (refine St_gate ?_; refine xS ?_) | (refine StN_gate ?_; refine xN ?_)); clear H; intro w H))
  refine LdN_src (o := 0) (j := 0) (H.srcCM 1 7 (.tail _ (.head _)) rfl (by decide)) (vs := [.int .i64 x.when_.op, .int .i64 x.when_.num, .string x.when_.name, .slice x.when_.at_ x.when_.kids.length x.when_.cap, .int .i64 x.when_.line, .int .i64 x.when_.col]) rfl rfl ?_
  (repeat first | refine goN ?_ | ((try conv => whnf); first | (refine Ar_gate ?_; first | (fail_if_success skip) | refine xA ?_) | (first | refine Do_str_eq ?_ | refine Do_str_ne ?_ | refine DoN_len tok rfl ?_ | refine Eqv_in ?_)) | ((try conv => whnf); (first | (refine St_gate ?_; refine xS ?_) | (refine StN_gate ?_; refine xN ?_)); clear H; intro w H))
  refine LdN_src (o := 0) (j := 0) (H.srcCM 1 7 (.head _) rfl (by decide)) (vs := [.int .i64 y.when_.op, .int .i64 y.when_.num, .string y.when_.name, .slice y.when_.at_ y.when_.kids.length y.when_.cap, .int .i64 y.when_.line, .int .i64 y.when_.col]) rfl rfl ?_
  (repeat first | refine goN ?_ | ((try conv => whnf); first | (refine Ar_gate ?_; first | (fail_if_success skip) | refine xA ?_) | (first | refine Do_str_eq ?_ | refine Do_str_ne ?_ | refine DoN_len tok rfl ?_ | refine Eqv_in ?_)) | ((try conv => whnf); (first | (refine St_gate ?_; refine xS ?_) | (refine StN_gate ?_; refine xN ?_)); clear H; intro w H))
  refine Call_of (tSame x.when_ y.when_ H (fun h => hs.1.rd h) (fun h => ht.1.rd h) (by omega) (by omega)) ?_
  clear H
  rintro _ w ⟨rfl, H⟩
  cases h3 : sameB x.when_ y.when_ with
  | false =>
    (repeat first | refine goN ?_ | ((try conv => whnf); first | (refine Ar_gate ?_; first | (fail_if_success skip) | refine xA ?_) | (first | refine Do_str_eq ?_ | refine Do_str_ne ?_ | refine DoN_len tok rfl ?_ | refine Eqv_in ?_)) | ((try conv => whnf); (first | (refine St_gate ?_; refine xS ?_) | (refine StN_gate ?_; refine xN ?_)); clear H; intro w H))
    exact Ret_in ⟨rfl, H.tail.tail⟩
  | true =>
    (repeat first | refine goN ?_ | ((try conv => whnf); first | (refine Ar_gate ?_; first | (fail_if_success skip) | refine xA ?_) | (first | refine Do_str_eq ?_ | refine Do_str_ne ?_ | refine DoN_len tok rfl ?_ | refine Eqv_in ?_)) | ((try conv => whnf); (first | (refine St_gate ?_; refine xS ?_) | (refine StN_gate ?_; refine xN ?_)); clear H; intro w H))
    conv => whnf
    refine Ld_m H (.tail _ (.tail _ hq)) rfl ?_
    (repeat first | refine goN ?_ | ((try conv => whnf); first | (refine Ar_gate ?_; first | (fail_if_success skip) | refine xA ?_) | (first | refine Do_str_eq ?_ | refine Do_str_ne ?_ | refine DoN_len tok rfl ?_ | refine Eqv_in ?_)) | ((try conv => whnf); (first | (refine St_gate ?_; refine xS ?_) | (refine StN_gate ?_; refine xN ?_)); clear H; intro w H))
    refine Call_of (asEqual (p := sameAs) H (fun h => h.rd hs.2.1) (fun h => h.rd ht.2.1) (by omega) (by omega)
      (fun k hk m hm {w} {l'} H => sAs k m H (hs.2.2 k hk) (ht.2.2 m hm) (hvx k hk) (hvy m hm))) ?_
    clear H
    rintro _ w ⟨rfl, H⟩
    (repeat first | refine goN ?_ | ((try conv => whnf); first | (refine Ar_gate ?_; first | (fail_if_success skip) | refine xA ?_) | (first | refine Do_str_eq ?_ | refine Do_str_ne ?_ | refine DoN_len tok rfl ?_ | refine Eqv_in ?_)) | ((try conv => whnf); (first | (refine St_gate ?_; refine xS ?_) | (refine StN_gate ?_; refine xN ?_)); clear H; intro w H))
    exact Ret_in ⟨rfl, H.tail.tail⟩
theorem sPr {q q7 t7 t8 : Nat} (x y : Pr) (H : Sep w0 w l) (hq : cellsR q t8 [.func (.func 31) #[] #[.pointer (some ⟨q7, 0, none⟩)]] ∈ l) (hq7 : cellsR q7 t7 [.func (.func 30) #[] #[]] ∈ l) (hs : PrOk w0 x) (ht : PrOk w0 y) (hb : prK x ≤ 2000000) (hc : prK y ≤ 2000000) :
    Does Tryz.prog 34 #[prA x, prA y, .pointer (some ⟨q, 0, none⟩)] w fun v w' => v = .bool (samePr x y) ∧ Sep w0 w' l := by
  refine Does_intro tok (Tryz.call34 _ _) Tryz.func34 rfl (by rfl) ?_
  have h1 := sum_len (l := x.rules) (g := ruK) fun x => by unfold ruK; omega
  have h2 := sum_len (l := y.rules) (g := ruK) fun x => by unfold ruK; omega
  unfold prK at hb hc
  have hvx : ∀ a ∈ x.rules, ruK a ≤ 2000000 := fun v hv => by have := sum_mem (g := ruK) hv; omega
  have hvy : ∀ a ∈ y.rules, ruK a ≤ 2000000 := fun v hv => by have := sum_mem (g := ruK) hv; omega
  unfold samePr
  (repeat first | refine goN ?_ | ((try conv => whnf); first | (refine Ar_gate ?_; first | (fail_if_success skip) | refine xA ?_) | (first | refine Do_str_eq ?_ | refine Do_str_ne ?_ | refine DoN_len tok rfl ?_ | refine Eqv_in ?_)) | ((try conv => whnf); (first | (refine St_gate ?_; refine xS ?_) | (refine StN_gate ?_; refine xN ?_)); clear H; intro w H))
  (refine Nw_sep H ?_; clear H; intro xb w H; (try simp only [Value.cells, List.toList_toArray, List.append_nil, List.cons_append, List.nil_append] at H))
  (repeat first | refine goN ?_ | ((try conv => whnf); first | (refine Ar_gate ?_; first | (fail_if_success skip) | refine xA ?_) | (first | refine Do_str_eq ?_ | refine Do_str_ne ?_ | refine DoN_len tok rfl ?_ | refine Eqv_in ?_)) | ((try conv => whnf); (first | (refine St_gate ?_; refine xS ?_) | (refine StN_gate ?_; refine xN ?_)); clear H; intro w H))
  (refine Nw_sep H ?_; clear H; intro yb w H; (try simp only [Value.cells, List.toList_toArray, List.append_nil, List.cons_append, List.nil_append] at H))
  (repeat first | refine goN ?_ | ((try conv => whnf); first | (refine Ar_gate ?_; first | (fail_if_success skip) | refine xA ?_) | (first | refine Do_str_eq ?_ | refine Do_str_ne ?_ | refine DoN_len tok rfl ?_ | refine Eqv_in ?_)) | ((try conv => whnf); (first | (refine St_gate ?_; refine xS ?_) | (refine StN_gate ?_; refine xN ?_)); clear H; intro w H))
  by_cases h3 : x.name = y.name
  case neg =>
    (repeat first | refine goN ?_ | ((try conv => whnf); first | (refine Ar_gate ?_; first | (fail_if_success skip) | refine xA ?_) | (first | refine Do_str_eq ?_ | refine Do_str_ne ?_ | refine DoN_len tok rfl ?_ | refine Eqv_in ?_)) | ((try conv => whnf); (first | (refine St_gate ?_; refine xS ?_) | (refine StN_gate ?_; refine xN ?_)); clear H; intro w H))
    exact Ret_in ⟨by rw [decide_eq_false h3]; rfl, H.tail.tail⟩
  (repeat first | refine goN ?_ | ((try conv => whnf); first | (refine Ar_gate ?_; first | (fail_if_success skip) | refine xA ?_) | (first | refine Do_str_eq ?_ | refine Do_str_ne ?_ | refine DoN_len tok rfl ?_ | refine Eqv_in ?_)) | ((try conv => whnf); (first | (refine St_gate ?_; refine xS ?_) | (refine StN_gate ?_; refine xN ?_)); clear H; intro w H))
  conv => whnf
  refine Ld_m H (.tail _ (.tail _ hq)) rfl ?_
  (repeat first | refine goN ?_ | ((try conv => whnf); first | (refine Ar_gate ?_; first | (fail_if_success skip) | refine xA ?_) | (first | refine Do_str_eq ?_ | refine Do_str_ne ?_ | refine DoN_len tok rfl ?_ | refine Eqv_in ?_)) | ((try conv => whnf); (first | (refine St_gate ?_; refine xS ?_) | (refine StN_gate ?_; refine xN ?_)); clear H; intro w H))
  refine Call_of (ruEqual (p := sameRu) (cv := .pointer (some ⟨q7, 0, none⟩)) H (fun h => h.rd hs.1) (fun h => h.rd ht.1) (by omega) (by omega)
    (fun k hk m hm {w} {l'} H => sRu k m H (List.mem_append_right _ (.tail _ (.tail _ hq7))) (hs.2 k hk) (ht.2 m hm) (hvx k hk) (hvy m hm))) ?_
  clear H
  rintro _ w ⟨rfl, H⟩
  (repeat first | refine goN ?_ | ((try conv => whnf); first | (refine Ar_gate ?_; first | (fail_if_success skip) | refine xA ?_) | (first | refine Do_str_eq ?_ | refine Do_str_ne ?_ | refine DoN_len tok rfl ?_ | refine Eqv_in ?_)) | ((try conv => whnf); (first | (refine St_gate ?_; refine xS ?_) | (refine StN_gate ?_; refine xN ?_)); clear H; intro w H))
  exact Ret_in ⟨by rw [decide_eq_true h3]; rfl, H.tail.tail⟩
theorem tSameSo (m n : So) (H : Sep w0 w l) (hs : SoOk w0 m) (ht : SoOk w0 n) (hb : soK m ≤ 2000000) (hc : soK n ≤ 2000000) : Does Tryz.prog 7 #[soA m, soA n] w fun v w' => v = .bool (sameSo m n) ∧ Sep w0 w' l := by
  refine Does_intro tok (Tryz.call7 _ _) Tryz.func7 rfl (by rfl) ?_
  have a1 := sum_len (l := m.enums) (g := enK) fun x => by unfold enK; omega
  have a2 := sum_len (l := m.vars) (g := deK) fun x => by unfold deK; omega
  have a3 := sum_len (l := m.procs) (g := prK) fun x => by unfold prK; omega
  have b1 := sum_len (l := n.enums) (g := enK) fun x => by unfold enK; omega
  have b2 := sum_len (l := n.vars) (g := deK) fun x => by unfold deK; omega
  have b3 := sum_len (l := n.procs) (g := prK) fun x => by unfold prK; omega
  unfold soK at hb hc
  have c1 : ∀ a ∈ m.enums, enK a ≤ 2000000 := fun v hv => by have := sum_mem (g := enK) hv; omega
  have c2 : ∀ a ∈ m.vars, deK a ≤ 2000000 := fun v hv => by have := sum_mem (g := deK) hv; omega
  have c3 : ∀ a ∈ m.procs, prK a ≤ 2000000 := fun v hv => by have := sum_mem (g := prK) hv; omega
  have d1 : ∀ a ∈ n.enums, enK a ≤ 2000000 := fun v hv => by have := sum_mem (g := enK) hv; omega
  have d2 : ∀ a ∈ n.vars, deK a ≤ 2000000 := fun v hv => by have := sum_mem (g := deK) hv; omega
  have d3 : ∀ a ∈ n.procs, prK a ≤ 2000000 := fun v hv => by have := sum_mem (g := prK) hv; omega
  unfold sameSo
  (repeat first | refine goN ?_ | ((try conv => whnf); first | (refine Ar_gate ?_; first | (fail_if_success skip) | refine xA ?_) | (first | refine Do_str_eq ?_ | refine Do_str_ne ?_ | refine DoN_len tok rfl ?_ | refine Eqv_in ?_)) | ((try conv => whnf); (first | (refine St_gate ?_; refine xS ?_) | (refine StN_gate ?_; refine xN ?_)); clear H; intro w H))
  (refine Nw_sep H ?_; clear H; intro xb w H; (try simp only [Value.cells, List.toList_toArray, List.append_nil, List.cons_append, List.nil_append] at H))
  (repeat first | refine goN ?_ | ((try conv => whnf); first | (refine Ar_gate ?_; first | (fail_if_success skip) | refine xA ?_) | (first | refine Do_str_eq ?_ | refine Do_str_ne ?_ | refine DoN_len tok rfl ?_ | refine Eqv_in ?_)) | ((try conv => whnf); (first | (refine St_gate ?_; refine xS ?_) | (refine StN_gate ?_; refine xN ?_)); clear H; intro w H))
  (refine Nw_sep H ?_; clear H; intro yb w H; (try simp only [Value.cells, List.toList_toArray, List.append_nil, List.cons_append, List.nil_append] at H))
  (repeat first | refine goN ?_ | ((try conv => whnf); first | (refine Ar_gate ?_; first | (fail_if_success skip) | refine xA ?_) | (first | refine Do_str_eq ?_ | refine Do_str_ne ?_ | refine DoN_len tok rfl ?_ | refine Eqv_in ?_)) | ((try conv => whnf); (first | (refine St_gate ?_; refine xS ?_) | (refine StN_gate ?_; refine xN ?_)); clear H; intro w H))
  refine Call_of (enEqual (p := sameEn) H (fun h => h.rd hs.es) (fun h => h.rd ht.es) (by omega) (by omega) (fun k hk q hq {w} {l'} H => sEn k q H (hs.en k hk) (ht.en q hq) (c1 k hk) (d1 q hq))) ?_
  clear H
  rintro _ w ⟨rfl, H⟩
  (repeat first | refine goN ?_ | ((try conv => whnf); first | (refine Ar_gate ?_; first | (fail_if_success skip) | refine xA ?_) | (first | refine Do_str_eq ?_ | refine Do_str_ne ?_ | refine DoN_len tok rfl ?_ | refine Eqv_in ?_)) | ((try conv => whnf); (first | (refine St_gate ?_; refine xS ?_) | (refine StN_gate ?_; refine xN ?_)); clear H; intro w H))
  refine Call_of (deEqual (p := sameDe) H (fun h => h.rd hs.vs) (fun h => h.rd ht.vs) (by omega) (by omega) (fun k hk q hq {w} {l'} H => sDe k q H (hs.de k hk) (ht.de q hq) (c2 k hk) (d2 q hq))) ?_
  clear H
  rintro _ w ⟨rfl, H⟩
  generalize allZ (m.enums.map sameEn) n.enums = r1
  generalize allZ (m.vars.map sameDe) n.vars = r2
  (repeat first | refine goN ?_ | ((try conv => whnf); first | (refine Ar_gate ?_; first | (fail_if_success skip) | refine xA ?_) | (first | refine Do_str_eq ?_ | refine Do_str_ne ?_ | refine DoN_len tok rfl ?_ | refine Eqv_in ?_)) | ((try conv => whnf); (first | (refine St_gate ?_; refine xS ?_) | (refine StN_gate ?_; refine xN ?_)); clear H; intro w H))
  (refine Nw_sep H ?_; clear H; intro fb w H; (try simp only [Value.cells, List.toList_toArray, List.append_nil, List.cons_append, List.nil_append] at H))
  (repeat first | refine goN ?_ | ((try conv => whnf); first | (refine Ar_gate ?_; first | (fail_if_success skip) | refine xA ?_) | (first | refine Do_str_eq ?_ | refine Do_str_ne ?_ | refine DoN_len tok rfl ?_ | refine Eqv_in ?_)) | ((try conv => whnf); (first | (refine St_gate ?_; refine xS ?_) | (refine StN_gate ?_; refine xN ?_)); clear H; intro w H))
  (refine Nw_sep H ?_; clear H; intro gb w H; (try simp only [Value.cells, List.toList_toArray, List.append_nil, List.cons_append, List.nil_append] at H))
  (repeat first | refine goN ?_ | ((try conv => whnf); first | (refine Ar_gate ?_; first | (fail_if_success skip) | refine xA ?_) | (first | refine Do_str_eq ?_ | refine Do_str_ne ?_ | refine DoN_len tok rfl ?_ | refine Eqv_in ?_)) | ((try conv => whnf); (first | (refine St_gate ?_; refine xS ?_) | (refine StN_gate ?_; refine xN ?_)); clear H; intro w H))
  cases r1
  · (repeat first | refine goN ?_ | ((try conv => whnf); first | (refine Ar_gate ?_; first | (fail_if_success skip) | refine xA ?_) | (first | refine Do_str_eq ?_ | refine Do_str_ne ?_ | refine DoN_len tok rfl ?_ | refine Eqv_in ?_)) | ((try conv => whnf); (first | (refine St_gate ?_; refine xS ?_) | (refine StN_gate ?_; refine xN ?_)); clear H; intro w H))
    exact Ret_in ⟨rfl, H.tail.tail.tail.tail⟩
  cases r2
  · (repeat first | refine goN ?_ | ((try conv => whnf); first | (refine Ar_gate ?_; first | (fail_if_success skip) | refine xA ?_) | (first | refine Do_str_eq ?_ | refine Do_str_ne ?_ | refine DoN_len tok rfl ?_ | refine Eqv_in ?_)) | ((try conv => whnf); (first | (refine St_gate ?_; refine xS ?_) | (refine StN_gate ?_; refine xN ?_)); clear H; intro w H))
    exact Ret_in ⟨rfl, H.tail.tail.tail.tail⟩
  (repeat first | refine goN ?_ | ((try conv => whnf); first | (refine Ar_gate ?_; first | (fail_if_success skip) | refine xA ?_) | (first | refine Do_str_eq ?_ | refine Do_str_ne ?_ | refine DoN_len tok rfl ?_ | refine Eqv_in ?_)) | ((try conv => whnf); (first | (refine St_gate ?_; refine xS ?_) | (refine StN_gate ?_; refine xN ?_)); clear H; intro w H))
  refine Call_of (prEqual (p := samePr) (cv := .pointer (some ⟨gb, 0, none⟩)) H (fun h => h.rd hs.ps) (fun h => h.rd ht.ps) (by omega) (by omega)
    (fun k hk q hq {w} {l'} H => sPr k q H (List.mem_append_right _ (.head _)) (List.mem_append_right _ (.tail _ (.head _))) (hs.pr k hk) (ht.pr q hq) (c3 k hk) (d3 q hq))) ?_
  clear H
  rintro _ w ⟨rfl, H⟩
  (repeat first | refine goN ?_ | ((try conv => whnf); first | (refine Ar_gate ?_; first | (fail_if_success skip) | refine xA ?_) | (first | refine Do_str_eq ?_ | refine Do_str_ne ?_ | refine DoN_len tok rfl ?_ | refine Eqv_in ?_)) | ((try conv => whnf); (first | (refine St_gate ?_; refine xS ?_) | (refine StN_gate ?_; refine xN ?_)); clear H; intro w H))
  exact Ret_in ⟨rfl, H.tail.tail.tail.tail⟩
end
end Go.Proofs.YthpekiohalejmaaGreatDoor
