/- The law of more: its function answers true. -/
import Derived.Test.YtodabklhbagljaaWatchU
set_option linter.unusedVariables false
set_option linter.unusedSimpArgs false
namespace Go.Watch
theorem filter_next {n : Nat} {C : List (List Int)} {i : Nat} {ys : List Int} (h : C[i]? = some ys) : (C.take (i + 1)).filter (fitB n) = if fitB n ys = true then (C.take i).filter (fitB n) ++ [ys] else (C.take i).filter (fitB n) := by
  rw [List.take_add_one, h, List.filter_append]
  cases hf : fitB n ys <;> simp [hf]
theorem filter_len {n : Nat} {C : List (List Int)} {i : Nat} : ((C.take i).filter (fitB n)).length ≤ i := Nat.le_trans (List.length_filter_le _ _) (by rw [List.length_take]; omega)
end Go.Watch
namespace Go.Proofs.Ytodabklhbagljaa
open Go Go.Vc Go.Watch
open Go.Trail (Ent value find upto okLit litsV)
set_option maxHeartbeats 4000000
set_option maxRecDepth 100000
section
variable {w0 w W : World} {l : List Res} {eb : Nat} {s : St} {S : Nat → Prop} {m : Nat} {Δ : Int → Prop} {a xa : Option Addr} {c cx : Nat} {C : List (List Int)} {R : List Fl} {X : List Int} {n : Int}

theorem uMore {c0 c1 : Int} (hs : FSrc W a C R) (hCl : C.length ≤ 9223372036854775807) (hx : Src W xa X.length 1 (X.map lV)) (hX : X.length ≤ 9223372036854775807) :
    Does Try.prog 4 #[.agg #[.int .i64 n, .slice a C.length c], .slice xa X.length cx, .agg #[.int .i64 c0, .int .i64 c1]] W fun v w' => v = .bool true ∧ Sep W w' [] := by
  refine Does_intro tok (Try.call4 _ _) Try.func4 rfl (by rfl) ?_
  have H := Sep.nil W
  (repeat ((try conv => whnf); first | refine Join_dup ?_ | (refine Br_gate ?_; first | with_reducible refine Br_not ?_ | refine xB ?_ | refine xC ?_) | (refine Ld_gate ?_; refine xL ?_) | (refine LdN_gate ?_; refine xM ?_) | (refine St_gate ?_; refine xS ?_; clear H; intro w H) | (refine StN_gate ?_; refine xN ?_; clear H; intro w H) | (refine Kept_gate ?_; refine xK ?_) | (refine Ar_gate ?_; first | (fail_if_success skip) | refine xA ?_) | (refine Eqv_in ?_) | refine Do_ptr_eq_nil tok rfl ?_ | refine Do_ptr_ne_nil tok rfl ?_ | refine Do_nil_eq_nil tok rfl ?_ | refine Nn_in (by omega) ?_ | refine Nz_in (by omega) ?_))
  (refine Nw_sep H ?_; clear H; intro fb w H; (try simp only [Value.cells, List.toList_toArray, List.append_nil, List.cons_append, List.nil_append] at H))
  (repeat ((try conv => whnf); first | refine Join_dup ?_ | (refine Br_gate ?_; first | with_reducible refine Br_not ?_ | refine xB ?_ | refine xC ?_) | (refine Ld_gate ?_; refine xL ?_) | (refine LdN_gate ?_; refine xM ?_) | (refine St_gate ?_; refine xS ?_; clear H; intro w H) | (refine StN_gate ?_; refine xN ?_; clear H; intro w H) | (refine Kept_gate ?_; refine xK ?_) | (refine Ar_gate ?_; first | (fail_if_success skip) | refine xA ?_) | (refine Eqv_in ?_) | refine Do_ptr_eq_nil tok rfl ?_ | refine Do_ptr_ne_nil tok rfl ?_ | refine Do_nil_eq_nil tok rfl ?_ | refine Nn_in (by omega) ?_ | refine Nz_in (by omega) ?_))
  (refine Nw_sep H ?_; clear H; intro cb w H; (try simp only [Value.cells, List.toList_toArray, List.append_nil, List.cons_append, List.nil_append] at H))
  (repeat ((try conv => whnf); first | refine Join_dup ?_ | (refine Br_gate ?_; first | with_reducible refine Br_not ?_ | refine xB ?_ | refine xC ?_) | (refine Ld_gate ?_; refine xL ?_) | (refine LdN_gate ?_; refine xM ?_) | (refine St_gate ?_; refine xS ?_; clear H; intro w H) | (refine StN_gate ?_; refine xN ?_; clear H; intro w H) | (refine Kept_gate ?_; refine xK ?_) | (refine Ar_gate ?_; first | (fail_if_success skip) | refine xA ?_) | (refine Eqv_in ?_) | refine Do_ptr_eq_nil tok rfl ?_ | refine Do_ptr_ne_nil tok rfl ?_ | refine Do_nil_eq_nil tok rfl ?_ | refine Nn_in (by omega) ?_ | refine Nz_in (by omega) ?_))
  refine Call_of (wAlive w) ?_
  rintro _ w' ⟨rfl, HH⟩
  replace H := H.add HH
  clear HH
  by_cases b1 : n < 0
  · (repeat ((try conv => whnf); first | refine Join_dup ?_ | (refine Br_gate ?_; first | with_reducible refine Br_not ?_ | refine xB ?_ | refine xC ?_) | (refine Ld_gate ?_; refine xL ?_) | (refine LdN_gate ?_; refine xM ?_) | (refine St_gate ?_; refine xS ?_; clear H; intro w H) | (refine StN_gate ?_; refine xN ?_; clear H; intro w H) | (refine Kept_gate ?_; refine xK ?_) | (refine Ar_gate ?_; first | (fail_if_success skip) | refine xA ?_) | (refine Eqv_in ?_) | refine Do_ptr_eq_nil tok rfl ?_ | refine Do_ptr_ne_nil tok rfl ?_ | refine Do_nil_eq_nil tok rfl ?_ | refine Nn_in (by omega) ?_ | refine Nz_in (by omega) ?_))
    exact Ret_in ⟨rfl, H.all⟩
  by_cases b2 : 30 < n
  · (repeat ((try conv => whnf); first | refine Join_dup ?_ | (refine Br_gate ?_; first | with_reducible refine Br_not ?_ | refine xB ?_ | refine xC ?_) | (refine Ld_gate ?_; refine xL ?_) | (refine LdN_gate ?_; refine xM ?_) | (refine St_gate ?_; refine xS ?_; clear H; intro w H) | (refine StN_gate ?_; refine xN ?_; clear H; intro w H) | (refine Kept_gate ?_; refine xK ?_) | (refine Ar_gate ?_; first | (fail_if_success skip) | refine xA ?_) | (refine Eqv_in ?_) | refine Do_ptr_eq_nil tok rfl ?_ | refine Do_ptr_ne_nil tok rfl ?_ | refine Do_nil_eq_nil tok rfl ?_ | refine Nn_in (by omega) ?_ | refine Nz_in (by omega) ?_))
    exact Ret_in ⟨rfl, H.all⟩
  by_cases b3 : 60 < C.length
  · (repeat ((try conv => whnf); first | refine Join_dup ?_ | (refine Br_gate ?_; first | with_reducible refine Br_not ?_ | refine xB ?_ | refine xC ?_) | (refine Ld_gate ?_; refine xL ?_) | (refine LdN_gate ?_; refine xM ?_) | (refine St_gate ?_; refine xS ?_; clear H; intro w H) | (refine StN_gate ?_; refine xN ?_; clear H; intro w H) | (refine Kept_gate ?_; refine xK ?_) | (refine Ar_gate ?_; first | (fail_if_success skip) | refine xA ?_) | (refine Eqv_in ?_) | refine Do_ptr_eq_nil tok rfl ?_ | refine Do_ptr_ne_nil tok rfl ?_ | refine Do_nil_eq_nil tok rfl ?_ | refine Nn_in (by omega) ?_ | refine Nz_in (by omega) ?_))
    exact Ret_in ⟨rfl, H.all⟩
  by_cases b4 : 20 < X.length
  · (repeat ((try conv => whnf); first | refine Join_dup ?_ | (refine Br_gate ?_; first | with_reducible refine Br_not ?_ | refine xB ?_ | refine xC ?_) | (refine Ld_gate ?_; refine xL ?_) | (refine LdN_gate ?_; refine xM ?_) | (refine St_gate ?_; refine xS ?_; clear H; intro w H) | (refine StN_gate ?_; refine xN ?_; clear H; intro w H) | (refine Kept_gate ?_; refine xK ?_) | (refine Ar_gate ?_; first | (fail_if_success skip) | refine xA ?_) | (refine Eqv_in ?_) | refine Do_ptr_eq_nil tok rfl ?_ | refine Do_ptr_ne_nil tok rfl ?_ | refine Do_nil_eq_nil tok rfl ?_ | refine Nn_in (by omega) ?_ | refine Nz_in (by omega) ?_))
    exact Ret_in ⟨rfl, H.all⟩
  (repeat ((try conv => whnf); first | refine Join_dup ?_ | (refine Br_gate ?_; first | with_reducible refine Br_not ?_ | refine xB ?_ | refine xC ?_) | (refine Ld_gate ?_; refine xL ?_) | (refine LdN_gate ?_; refine xM ?_) | (refine St_gate ?_; refine xS ?_; clear H; intro w H) | (refine StN_gate ?_; refine xN ?_; clear H; intro w H) | (refine Kept_gate ?_; refine xK ?_) | (refine Ar_gate ?_; first | (fail_if_success skip) | refine xA ?_) | (refine Eqv_in ?_) | refine Do_ptr_eq_nil tok rfl ?_ | refine Do_ptr_ne_nil tok rfl ?_ | refine Do_nil_eq_nil tok rfl ?_ | refine Nn_in (by omega) ?_ | refine Nz_in (by omega) ?_))
  refine Ix_in 0 rfl (by decide) ?_
  (repeat ((try conv => whnf); first | refine Join_dup ?_ | (refine Br_gate ?_; first | with_reducible refine Br_not ?_ | refine xB ?_ | refine xC ?_) | (refine Ld_gate ?_; refine xL ?_) | (refine LdN_gate ?_; refine xM ?_) | (refine St_gate ?_; refine xS ?_; clear H; intro w H) | (refine StN_gate ?_; refine xN ?_; clear H; intro w H) | (refine Kept_gate ?_; refine xK ?_) | (refine Ar_gate ?_; first | (fail_if_success skip) | refine xA ?_) | (refine Eqv_in ?_) | refine Do_ptr_eq_nil tok rfl ?_ | refine Do_ptr_ne_nil tok rfl ?_ | refine Do_nil_eq_nil tok rfl ?_ | refine Nn_in (by omega) ?_ | refine Nz_in (by omega) ?_))
  by_cases b5 : c0 < 0
  · (repeat ((try conv => whnf); first | refine Join_dup ?_ | (refine Br_gate ?_; first | with_reducible refine Br_not ?_ | refine xB ?_ | refine xC ?_) | (refine Ld_gate ?_; refine xL ?_) | (refine LdN_gate ?_; refine xM ?_) | (refine St_gate ?_; refine xS ?_; clear H; intro w H) | (refine StN_gate ?_; refine xN ?_; clear H; intro w H) | (refine Kept_gate ?_; refine xK ?_) | (refine Ar_gate ?_; first | (fail_if_success skip) | refine xA ?_) | (refine Eqv_in ?_) | refine Do_ptr_eq_nil tok rfl ?_ | refine Do_ptr_ne_nil tok rfl ?_ | refine Do_nil_eq_nil tok rfl ?_ | refine Nn_in (by omega) ?_ | refine Nz_in (by omega) ?_))
    exact Ret_in ⟨rfl, H.all⟩
  (repeat ((try conv => whnf); first | refine Join_dup ?_ | (refine Br_gate ?_; first | with_reducible refine Br_not ?_ | refine xB ?_ | refine xC ?_) | (refine Ld_gate ?_; refine xL ?_) | (refine LdN_gate ?_; refine xM ?_) | (refine St_gate ?_; refine xS ?_; clear H; intro w H) | (refine StN_gate ?_; refine xN ?_; clear H; intro w H) | (refine Kept_gate ?_; refine xK ?_) | (refine Ar_gate ?_; first | (fail_if_success skip) | refine xA ?_) | (refine Eqv_in ?_) | refine Do_ptr_eq_nil tok rfl ?_ | refine Do_ptr_ne_nil tok rfl ?_ | refine Do_nil_eq_nil tok rfl ?_ | refine Nn_in (by omega) ?_ | refine Nz_in (by omega) ?_))
  refine Ix_in 0 rfl (by decide) ?_
  (repeat ((try conv => whnf); first | refine Join_dup ?_ | (refine Br_gate ?_; first | with_reducible refine Br_not ?_ | refine xB ?_ | refine xC ?_) | (refine Ld_gate ?_; refine xL ?_) | (refine LdN_gate ?_; refine xM ?_) | (refine St_gate ?_; refine xS ?_; clear H; intro w H) | (refine StN_gate ?_; refine xN ?_; clear H; intro w H) | (refine Kept_gate ?_; refine xK ?_) | (refine Ar_gate ?_; first | (fail_if_success skip) | refine xA ?_) | (refine Eqv_in ?_) | refine Do_ptr_eq_nil tok rfl ?_ | refine Do_ptr_ne_nil tok rfl ?_ | refine Do_nil_eq_nil tok rfl ?_ | refine Nn_in (by omega) ?_ | refine Nz_in (by omega) ?_))
  by_cases b6 : (C.length : Int) < c0
  · (repeat ((try conv => whnf); first | refine Join_dup ?_ | (refine Br_gate ?_; first | with_reducible refine Br_not ?_ | refine xB ?_ | refine xC ?_) | (refine Ld_gate ?_; refine xL ?_) | (refine LdN_gate ?_; refine xM ?_) | (refine St_gate ?_; refine xS ?_; clear H; intro w H) | (refine StN_gate ?_; refine xN ?_; clear H; intro w H) | (refine Kept_gate ?_; refine xK ?_) | (refine Ar_gate ?_; first | (fail_if_success skip) | refine xA ?_) | (refine Eqv_in ?_) | refine Do_ptr_eq_nil tok rfl ?_ | refine Do_ptr_ne_nil tok rfl ?_ | refine Do_nil_eq_nil tok rfl ?_ | refine Nn_in (by omega) ?_ | refine Nz_in (by omega) ?_))
    exact Ret_in ⟨rfl, H.all⟩
  (repeat ((try conv => whnf); first | refine Join_dup ?_ | (refine Br_gate ?_; first | with_reducible refine Br_not ?_ | refine xB ?_ | refine xC ?_) | (refine Ld_gate ?_; refine xL ?_) | (refine LdN_gate ?_; refine xM ?_) | (refine St_gate ?_; refine xS ?_; clear H; intro w H) | (refine StN_gate ?_; refine xN ?_; clear H; intro w H) | (refine Kept_gate ?_; refine xK ?_) | (refine Ar_gate ?_; first | (fail_if_success skip) | refine xA ?_) | (refine Eqv_in ?_) | refine Do_ptr_eq_nil tok rfl ?_ | refine Do_ptr_ne_nil tok rfl ?_ | refine Do_nil_eq_nil tok rfl ?_ | refine Nn_in (by omega) ?_ | refine Nz_in (by omega) ?_))
  refine Ix_in 1 rfl (by decide) ?_
  (repeat ((try conv => whnf); first | refine Join_dup ?_ | (refine Br_gate ?_; first | with_reducible refine Br_not ?_ | refine xB ?_ | refine xC ?_) | (refine Ld_gate ?_; refine xL ?_) | (refine LdN_gate ?_; refine xM ?_) | (refine St_gate ?_; refine xS ?_; clear H; intro w H) | (refine StN_gate ?_; refine xN ?_; clear H; intro w H) | (refine Kept_gate ?_; refine xK ?_) | (refine Ar_gate ?_; first | (fail_if_success skip) | refine xA ?_) | (refine Eqv_in ?_) | refine Do_ptr_eq_nil tok rfl ?_ | refine Do_ptr_ne_nil tok rfl ?_ | refine Do_nil_eq_nil tok rfl ?_ | refine Nn_in (by omega) ?_ | refine Nz_in (by omega) ?_))
  by_cases b7 : c1 < 0
  · (repeat ((try conv => whnf); first | refine Join_dup ?_ | (refine Br_gate ?_; first | with_reducible refine Br_not ?_ | refine xB ?_ | refine xC ?_) | (refine Ld_gate ?_; refine xL ?_) | (refine LdN_gate ?_; refine xM ?_) | (refine St_gate ?_; refine xS ?_; clear H; intro w H) | (refine StN_gate ?_; refine xN ?_; clear H; intro w H) | (refine Kept_gate ?_; refine xK ?_) | (refine Ar_gate ?_; first | (fail_if_success skip) | refine xA ?_) | (refine Eqv_in ?_) | refine Do_ptr_eq_nil tok rfl ?_ | refine Do_ptr_ne_nil tok rfl ?_ | refine Do_nil_eq_nil tok rfl ?_ | refine Nn_in (by omega) ?_ | refine Nz_in (by omega) ?_))
    exact Ret_in ⟨rfl, H.all⟩
  (repeat ((try conv => whnf); first | refine Join_dup ?_ | (refine Br_gate ?_; first | with_reducible refine Br_not ?_ | refine xB ?_ | refine xC ?_) | (refine Ld_gate ?_; refine xL ?_) | (refine LdN_gate ?_; refine xM ?_) | (refine St_gate ?_; refine xS ?_; clear H; intro w H) | (refine StN_gate ?_; refine xN ?_; clear H; intro w H) | (refine Kept_gate ?_; refine xK ?_) | (refine Ar_gate ?_; first | (fail_if_success skip) | refine xA ?_) | (refine Eqv_in ?_) | refine Do_ptr_eq_nil tok rfl ?_ | refine Do_ptr_ne_nil tok rfl ?_ | refine Do_nil_eq_nil tok rfl ?_ | refine Nn_in (by omega) ?_ | refine Nz_in (by omega) ?_))
  refine Ix_in 1 rfl (by decide) ?_
  (repeat ((try conv => whnf); first | refine Join_dup ?_ | (refine Br_gate ?_; first | with_reducible refine Br_not ?_ | refine xB ?_ | refine xC ?_) | (refine Ld_gate ?_; refine xL ?_) | (refine LdN_gate ?_; refine xM ?_) | (refine St_gate ?_; refine xS ?_; clear H; intro w H) | (refine StN_gate ?_; refine xN ?_; clear H; intro w H) | (refine Kept_gate ?_; refine xK ?_) | (refine Ar_gate ?_; first | (fail_if_success skip) | refine xA ?_) | (refine Eqv_in ?_) | refine Do_ptr_eq_nil tok rfl ?_ | refine Do_ptr_ne_nil tok rfl ?_ | refine Do_nil_eq_nil tok rfl ?_ | refine Nn_in (by omega) ?_ | refine Nz_in (by omega) ?_))
  by_cases b8 : (X.length : Int) < c1
  · (repeat ((try conv => whnf); first | refine Join_dup ?_ | (refine Br_gate ?_; first | with_reducible refine Br_not ?_ | refine xB ?_ | refine xC ?_) | (refine Ld_gate ?_; refine xL ?_) | (refine LdN_gate ?_; refine xM ?_) | (refine St_gate ?_; refine xS ?_; clear H; intro w H) | (refine StN_gate ?_; refine xN ?_; clear H; intro w H) | (refine Kept_gate ?_; refine xK ?_) | (refine Ar_gate ?_; first | (fail_if_success skip) | refine xA ?_) | (refine Eqv_in ?_) | refine Do_ptr_eq_nil tok rfl ?_ | refine Do_ptr_ne_nil tok rfl ?_ | refine Do_nil_eq_nil tok rfl ?_ | refine Nn_in (by omega) ?_ | refine Nz_in (by omega) ?_))
    exact Ret_in ⟨rfl, H.all⟩
  obtain ⟨k, rfl⟩ : ∃ k : Nat, n = k := ⟨n.toNat, by omega⟩
  obtain ⟨d0, rfl⟩ : ∃ t : Nat, c0 = t := ⟨c0.toNat, by omega⟩
  obtain ⟨d1, rfl⟩ : ∃ t : Nat, c1 = t := ⟨c1.toNat, by omega⟩
  (repeat ((try conv => whnf); first | refine Join_dup ?_ | (refine Br_gate ?_; first | with_reducible refine Br_not ?_ | refine xB ?_ | refine xC ?_) | (refine Ld_gate ?_; refine xL ?_) | (refine LdN_gate ?_; refine xM ?_) | (refine St_gate ?_; refine xS ?_; clear H; intro w H) | (refine StN_gate ?_; refine xN ?_; clear H; intro w H) | (refine Kept_gate ?_; refine xK ?_) | (refine Ar_gate ?_; first | (fail_if_success skip) | refine xA ?_) | (refine Eqv_in ?_) | refine Do_ptr_eq_nil tok rfl ?_ | refine Do_ptr_ne_nil tok rfl ?_ | refine Do_nil_eq_nil tok rfl ?_ | refine Nn_in (by omega) ?_ | refine Nz_in (by omega) ?_))
  refine Draw_intro mixed [0, 1, 3, 4, 2, 5, 6, 7] (by decide +kernel) (fun w _ fd => ?_); replace H := H.fr fd; clear fd
  (repeat ((try conv => whnf); first | refine Join_dup ?_ | (refine Br_gate ?_; first | with_reducible refine Br_not ?_ | refine xB ?_ | refine xC ?_) | (refine Ld_gate ?_; refine xL ?_) | (refine LdN_gate ?_; refine xM ?_) | (refine St_gate ?_; refine xS ?_; clear H; intro w H) | (refine StN_gate ?_; refine xN ?_; clear H; intro w H) | (refine Kept_gate ?_; refine xK ?_) | (refine Ar_gate ?_; first | (fail_if_success skip) | refine xA ?_) | (refine Eqv_in ?_) | refine Do_ptr_eq_nil tok rfl ?_ | refine Do_ptr_ne_nil tok rfl ?_ | refine Do_nil_eq_nil tok rfl ?_ | refine Nn_in (by omega) ?_ | refine Nz_in (by omega) ?_))
  (try conv => whnf)
  have hkn : (max 0 (min (k : Int) 262144)).toNat = k := by omega
  refine Call_of (eNew H (k : Int)) ?_
  clear H
  rintro _ w ⟨ef, rfl, H⟩
  rw [hkn] at H
  (try conv => whnf)
  (repeat (refine Kept_gate ?_; first | refine Kept_in (Sep.cellAt H (by repeat first | exact List.Mem.head _ | refine List.Mem.tail _ ?_) (by rfl)) ?_ | refine Kept_in (Sep.cellN H (by repeat first | exact List.Mem.head _ | refine List.Mem.tail _ ?_)) ?_))
  (try conv => whnf)
  refine Call_of (eNew H (k : Int)) ?_
  clear H
  rintro _ w ⟨ea, rfl, H⟩
  rw [hkn] at H
  (try conv => whnf)
  (repeat (refine Kept_gate ?_; first | refine Kept_in (Sep.cellAt H (by repeat first | exact List.Mem.head _ | refine List.Mem.tail _ ?_) (by rfl)) ?_ | refine Kept_in (Sep.cellN H (by repeat first | exact List.Mem.head _ | refine List.Mem.tail _ ?_)) ?_))
  (repeat ((try conv => whnf); first | refine Join_dup ?_ | (refine Br_gate ?_; first | with_reducible refine Br_not ?_ | refine xB ?_ | refine xC ?_) | (refine Ld_gate ?_; refine xL ?_) | (refine LdN_gate ?_; refine xM ?_) | (refine St_gate ?_; refine xS ?_; clear H; intro w H) | (refine StN_gate ?_; refine xN ?_; clear H; intro w H) | (refine Kept_gate ?_; refine xK ?_) | (refine Ar_gate ?_; first | (fail_if_success skip) | refine xA ?_) | (refine Eqv_in ?_) | refine Do_ptr_eq_nil tok rfl ?_ | refine Do_ptr_ne_nil tok rfl ?_ | refine Do_nil_eq_nil tok rfl ?_ | refine Nn_in (by omega) ?_ | refine Nz_in (by omega) ?_))
  replace H : Vc.Sep W w [engR ea (st0 k), engR ef (st0 k), cellsR cb 44 [.int .i64 (d0 : Int), .int .i64 (d1 : Int)], cellsR fb 24 [.int .i64 (k : Int), .slice a C.length c]] := H
  have hnew := Has.new (n := k) (by omega) (S := fun L => L = 0) rfl
  refine Loop_intro (fun q : Nat × St × St => [(72, .int .i64 (q.1 : Int))]) (fun q w => (q.1 ≤ C.length ∧ Has (fun L => L = 0) q.2.1 k ((C.take q.1).filter (fitB k)) (fun _ => False) q.1 ∧ Has (fun L => L = 0) q.2.2 k ((C.take (min q.1 d0)).filter (fitB k)) (fun _ => False) q.1 ∧ (q.2.1.E = [] ∧ q.2.1.D = 0) ∧ q.2.2.E = [] ∧ q.2.2.D = 0) ∧
    Sep W w [engR ea q.2.1, engR ef q.2.2, cellsR cb 44 [.int .i64 (d0 : Int), .int .i64 (d1 : Int)], cellsR fb 24 [.int .i64 (k : Int), .slice a C.length c]]) (fun q => C.length - q.1)
    (0, st0 k, st0 k) ⟨rfl, trivial⟩ ⟨⟨Nat.zero_le _, by simpa using hnew, by simpa using hnew, ⟨rfl, rfl⟩, rfl, rfl⟩, H⟩ ?_
  clear H
  rintro ⟨i, sa, sf⟩ w ⟨⟨hi, ha, hf, hEa, hEf⟩, H⟩
  simp only [] at hi ha hf hEa hEf H ⊢
  refine Br_dec (fun k1 => ?_) (fun k1 => ?_)
  · have hlt : i < C.length := by omega
    obtain ⟨⟨ya, yc, ys⟩, hy, hyC, hys, hyl⟩ := hs.at hlt
    simp only [] at hyC hys hyl
    obtain ⟨rb, ro, rfl⟩ := hs.rows.addr (by rw [List.length_map, hs.len]; omega)
    have hnx := filter_next (n := k) hyC
    have hfl := filter_len (n := k) (C := C) (i := i)
    have hfl2 := filter_len (n := k) (C := C) (i := min i d0)
    refine Ix_in i rfl hlt ?_
    refine Ld_src (j := i) (H.rd hs.rows) (v := .slice ya ys.length yc) (by rw [List.getElem?_map, hy]; rfl) ?_
    (repeat ((try conv => whnf); first | refine Join_dup ?_ | (refine Br_gate ?_; first | with_reducible refine Br_not ?_ | refine xB ?_ | refine xC ?_) | (refine Ld_gate ?_; refine xL ?_) | (refine LdN_gate ?_; refine xM ?_) | (refine St_gate ?_; refine xS ?_; clear H; intro w H) | (refine StN_gate ?_; refine xN ?_; clear H; intro w H) | (refine Kept_gate ?_; refine xK ?_) | (refine Ar_gate ?_; first | (fail_if_success skip) | refine xA ?_) | (refine Eqv_in ?_) | refine Do_ptr_eq_nil tok rfl ?_ | refine Do_ptr_ne_nil tok rfl ?_ | refine Do_nil_eq_nil tok rfl ?_ | refine Nn_in (by omega) ?_ | refine Nz_in (by omega) ?_))
    by_cases h20 : 20 < ys.length
    · (repeat ((try conv => whnf); first | refine Join_dup ?_ | (refine Br_gate ?_; first | with_reducible refine Br_not ?_ | refine xB ?_ | refine xC ?_) | (refine Ld_gate ?_; refine xL ?_) | (refine LdN_gate ?_; refine xM ?_) | (refine St_gate ?_; refine xS ?_; clear H; intro w H) | (refine StN_gate ?_; refine xN ?_; clear H; intro w H) | (refine Kept_gate ?_; refine xK ?_) | (refine Ar_gate ?_; first | (fail_if_success skip) | refine xA ?_) | (refine Eqv_in ?_) | refine Do_ptr_eq_nil tok rfl ?_ | refine Do_ptr_ne_nil tok rfl ?_ | refine Do_nil_eq_nil tok rfl ?_ | refine Nn_in (by omega) ?_ | refine Nz_in (by omega) ?_))
      exact Ret_in ⟨rfl, H.all⟩
    (repeat ((try conv => whnf); first | refine Join_dup ?_ | (refine Br_gate ?_; first | with_reducible refine Br_not ?_ | refine xB ?_ | refine xC ?_) | (refine Ld_gate ?_; refine xL ?_) | (refine LdN_gate ?_; refine xM ?_) | (refine St_gate ?_; refine xS ?_; clear H; intro w H) | (refine StN_gate ?_; refine xN ?_; clear H; intro w H) | (refine Kept_gate ?_; refine xK ?_) | (refine Ar_gate ?_; first | (fail_if_success skip) | refine xA ?_) | (refine Eqv_in ?_) | refine Do_ptr_eq_nil tok rfl ?_ | refine Do_ptr_ne_nil tok rfl ?_ | refine Do_nil_eq_nil tok rfl ?_ | refine Nn_in (by omega) ?_ | refine Nz_in (by omega) ?_))
    refine Ix_in 0 rfl (by decide) ?_
    (repeat ((try conv => whnf); first | refine Join_dup ?_ | (refine Br_gate ?_; first | with_reducible refine Br_not ?_ | refine xB ?_ | refine xC ?_) | (refine Ld_gate ?_; refine xL ?_) | (refine LdN_gate ?_; refine xM ?_) | (refine St_gate ?_; refine xS ?_; clear H; intro w H) | (refine StN_gate ?_; refine xN ?_; clear H; intro w H) | (refine Kept_gate ?_; refine xK ?_) | (refine Ar_gate ?_; first | (fail_if_success skip) | refine xA ?_) | (refine Eqv_in ?_) | refine Do_ptr_eq_nil tok rfl ?_ | refine Do_ptr_ne_nil tok rfl ?_ | refine Do_nil_eq_nil tok rfl ?_ | refine Nn_in (by omega) ?_ | refine Nz_in (by omega) ?_))
    by_cases hcut : i < d0
    case' pos =>
      have em : min (i + 1) d0 = i + 1 := by omega
      have em2 : min i d0 = i := by omega
      rw [em2] at hf
      (repeat ((try conv => whnf); first | refine Join_dup ?_ | (refine Br_gate ?_; first | with_reducible refine Br_not ?_ | refine xB ?_ | refine xC ?_) | (refine Ld_gate ?_; refine xL ?_) | (refine LdN_gate ?_; refine xM ?_) | (refine St_gate ?_; refine xS ?_; clear H; intro w H) | (refine StN_gate ?_; refine xN ?_; clear H; intro w H) | (refine Kept_gate ?_; refine xK ?_) | (refine Ar_gate ?_; first | (fail_if_success skip) | refine xA ?_) | (refine Eqv_in ?_) | refine Do_ptr_eq_nil tok rfl ?_ | refine Do_ptr_ne_nil tok rfl ?_ | refine Do_nil_eq_nil tok rfl ?_ | refine Nn_in (by omega) ?_ | refine Nz_in (by omega) ?_))
      replace H := H.top 1 rfl (by simp only [List.eraseIdx_cons_succ, List.eraseIdx_cons_zero]; rfl)
      refine Call_of (hAdd H hf (fun h => h.rd hys) (by omega) (by omega) (by omega)) ?_
      clear H
      rintro v0 w hB
      have hB2 : ∃ sf2, Has (fun L => L = 0) sf2 k ((C.take (min (i + 1) d0)).filter (fitB k)) (fun _ => False) (i + 1) ∧ sf2.E = [] ∧ sf2.D = 0 ∧ Sep W w [engR ef sf2, engR ea sa, cellsR cb 44 [.int .i64 (d0 : Int), .int .i64 (d1 : Int)], cellsR fb 24 [.int .i64 (k : Int), .slice (some ⟨rb, ro, none⟩) C.length c]] := by
        rw [em, hnx]
        rcases hB with ⟨h1, _, H⟩ | ⟨h1, _, s2, h2, e2, d2, _, _, H⟩
        · rw [h1, if_neg Bool.false_ne_true]; exact ⟨sf, { hf with few := by have := hf.few; omega }, hEf.1, hEf.2, H⟩
        · rw [h1, if_pos rfl]; exact ⟨s2, h2, by rw [e2, hEf.1], by rw [d2, hEf.2], H⟩
      clear hB
      obtain ⟨sf2, hf2, hEf2, hDf2, H⟩ := hB2
      replace H := H.top 1 rfl (by simp only [List.eraseIdx_cons_succ, List.eraseIdx_cons_zero]; rfl)
      (repeat ((try conv => whnf); first | refine Join_dup ?_ | (refine Br_gate ?_; first | with_reducible refine Br_not ?_ | refine xB ?_ | refine xC ?_) | (refine Ld_gate ?_; refine xL ?_) | (refine LdN_gate ?_; refine xM ?_) | (refine St_gate ?_; refine xS ?_; clear H; intro w H) | (refine StN_gate ?_; refine xN ?_; clear H; intro w H) | (refine Kept_gate ?_; refine xK ?_) | (refine Ar_gate ?_; first | (fail_if_success skip) | refine xA ?_) | (refine Eqv_in ?_) | refine Do_ptr_eq_nil tok rfl ?_ | refine Do_ptr_ne_nil tok rfl ?_ | refine Do_nil_eq_nil tok rfl ?_ | refine Nn_in (by omega) ?_ | refine Nz_in (by omega) ?_))
    case' neg =>
      have em : min (i + 1) d0 = min i d0 := by omega
      have hf2 : Has (fun L => L = 0) sf k ((C.take (min (i + 1) d0)).filter (fitB k)) (fun _ => False) (i + 1) := by rw [em]; exact { hf with few := by have := hf.few; omega }
      obtain ⟨sf2, hf2, hEf2, hDf2, H⟩ : ∃ sf2, Has (fun L => L = 0) sf2 k ((C.take (min (i + 1) d0)).filter (fitB k)) (fun _ => False) (i + 1) ∧ sf2.E = [] ∧ sf2.D = 0 ∧ Sep W w [engR ea sa, engR ef sf2, cellsR cb 44 [.int .i64 (d0 : Int), .int .i64 (d1 : Int)], cellsR fb 24 [.int .i64 (k : Int), .slice (some ⟨rb, ro, none⟩) C.length c]] := ⟨sf, hf2, hEf.1, hEf.2, H⟩
      (repeat ((try conv => whnf); first | refine Join_dup ?_ | (refine Br_gate ?_; first | with_reducible refine Br_not ?_ | refine xB ?_ | refine xC ?_) | (refine Ld_gate ?_; refine xL ?_) | (refine LdN_gate ?_; refine xM ?_) | (refine St_gate ?_; refine xS ?_; clear H; intro w H) | (refine StN_gate ?_; refine xN ?_; clear H; intro w H) | (refine Kept_gate ?_; refine xK ?_) | (refine Ar_gate ?_; first | (fail_if_success skip) | refine xA ?_) | (refine Eqv_in ?_) | refine Do_ptr_eq_nil tok rfl ?_ | refine Do_ptr_ne_nil tok rfl ?_ | refine Do_nil_eq_nil tok rfl ?_ | refine Nn_in (by omega) ?_ | refine Nz_in (by omega) ?_))
    all_goals
      refine Call_of (hAdd H ha (fun h => h.rd hys) (by omega) (by omega) (by omega)) ?_
      clear H
      rintro v1 w hB
      have hB2 : ∃ sa2, Has (fun L => L = 0) sa2 k ((C.take (i + 1)).filter (fitB k)) (fun _ => False) (i + 1) ∧ sa2.E = [] ∧ sa2.D = 0 ∧ Sep W w [engR ea sa2, engR ef sf2, cellsR cb 44 [.int .i64 (d0 : Int), .int .i64 (d1 : Int)], cellsR fb 24 [.int .i64 (k : Int), .slice (some ⟨rb, ro, none⟩) C.length c]] := by
        rw [hnx]
        rcases hB with ⟨h1, _, H⟩ | ⟨h1, _, s2, h2, e2, d2, _, _, H⟩
        · rw [h1, if_neg Bool.false_ne_true]; exact ⟨sa, { ha with few := by have := ha.few; omega }, hEa.1, hEa.2, H⟩
        · rw [h1, if_pos rfl]; exact ⟨s2, h2, by rw [e2, hEa.1], by rw [d2, hEa.2], H⟩
      obtain ⟨sa2, ha2, hEa2, hDa2, H⟩ := hB2
      (repeat ((try conv => whnf); first | refine Join_dup ?_ | (refine Br_gate ?_; first | with_reducible refine Br_not ?_ | refine xB ?_ | refine xC ?_) | (refine Ld_gate ?_; refine xL ?_) | (refine LdN_gate ?_; refine xM ?_) | (refine St_gate ?_; refine xS ?_; clear H; intro w H) | (refine StN_gate ?_; refine xN ?_; clear H; intro w H) | (refine Kept_gate ?_; refine xK ?_) | (refine Ar_gate ?_; first | (fail_if_success skip) | refine xA ?_) | (refine Eqv_in ?_) | refine Do_ptr_eq_nil tok rfl ?_ | refine Do_ptr_ne_nil tok rfl ?_ | refine Do_nil_eq_nil tok rfl ?_ | refine Nn_in (by omega) ?_ | refine Nz_in (by omega) ?_))
      exact ⟨(i + 1, sa2, _), ⟨congrArg some (vint (by simp)), trivial⟩, ⟨⟨by omega, ha2, hf2, ⟨hEa2, hDa2⟩, hEf2, hDf2⟩, H⟩, by simp; omega⟩
  obtain rfl : i = C.length := by omega
  rw [List.take_length] at ha
  have hmin : min C.length d0 = d0 := by omega
  rw [hmin] at hf
  (repeat ((try conv => whnf); first | refine Join_dup ?_ | (refine Br_gate ?_; first | with_reducible refine Br_not ?_ | refine xB ?_ | refine xC ?_) | (refine Ld_gate ?_; refine xL ?_) | (refine LdN_gate ?_; refine xM ?_) | (refine St_gate ?_; refine xS ?_; clear H; intro w H) | (refine StN_gate ?_; refine xN ?_; clear H; intro w H) | (refine Kept_gate ?_; refine xK ?_) | (refine Ar_gate ?_; first | (fail_if_success skip) | refine xA ?_) | (refine Eqv_in ?_) | refine Do_ptr_eq_nil tok rfl ?_ | refine Do_ptr_ne_nil tok rfl ?_ | refine Do_nil_eq_nil tok rfl ?_ | refine Nn_in (by omega) ?_ | refine Nz_in (by omega) ?_))
  have ha0 : Has (fun L => L = sa.D) sa k (C.filter (fitB k)) (fun _ => False) 200 := { ha.weaken (S' := fun L => L = sa.D) (fun L h => by rw [h, hEa.2]) rfl with few := by have := ha.few; omega }
  have hf0 : Has (fun L => L = sf.D) sf k ((C.take d0).filter (fitB k)) (fun _ => False) 200 := { hf.weaken (S' := fun L => L = sf.D) (fun L h => by rw [h, hEf.2]) rfl with few := by have := hf.few; omega }
  refine Loop_intro (fun q : Nat × (St × (Int → Prop)) × (St × (Int → Prop)) => [(93, .int .i64 (q.1 : Int))]) (fun q w => (q.1 ≤ X.length ∧ Has (fun L => L = q.2.1.1.D) q.2.1.1 k (C.filter (fitB k)) q.2.1.2 200 ∧ Has (fun L => L = q.2.2.1.D) q.2.2.1 k ((C.take d0).filter (fitB k)) q.2.2.2 200 ∧ (∀ x, q.2.2.2 x → q.2.1.2 x) ∧ (q.1 ≤ d1 → q.2.1.1.E = q.2.2.1.E ∧ q.2.1.1.D = q.2.2.1.D) ∧ q.2.1.1.D ≤ q.1 ∧ q.2.2.1.D ≤ q.1) ∧
    Sep W w [engR ea q.2.1.1, engR ef q.2.2.1, cellsR cb 44 [.int .i64 (d0 : Int), .int .i64 (d1 : Int)], cellsR fb 24 [.int .i64 (k : Int), .slice a C.length c]]) (fun q => X.length - q.1)
    (0, (sa, fun _ => False), (sf, fun _ => False)) ⟨rfl, trivial⟩ ⟨⟨Nat.zero_le _, ha0, hf0, fun x h => h, fun _ => ⟨by rw [hEa.1, hEf.1], by rw [hEa.2, hEf.2]⟩, by rw [hEa.2]; exact Nat.le_refl _, by rw [hEf.2]; exact Nat.le_refl _⟩, H⟩ ?_
  clear H ha hf ha0 hf0 hEa hEf hmin sa sf
  rintro ⟨i, ⟨sa, Δa⟩, sf, Δf⟩ w ⟨⟨hi, ha, hf, hsub, hsame, hDa, hDf⟩, H⟩
  simp only [] at hi ha hf hsub hsame hDa hDf H ⊢
  refine Br_dec (fun k3 => ?_) (fun k3 => ?_)
  · have hlt : i < X.length := by omega
    obtain ⟨xb, xo, rfl⟩ := hx.addr (by rw [List.length_map]; omega)
    have hxi : X[i]? = some X[i] := List.getElem?_eq_getElem hlt
    generalize X[i] = y at hxi
    refine Ix_in i rfl hlt ?_
    refine Ld_src (j := i) (H.rd hx) (v := lV y) (by rw [List.getElem?_map, hxi]; rfl) ?_
    (repeat ((try conv => whnf); first | refine Join_dup ?_ | (refine Br_gate ?_; first | with_reducible refine Br_not ?_ | refine xB ?_ | refine xC ?_) | (refine Ld_gate ?_; refine xL ?_) | (refine LdN_gate ?_; refine xM ?_) | (refine St_gate ?_; refine xS ?_; clear H; intro w H) | (refine StN_gate ?_; refine xN ?_; clear H; intro w H) | (refine Kept_gate ?_; refine xK ?_) | (refine Ar_gate ?_; first | (fail_if_success skip) | refine xA ?_) | (refine Eqv_in ?_) | refine Do_ptr_eq_nil tok rfl ?_ | refine Do_ptr_ne_nil tok rfl ?_ | refine Do_nil_eq_nil tok rfl ?_ | refine Nn_in (by omega) ?_ | refine Nz_in (by omega) ?_))
    refine Call_of (hDecide H ha (S' := fun L => L = sa.D + 1) (x := y) (by omega) (fun L h => .inr h) rfl (fun e _ L h _ => by omega)) ?_
    clear H
    rintro _ w (⟨rfl, hf0, hyo, h2, H⟩ | ⟨⟨z, rfl, hz0, hz1, hz2⟩, hf0, H⟩)
    · (repeat ((try conv => whnf); first | refine Join_dup ?_ | (refine Br_gate ?_; first | with_reducible refine Br_not ?_ | refine xB ?_ | refine xC ?_) | (refine Ld_gate ?_; refine xL ?_) | (refine LdN_gate ?_; refine xM ?_) | (refine St_gate ?_; refine xS ?_; clear H; intro w H) | (refine StN_gate ?_; refine xN ?_; clear H; intro w H) | (refine Kept_gate ?_; refine xK ?_) | (refine Ar_gate ?_; first | (fail_if_success skip) | refine xA ?_) | (refine Eqv_in ?_) | refine Do_ptr_eq_nil tok rfl ?_ | refine Do_ptr_ne_nil tok rfl ?_ | refine Do_nil_eq_nil tok rfl ?_ | refine Nn_in (by omega) ?_ | refine Nz_in (by omega) ?_))
      refine Ix_in 1 rfl (by decide) ?_
      (repeat ((try conv => whnf); first | refine Join_dup ?_ | (refine Br_gate ?_; first | with_reducible refine Br_not ?_ | refine xB ?_ | refine xC ?_) | (refine Ld_gate ?_; refine xL ?_) | (refine LdN_gate ?_; refine xM ?_) | (refine St_gate ?_; refine xS ?_; clear H; intro w H) | (refine StN_gate ?_; refine xN ?_; clear H; intro w H) | (refine Kept_gate ?_; refine xK ?_) | (refine Ar_gate ?_; first | (fail_if_success skip) | refine xA ?_) | (refine Eqv_in ?_) | refine Do_ptr_eq_nil tok rfl ?_ | refine Do_ptr_ne_nil tok rfl ?_ | refine Do_nil_eq_nil tok rfl ?_ | refine Nn_in (by omega) ?_ | refine Nz_in (by omega) ?_))
      by_cases hcut : i < d1
      · obtain ⟨hE, hD⟩ := hsame (by omega)
        (repeat ((try conv => whnf); first | refine Join_dup ?_ | (refine Br_gate ?_; first | with_reducible refine Br_not ?_ | refine xB ?_ | refine xC ?_) | (refine Ld_gate ?_; refine xL ?_) | (refine LdN_gate ?_; refine xM ?_) | (refine St_gate ?_; refine xS ?_; clear H; intro w H) | (refine StN_gate ?_; refine xN ?_; clear H; intro w H) | (refine Kept_gate ?_; refine xK ?_) | (refine Ar_gate ?_; first | (fail_if_success skip) | refine xA ?_) | (refine Eqv_in ?_) | refine Do_ptr_eq_nil tok rfl ?_ | refine Do_ptr_ne_nil tok rfl ?_ | refine Do_nil_eq_nil tok rfl ?_ | refine Nn_in (by omega) ?_ | refine Nz_in (by omega) ?_))
        replace H := H.top 1 rfl (by simp only [List.eraseIdx_cons_succ, List.eraseIdx_cons_zero]; rfl)
        refine Call_of (hDecide H hf (S' := fun L => L = sf.D + 1) (x := y) (by omega) (fun L h => .inr h) rfl (fun e _ L h _ => by omega)) ?_
        clear H
        rintro _ w (⟨rfl, _, _, h3, H⟩ | ⟨_, hf1, _⟩)
        · replace H := H.top 1 rfl (by simp only [List.eraseIdx_cons_succ, List.eraseIdx_cons_zero]; rfl)
          (repeat ((try conv => whnf); first | refine Join_dup ?_ | (refine Br_gate ?_; first | with_reducible refine Br_not ?_ | refine xB ?_ | refine xC ?_) | (refine Ld_gate ?_; refine xL ?_) | (refine LdN_gate ?_; refine xM ?_) | (refine St_gate ?_; refine xS ?_; clear H; intro w H) | (refine StN_gate ?_; refine xN ?_; clear H; intro w H) | (refine Kept_gate ?_; refine xK ?_) | (refine Ar_gate ?_; first | (fail_if_success skip) | refine xA ?_) | (refine Eqv_in ?_) | refine Do_ptr_eq_nil tok rfl ?_ | refine Do_ptr_ne_nil tok rfl ?_ | refine Do_nil_eq_nil tok rfl ?_ | refine Nn_in (by omega) ?_ | refine Nz_in (by omega) ?_))
          exact ⟨(i + 1, (Watch.decide' sa y, fun x => Δa x ∨ x = y), (Watch.decide' sf y, fun x => Δf x ∨ x = y)), ⟨congrArg some (vint (by simp)), trivial⟩, ⟨⟨by omega, h2, h3, fun x h => h.imp (hsub x) id, fun _ => ⟨by
            show sa.E ++ [_] = sf.E ++ [_]
            rw [hE, hD], by show sa.D + 1 = sf.D + 1; omega⟩, by show sa.D + 1 ≤ i + 1; omega, by show sf.D + 1 ≤ i + 1; omega⟩, H⟩, by simp; omega⟩
        · have hna := ha.n
          have hnf := hf.n
          exact (hf1 (by rw [hnf, ← hE, ← hna]; exact hf0)).elim
      · (repeat ((try conv => whnf); first | refine Join_dup ?_ | (refine Br_gate ?_; first | with_reducible refine Br_not ?_ | refine xB ?_ | refine xC ?_) | (refine Ld_gate ?_; refine xL ?_) | (refine LdN_gate ?_; refine xM ?_) | (refine St_gate ?_; refine xS ?_; clear H; intro w H) | (refine StN_gate ?_; refine xN ?_; clear H; intro w H) | (refine Kept_gate ?_; refine xK ?_) | (refine Ar_gate ?_; first | (fail_if_success skip) | refine xA ?_) | (refine Eqv_in ?_) | refine Do_ptr_eq_nil tok rfl ?_ | refine Do_ptr_ne_nil tok rfl ?_ | refine Do_nil_eq_nil tok rfl ?_ | refine Nn_in (by omega) ?_ | refine Nz_in (by omega) ?_))
        exact ⟨(i + 1, (Watch.decide' sa y, fun x => Δa x ∨ x = y), (sf, Δf)), ⟨congrArg some (vint (by simp)), trivial⟩, ⟨⟨by omega, h2, hf, fun x h => .inl (hsub x h), fun h => by omega, by show sa.D + 1 ≤ i + 1; omega, Nat.le_succ_of_le hDf⟩, H⟩, by simp; omega⟩
    · (repeat ((try conv => whnf); first | refine Join_dup ?_ | (refine Br_gate ?_; first | with_reducible refine Br_not ?_ | refine xB ?_ | refine xC ?_) | (refine Ld_gate ?_; refine xL ?_) | (refine LdN_gate ?_; refine xM ?_) | (refine St_gate ?_; refine xS ?_; clear H; intro w H) | (refine StN_gate ?_; refine xN ?_; clear H; intro w H) | (refine Kept_gate ?_; refine xK ?_) | (refine Ar_gate ?_; first | (fail_if_success skip) | refine xA ?_) | (refine Eqv_in ?_) | refine Do_ptr_eq_nil tok rfl ?_ | refine Do_ptr_ne_nil tok rfl ?_ | refine Do_nil_eq_nil tok rfl ?_ | refine Nn_in (by omega) ?_ | refine Nz_in (by omega) ?_))
      exact ⟨(i + 1, (sa, Δa), (sf, Δf)), ⟨congrArg some (vint (by simp)), trivial⟩, ⟨⟨by omega, ha, hf, hsub, fun h => hsame (by have : i + 1 ≤ d1 := h; omega), Nat.le_succ_of_le hDa, Nat.le_succ_of_le hDf⟩, H⟩, by simp; omega⟩
  obtain rfl : i = X.length := by omega
  have hLa : (C.filter (fitB k)).length ≤ 60 := Nat.le_trans (List.length_filter_le _ _) (by omega)
  have hLf : ((C.take d0).filter (fitB k)).length ≤ 60 := Nat.le_trans (List.length_filter_le _ _) (by rw [List.length_take]; omega)
  (repeat ((try conv => whnf); first | refine Join_dup ?_ | (refine Br_gate ?_; first | with_reducible refine Br_not ?_ | refine xB ?_ | refine xC ?_) | (refine Ld_gate ?_; refine xL ?_) | (refine LdN_gate ?_; refine xM ?_) | (refine St_gate ?_; refine xS ?_; clear H; intro w H) | (refine StN_gate ?_; refine xN ?_; clear H; intro w H) | (refine Kept_gate ?_; refine xK ?_) | (refine Ar_gate ?_; first | (fail_if_success skip) | refine xA ?_) | (refine Eqv_in ?_) | refine Do_ptr_eq_nil tok rfl ?_ | refine Do_ptr_ne_nil tok rfl ?_ | refine Do_nil_eq_nil tok rfl ?_ | refine Nn_in (by omega) ?_ | refine Nz_in (by omega) ?_))
  replace H := H.top 1 rfl (by simp only [List.eraseIdx_cons_succ, List.eraseIdx_cons_zero]; rfl)
  refine Call_of (hProp H hf (by
    have : (k + 1) * (((C.take d0).filter (fitB k)).length + 1) ≤ 31 * 61 := Nat.mul_le_mul (by omega) (by omega)
    omega) (by omega)) ?_
  clear H
  rintro _ w ⟨sf2, z1, rfl, b9, b10, o1, hf2, xf2, H⟩
  (repeat ((try conv => whnf); first | refine Join_dup ?_ | (refine Br_gate ?_; first | with_reducible refine Br_not ?_ | refine xB ?_ | refine xC ?_) | (refine Ld_gate ?_; refine xL ?_) | (refine LdN_gate ?_; refine xM ?_) | (refine St_gate ?_; refine xS ?_; clear H; intro w H) | (refine StN_gate ?_; refine xN ?_; clear H; intro w H) | (refine Kept_gate ?_; refine xK ?_) | (refine Ar_gate ?_; first | (fail_if_success skip) | refine xA ?_) | (refine Eqv_in ?_) | refine Do_ptr_eq_nil tok rfl ?_ | refine Do_ptr_ne_nil tok rfl ?_ | refine Do_nil_eq_nil tok rfl ?_ | refine Nn_in (by omega) ?_ | refine Nz_in (by omega) ?_))
  replace H := H.top 1 rfl (by simp only [List.eraseIdx_cons_succ, List.eraseIdx_cons_zero]; rfl)
  refine Call_of (hProp H ha (by
    have : (k + 1) * ((C.filter (fitB k)).length + 1) ≤ 31 * 61 := Nat.mul_le_mul (by omega) (by omega)
    omega) (by omega)) ?_
  clear H
  rintro _ w ⟨sa2, z2, rfl, b11, b12, o2, ha2, xa2, H⟩
  (repeat ((try conv => whnf); first | refine Join_dup ?_ | (refine Br_gate ?_; first | with_reducible refine Br_not ?_ | refine xB ?_ | refine xC ?_) | (refine Ld_gate ?_; refine xL ?_) | (refine LdN_gate ?_; refine xM ?_) | (refine St_gate ?_; refine xS ?_; clear H; intro w H) | (refine StN_gate ?_; refine xN ?_; clear H; intro w H) | (refine Kept_gate ?_; refine xK ?_) | (refine Ar_gate ?_; first | (fail_if_success skip) | refine xA ?_) | (refine Eqv_in ?_) | refine Do_ptr_eq_nil tok rfl ?_ | refine Do_ptr_ne_nil tok rfl ?_ | refine Do_nil_eq_nil tok rfl ?_ | refine Nn_in (by omega) ?_ | refine Nz_in (by omega) ?_))
  by_cases hz2 : 0 ≤ z2
  · (repeat ((try conv => whnf); first | refine Join_dup ?_ | (refine Br_gate ?_; first | with_reducible refine Br_not ?_ | refine xB ?_ | refine xC ?_) | (refine Ld_gate ?_; refine xL ?_) | (refine LdN_gate ?_; refine xM ?_) | (refine St_gate ?_; refine xS ?_; clear H; intro w H) | (refine StN_gate ?_; refine xN ?_; clear H; intro w H) | (refine Kept_gate ?_; refine xK ?_) | (refine Ar_gate ?_; first | (fail_if_success skip) | refine xA ?_) | (refine Eqv_in ?_) | refine Do_ptr_eq_nil tok rfl ?_ | refine Do_ptr_ne_nil tok rfl ?_ | refine Do_nil_eq_nil tok rfl ?_ | refine Nn_in (by omega) ?_ | refine Nz_in (by omega) ?_))
    exact Ret_in ⟨rfl, H.all⟩
  have hGsub : ∀ c, GamL ((C.take d0).filter (fitB k)) c → GamL (C.filter (fitB k)) c := fun c => gamL_mem fun x hx => by
    obtain ⟨h1, h2⟩ := List.mem_filter.1 hx
    exact List.mem_filter.2 ⟨List.mem_of_mem_take h1, h2⟩
  have hno2 : ¬ Conf (GamL (C.filter (fitB k))) Δa := o2.neg.1 (by omega)
  have hz1 : z1 < 0 := o1.neg.2 fun h => hno2 (h.mono hGsub fun x hx => .dec (hsub x hx))
  have hc1 := (o1.closed hz1).1
  have hc2 := (o2.closed (by omega)).1
  have hup : ∀ x, tru sf2.E x → tru sa2.E x := fun x h => (hc2 x).2 (((hc1 x).1 h).mono hGsub fun x hx => .dec (hsub x hx))
  (repeat ((try conv => whnf); first | refine Join_dup ?_ | (refine Br_gate ?_; first | with_reducible refine Br_not ?_ | refine xB ?_ | refine xC ?_) | (refine Ld_gate ?_; refine xL ?_) | (refine LdN_gate ?_; refine xM ?_) | (refine St_gate ?_; refine xS ?_; clear H; intro w H) | (refine StN_gate ?_; refine xN ?_; clear H; intro w H) | (refine Kept_gate ?_; refine xK ?_) | (refine Ar_gate ?_; first | (fail_if_success skip) | refine xA ?_) | (refine Eqv_in ?_) | refine Do_ptr_eq_nil tok rfl ?_ | refine Do_ptr_ne_nil tok rfl ?_ | refine Do_nil_eq_nil tok rfl ?_ | refine Nn_in (by omega) ?_ | refine Nz_in (by omega) ?_))
  refine Loop_intro (fun q : Nat => [(15, .int .i64 ((q + 1 : Nat) : Int))]) (fun q w => q ≤ k ∧ Sep W w [engR ea sa2, engR ef sf2, cellsR cb 44 [.int .i64 (d0 : Int), .int .i64 (d1 : Int)], cellsR fb 24 [.int .i64 (k : Int), .slice a C.length c]]) (fun q => k - q) 0 ⟨rfl, trivial⟩ ⟨Nat.zero_le _, H⟩ ?_
  clear H
  rintro q w ⟨hq, H⟩
  simp only [] at hq H ⊢
  (repeat ((try conv => whnf); first | refine Join_dup ?_ | (refine Br_gate ?_; first | with_reducible refine Br_not ?_ | refine xB ?_ | refine xC ?_) | (refine Ld_gate ?_; refine xL ?_) | (refine LdN_gate ?_; refine xM ?_) | (refine St_gate ?_; refine xS ?_; clear H; intro w H) | (refine StN_gate ?_; refine xN ?_; clear H; intro w H) | (refine Kept_gate ?_; refine xK ?_) | (refine Ar_gate ?_; first | (fail_if_success skip) | refine xA ?_) | (refine Eqv_in ?_) | refine Do_ptr_eq_nil tok rfl ?_ | refine Do_ptr_ne_nil tok rfl ?_ | refine Do_nil_eq_nil tok rfl ?_ | refine Nn_in (by omega) ?_ | refine Nz_in (by omega) ?_))
  by_cases hqk : q < k
  case neg =>
    (repeat ((try conv => whnf); first | refine Join_dup ?_ | (refine Br_gate ?_; first | with_reducible refine Br_not ?_ | refine xB ?_ | refine xC ?_) | (refine Ld_gate ?_; refine xL ?_) | (refine LdN_gate ?_; refine xM ?_) | (refine St_gate ?_; refine xS ?_; clear H; intro w H) | (refine StN_gate ?_; refine xN ?_; clear H; intro w H) | (refine Kept_gate ?_; refine xK ?_) | (refine Ar_gate ?_; first | (fail_if_success skip) | refine xA ?_) | (refine Eqv_in ?_) | refine Do_ptr_eq_nil tok rfl ?_ | refine Do_ptr_ne_nil tok rfl ?_ | refine Do_nil_eq_nil tok rfl ?_ | refine Nn_in (by omega) ?_ | refine Nz_in (by omega) ?_))
    exact Ret_in ⟨vbool (decide_eq_true hz1), H.all⟩
  have hvok : okLit ((q + 1 : Nat) : Int) = true := Trail.okLit_iff.2 ⟨by omega, by omega, by omega⟩
  obtain ⟨ra, hra, H⟩ := engOpen H
  replace H := H.top 8 rfl (by simp only [List.eraseIdx_cons_succ, List.eraseIdx_cons_zero]; rfl)
  obtain ⟨rf, hrf, H⟩ := engOpen H
  (repeat ((try conv => whnf); first | refine Join_dup ?_ | (refine Br_gate ?_; first | with_reducible refine Br_not ?_ | refine xB ?_ | refine xC ?_) | (refine Ld_gate ?_; refine xL ?_) | (refine LdN_gate ?_; refine xM ?_) | (refine St_gate ?_; refine xS ?_; clear H; intro w H) | (refine StN_gate ?_; refine xN ?_; clear H; intro w H) | (refine Kept_gate ?_; refine xK ?_) | (refine Ar_gate ?_; first | (fail_if_success skip) | refine xA ?_) | (refine Eqv_in ?_) | refine Do_ptr_eq_nil tok rfl ?_ | refine Do_ptr_ne_nil tok rfl ?_ | refine Do_nil_eq_nil tok rfl ?_ | refine Nn_in (by omega) ?_ | refine Nz_in (by omega) ?_))
  (try conv => whnf)
  refine Call_of (sTrailValue H (.tail _ (.head _))) ?_
  rintro _ _ ⟨rfl, rfl⟩
  (repeat ((try conv => whnf); first | refine Join_dup ?_ | (refine Br_gate ?_; first | with_reducible refine Br_not ?_ | refine xB ?_ | refine xC ?_) | (refine Ld_gate ?_; refine xL ?_) | (refine LdN_gate ?_; refine xM ?_) | (refine St_gate ?_; refine xS ?_; clear H; intro w H) | (refine StN_gate ?_; refine xN ?_; clear H; intro w H) | (refine Kept_gate ?_; refine xK ?_) | (refine Ar_gate ?_; first | (fail_if_success skip) | refine xA ?_) | (refine Eqv_in ?_) | refine Do_ptr_eq_nil tok rfl ?_ | refine Do_ptr_ne_nil tok rfl ?_ | refine Do_nil_eq_nil tok rfl ?_ | refine Nn_in (by omega) ?_ | refine Nz_in (by omega) ?_))
  have hdone : Sep W w [engR ea sa2, engR ef sf2, cellsR cb 44 [.int .i64 (d0 : Int), .int .i64 (d1 : Int)], cellsR fb 24 [.int .i64 (k : Int), .slice a C.length c]] := engClose hra (engSink (engClose hrf H))
  rcases val_cases sf2.E ((q + 1 : Nat) : Int) with hv | hv | hv
  · have hva := (ha2.good.val1 hvok).2 (hup _ ((hf2.good.val1 hvok).1 hv))
    rw [hv]
    (repeat ((try conv => whnf); first | refine Join_dup ?_ | (refine Br_gate ?_; first | with_reducible refine Br_not ?_ | refine xB ?_ | refine xC ?_) | (refine Ld_gate ?_; refine xL ?_) | (refine LdN_gate ?_; refine xM ?_) | (refine St_gate ?_; refine xS ?_; clear H; intro w H) | (refine StN_gate ?_; refine xN ?_; clear H; intro w H) | (refine Kept_gate ?_; refine xK ?_) | (refine Ar_gate ?_; first | (fail_if_success skip) | refine xA ?_) | (refine Eqv_in ?_) | refine Do_ptr_eq_nil tok rfl ?_ | refine Do_ptr_ne_nil tok rfl ?_ | refine Do_nil_eq_nil tok rfl ?_ | refine Nn_in (by omega) ?_ | refine Nz_in (by omega) ?_))
    refine Call_of (sTrailValue H (.tail _ (.tail _ (.tail _ (.tail _ (.tail _ (.tail _ (.tail _ (.tail _ (.tail _ (.head _))))))))))) ?_
    rintro _ _ ⟨rfl, rfl⟩
    rw [hva]
    (repeat ((try conv => whnf); first | refine Join_dup ?_ | (refine Br_gate ?_; first | with_reducible refine Br_not ?_ | refine xB ?_ | refine xC ?_) | (refine Ld_gate ?_; refine xL ?_) | (refine LdN_gate ?_; refine xM ?_) | (refine St_gate ?_; refine xS ?_; clear H; intro w H) | (refine StN_gate ?_; refine xN ?_; clear H; intro w H) | (refine Kept_gate ?_; refine xK ?_) | (refine Ar_gate ?_; first | (fail_if_success skip) | refine xA ?_) | (refine Eqv_in ?_) | refine Do_ptr_eq_nil tok rfl ?_ | refine Do_ptr_ne_nil tok rfl ?_ | refine Do_nil_eq_nil tok rfl ?_ | refine Nn_in (by omega) ?_ | refine Nz_in (by omega) ?_))
    exact ⟨q + 1, ⟨congrArg some (vint (by omega)), trivial⟩, ⟨by omega, hdone⟩, by omega⟩
  · rw [hv]
    (repeat ((try conv => whnf); first | refine Join_dup ?_ | (refine Br_gate ?_; first | with_reducible refine Br_not ?_ | refine xB ?_ | refine xC ?_) | (refine Ld_gate ?_; refine xL ?_) | (refine LdN_gate ?_; refine xM ?_) | (refine St_gate ?_; refine xS ?_; clear H; intro w H) | (refine StN_gate ?_; refine xN ?_; clear H; intro w H) | (refine Kept_gate ?_; refine xK ?_) | (refine Ar_gate ?_; first | (fail_if_success skip) | refine xA ?_) | (refine Eqv_in ?_) | refine Do_ptr_eq_nil tok rfl ?_ | refine Do_ptr_ne_nil tok rfl ?_ | refine Do_nil_eq_nil tok rfl ?_ | refine Nn_in (by omega) ?_ | refine Nz_in (by omega) ?_))
    exact ⟨q + 1, ⟨congrArg some (vint (by omega)), trivial⟩, ⟨by omega, hdone⟩, by omega⟩
  · have hva := (ha2.good.valn hvok).2 (hup _ ((hf2.good.valn hvok).1 hv))
    rw [hv]
    (repeat ((try conv => whnf); first | refine Join_dup ?_ | (refine Br_gate ?_; first | with_reducible refine Br_not ?_ | refine xB ?_ | refine xC ?_) | (refine Ld_gate ?_; refine xL ?_) | (refine LdN_gate ?_; refine xM ?_) | (refine St_gate ?_; refine xS ?_; clear H; intro w H) | (refine StN_gate ?_; refine xN ?_; clear H; intro w H) | (refine Kept_gate ?_; refine xK ?_) | (refine Ar_gate ?_; first | (fail_if_success skip) | refine xA ?_) | (refine Eqv_in ?_) | refine Do_ptr_eq_nil tok rfl ?_ | refine Do_ptr_ne_nil tok rfl ?_ | refine Do_nil_eq_nil tok rfl ?_ | refine Nn_in (by omega) ?_ | refine Nz_in (by omega) ?_))
    refine Call_of (sTrailValue H (.tail _ (.tail _ (.tail _ (.tail _ (.tail _ (.tail _ (.tail _ (.tail _ (.tail _ (.head _))))))))))) ?_
    rintro _ _ ⟨rfl, rfl⟩
    rw [hva]
    (repeat ((try conv => whnf); first | refine Join_dup ?_ | (refine Br_gate ?_; first | with_reducible refine Br_not ?_ | refine xB ?_ | refine xC ?_) | (refine Ld_gate ?_; refine xL ?_) | (refine LdN_gate ?_; refine xM ?_) | (refine St_gate ?_; refine xS ?_; clear H; intro w H) | (refine StN_gate ?_; refine xN ?_; clear H; intro w H) | (refine Kept_gate ?_; refine xK ?_) | (refine Ar_gate ?_; first | (fail_if_success skip) | refine xA ?_) | (refine Eqv_in ?_) | refine Do_ptr_eq_nil tok rfl ?_ | refine Do_ptr_ne_nil tok rfl ?_ | refine Do_nil_eq_nil tok rfl ?_ | refine Nn_in (by omega) ?_ | refine Nz_in (by omega) ?_))
    exact ⟨q + 1, ⟨congrArg some (vint (by omega)), trivial⟩, ⟨by omega, hdone⟩, by omega⟩
end
end Go.Proofs.Ytodabklhbagljaa
