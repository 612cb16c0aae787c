/- The laws' functions. -/
import Derived.Test.YtmkjajeanjidkaaLitL
set_option linter.unusedVariables false
set_option linter.unusedSimpArgs false
namespace Go.Lit
theorem var_one {x : Int} (h : one x = true) : var x = if x < 0 then -x else x := by unfold var; rw [h]; rfl
theorem place_half {x : Int} (h : one x = true) : (place x).tdiv 2 = var x ∧ (place (notL x)).tdiv 2 = var x ∧ place x ≠ place (notL x) ∧ one (notL x) = true ∧ notL (notL x) = x := by
  have h1 := one_iff.1 h
  have h2 : notL x = -x := by unfold notL; rw [h]; rfl
  have h3 : one (-x) = true := by rw [one_neg]; exact h
  rw [h2]
  have h4 : notL (-x) = x := by unfold notL; rw [h3]; simp
  rw [h4, place_one h, place_one h3, var_one h]
  refine ⟨?_, ?_, ?_, h3, rfl⟩
  · split <;> rw [Int.tdiv_eq_ediv_of_nonneg (by omega)] <;> omega
  · split <;> split <;> (try omega) <;> rw [Int.tdiv_eq_ediv_of_nonneg (by omega)] <;> omega
  · split <;> split <;> omega
theorem tell_at {p : Int} : (2 ≤ p ∧ p ≤ 524289 ∧ (at_ p != 0) = true ∧ at_ p ≠ 0 ∧ place (at_ p) = p) ∨ (p < 2 ∧ (at_ p != 0) = false ∧ at_ p = 0) ∨ (524289 < p ∧ (at_ p != 0) = false ∧ at_ p = 0) := by
  by_cases hf : 2 ≤ p ∧ p ≤ 524289
  · obtain ⟨r1, r2⟩ := at_fit hf
    exact .inl ⟨hf.1, hf.2, Vc.bneT r1, r1, r2⟩
  · have := at_zero hf
    rw [this]
    by_cases h2 : p < 2
    · exact .inr (.inl ⟨h2, rfl, rfl⟩)
    · exact .inr (.inr ⟨by omega, rfl, rfl⟩)
end Go.Lit
namespace Go.Proofs.Ytmkjajeanjidkaa
open Go Go.Vc Go.Lit
set_option maxHeartbeats 4000000
set_option maxRecDepth 100000

theorem Do_beq {P : Program} {T : Tab} (hT : TabOk P T) {t : TypeId} {xo yo : Operand} {a b c : Bool} {w : World} {K : Value → World → Prop} (hd : T.d t = some .bool) (hc : (a == b) = c) (hk : K (.bool c) w) :
    Do P (do eqGuard .eql t xo yo (.bool a) (.bool b); binOp .eql t (.bool a) (.bool b)) w K := Do_bool_eq hT hd (by rw [hc]; exact hk)

section
variable {w0 w : World} {l : List Res}

theorem uCleans {W : World} {xs : List Int} {a : Option Addr} {c : Nat} (hs : Src W a xs.length 1 (xs.map lV)) (hm : xs.length ≤ 9223372036854775807) : Does Try.prog 3 #[.slice a xs.length c] W fun v w' => v = .bool true ∧ Sep W w' [] := by
  have H := Sep.nil W
  refine Does_intro tok (Try.call3 _ _) Try.func3 rfl (by rfl) ?_
  (repeat ((try conv => whnf); first | refine Join_dup ?_ | (refine Br_gate ?_; first | with_reducible refine Br_not ?_ | refine xB ?_ | refine xC ?_) | (refine Ld_gate ?_; refine xL ?_) | (refine LdN_gate ?_; refine xM ?_) | (refine St_gate ?_; refine xS ?_; clear H; intro w H) | (refine StN_gate ?_; refine xN ?_; clear H; intro w H) | (refine Kept_gate ?_; refine xK ?_) | (refine Ar_gate ?_; first | (fail_if_success skip) | refine xA ?_) | (refine Eqv_in ?_) | refine Do_ptr_eq_nil tok rfl ?_ | refine Do_ptr_ne_nil tok rfl ?_ | refine Do_nil_eq_nil tok rfl ?_ | refine Nn_in (by omega) ?_ | refine Nz_in (by omega) ?_))
  refine Call_of (uAlive H) ?_
  clear H
  rintro _ w ⟨rfl, H⟩
  by_cases hl : 60 < xs.length
  · (repeat ((try conv => whnf); first | refine Join_dup ?_ | (refine Br_gate ?_; first | with_reducible refine Br_not ?_ | refine xB ?_ | refine xC ?_) | (refine Ld_gate ?_; refine xL ?_) | (refine LdN_gate ?_; refine xM ?_) | (refine St_gate ?_; refine xS ?_; clear H; intro w H) | (refine StN_gate ?_; refine xN ?_; clear H; intro w H) | (refine Kept_gate ?_; refine xK ?_) | (refine Ar_gate ?_; first | (fail_if_success skip) | refine xA ?_) | (refine Eqv_in ?_) | refine Do_ptr_eq_nil tok rfl ?_ | refine Do_ptr_ne_nil tok rfl ?_ | refine Do_nil_eq_nil tok rfl ?_ | refine Nn_in (by omega) ?_ | refine Nz_in (by omega) ?_))
    exact Ret_in ⟨rfl, H⟩
  (repeat ((try conv => whnf); first | refine Join_dup ?_ | (refine Br_gate ?_; first | with_reducible refine Br_not ?_ | refine xB ?_ | refine xC ?_) | (refine Ld_gate ?_; refine xL ?_) | (refine LdN_gate ?_; refine xM ?_) | (refine St_gate ?_; refine xS ?_; clear H; intro w H) | (refine StN_gate ?_; refine xN ?_; clear H; intro w H) | (refine Kept_gate ?_; refine xK ?_) | (refine Ar_gate ?_; first | (fail_if_success skip) | refine xA ?_) | (refine Eqv_in ?_) | refine Do_ptr_eq_nil tok rfl ?_ | refine Do_ptr_ne_nil tok rfl ?_ | refine Do_nil_eq_nil tok rfl ?_ | refine Nn_in (by omega) ?_ | refine Nz_in (by omega) ?_))
  (refine Nw_sep H ?_; clear H; intro eb w H; (try simp only [Value.cells, List.toList_toArray, List.append_nil, List.cons_append, List.nil_append] at H))
  (repeat ((try conv => whnf); first | refine Join_dup ?_ | (refine Br_gate ?_; first | with_reducible refine Br_not ?_ | refine xB ?_ | refine xC ?_) | (refine Ld_gate ?_; refine xL ?_) | (refine LdN_gate ?_; refine xM ?_) | (refine St_gate ?_; refine xS ?_; clear H; intro w H) | (refine StN_gate ?_; refine xN ?_; clear H; intro w H) | (refine Kept_gate ?_; refine xK ?_) | (refine Ar_gate ?_; first | (fail_if_success skip) | refine xA ?_) | (refine Eqv_in ?_) | refine Do_ptr_eq_nil tok rfl ?_ | refine Do_ptr_ne_nil tok rfl ?_ | refine Do_nil_eq_nil tok rfl ?_ | refine Nn_in (by omega) ?_ | refine Nz_in (by omega) ?_))
  refine DoN_gate ?_
  refine append_new tok H rfl rfl rfl rfl rfl (by decide) (.head _) (H.rd hs) lits_one (by omega) (by unfold maxLen; omega) ?_
  clear H
  intro a1 c1 w H
  replace H := H _ .head
  (repeat ((try conv => whnf); first | refine Join_dup ?_ | (refine Br_gate ?_; first | with_reducible refine Br_not ?_ | refine xB ?_ | refine xC ?_) | (refine Ld_gate ?_; refine xL ?_) | (refine LdN_gate ?_; refine xM ?_) | (refine St_gate ?_; refine xS ?_; clear H; intro w H) | (refine StN_gate ?_; refine xN ?_; clear H; intro w H) | (refine Kept_gate ?_; refine xK ?_) | (refine Ar_gate ?_; first | (fail_if_success skip) | refine xA ?_) | (refine Eqv_in ?_) | refine Do_ptr_eq_nil tok rfl ?_ | refine Do_ptr_ne_nil tok rfl ?_ | refine Do_nil_eq_nil tok rfl ?_ | refine Nn_in (by omega) ?_ | refine Nz_in (by omega) ?_))
  refine Call_of (fCleanA H (H.srcM (.head _)) (by omega)) ?_
  clear H
  rintro _ w ⟨a2, c2, o2, rfl, hcl2, hol2, H⟩
  (repeat ((try conv => whnf); first | refine Join_dup ?_ | (refine Br_gate ?_; first | with_reducible refine Br_not ?_ | refine xB ?_ | refine xC ?_) | (refine Ld_gate ?_; refine xL ?_) | (refine LdN_gate ?_; refine xM ?_) | (refine St_gate ?_; refine xS ?_; clear H; intro w H) | (refine StN_gate ?_; refine xN ?_; clear H; intro w H) | (refine Kept_gate ?_; refine xK ?_) | (refine Ar_gate ?_; first | (fail_if_success skip) | refine xA ?_) | (refine Eqv_in ?_) | refine Do_ptr_eq_nil tok rfl ?_ | refine Do_ptr_ne_nil tok rfl ?_ | refine Do_nil_eq_nil tok rfl ?_ | refine Nn_in (by omega) ?_ | refine Nz_in (by omega) ?_))
  refine Call_of (rCleanA H (fun h => (Sep.rd h hs)) (by omega)) ?_
  clear H
  rintro _ w ⟨a3, c3, o3, rfl, hcl3, hol3, H⟩
  obtain rfl : o2 = o3 := CleanOf.same hcl2 hcl3 fun x => Iff.rfl
  (repeat ((try conv => whnf); first | refine Join_dup ?_ | (refine Br_gate ?_; first | with_reducible refine Br_not ?_ | refine xB ?_ | refine xC ?_) | (refine Ld_gate ?_; refine xL ?_) | (refine LdN_gate ?_; refine xM ?_) | (refine St_gate ?_; refine xS ?_; clear H; intro w H) | (refine StN_gate ?_; refine xN ?_; clear H; intro w H) | (refine Kept_gate ?_; refine xK ?_) | (refine Ar_gate ?_; first | (fail_if_success skip) | refine xA ?_) | (refine Eqv_in ?_) | refine Do_ptr_eq_nil tok rfl ?_ | refine Do_ptr_ne_nil tok rfl ?_ | refine Do_nil_eq_nil tok rfl ?_ | refine Nn_in (by omega) ?_ | refine Nz_in (by omega) ?_))
  refine Call_of (rSameH H (H.srcM (by repeat first | exact List.Mem.head _ | refine List.Mem.tail _ ?_)) (H.srcM (by repeat first | exact List.Mem.head _ | refine List.Mem.tail _ ?_)) (by omega)) ?_
  clear H
  rintro _ w ⟨rfl, H⟩
  rw [decide_eq_true rfl]
  (repeat ((try conv => whnf); first | refine Join_dup ?_ | (refine Br_gate ?_; first | with_reducible refine Br_not ?_ | refine xB ?_ | refine xC ?_) | (refine Ld_gate ?_; refine xL ?_) | (refine LdN_gate ?_; refine xM ?_) | (refine St_gate ?_; refine xS ?_; clear H; intro w H) | (refine StN_gate ?_; refine xN ?_; clear H; intro w H) | (refine Kept_gate ?_; refine xK ?_) | (refine Ar_gate ?_; first | (fail_if_success skip) | refine xA ?_) | (refine Eqv_in ?_) | refine Do_ptr_eq_nil tok rfl ?_ | refine Do_ptr_ne_nil tok rfl ?_ | refine Do_nil_eq_nil tok rfl ?_ | refine Nn_in (by omega) ?_ | refine Nz_in (by omega) ?_))
  refine Do_bool_eq tok rfl ?_
  rw [beq_self_eq_true]
  (repeat ((try conv => whnf); first | refine Join_dup ?_ | (refine Br_gate ?_; first | with_reducible refine Br_not ?_ | refine xB ?_ | refine xC ?_) | (refine Ld_gate ?_; refine xL ?_) | (refine LdN_gate ?_; refine xM ?_) | (refine St_gate ?_; refine xS ?_; clear H; intro w H) | (refine StN_gate ?_; refine xN ?_; clear H; intro w H) | (refine Kept_gate ?_; refine xK ?_) | (refine Ar_gate ?_; first | (fail_if_success skip) | refine xA ?_) | (refine Eqv_in ?_) | refine Do_ptr_eq_nil tok rfl ?_ | refine Do_ptr_ne_nil tok rfl ?_ | refine Do_nil_eq_nil tok rfl ?_ | refine Nn_in (by omega) ?_ | refine Nz_in (by omega) ?_))
  refine Call_of (rSameH H (H.srcM (by repeat first | exact List.Mem.head _ | refine List.Mem.tail _ ?_)) (H.rd hs) (by omega)) ?_
  clear H
  rintro _ w ⟨rfl, H⟩
  rw [decide_eq_true rfl]
  (repeat ((try conv => whnf); first | refine Join_dup ?_ | (refine Br_gate ?_; first | with_reducible refine Br_not ?_ | refine xB ?_ | refine xC ?_) | (refine Ld_gate ?_; refine xL ?_) | (refine LdN_gate ?_; refine xM ?_) | (refine St_gate ?_; refine xS ?_; clear H; intro w H) | (refine StN_gate ?_; refine xN ?_; clear H; intro w H) | (refine Kept_gate ?_; refine xK ?_) | (refine Ar_gate ?_; first | (fail_if_success skip) | refine xA ?_) | (refine Eqv_in ?_) | refine Do_ptr_eq_nil tok rfl ?_ | refine Do_ptr_ne_nil tok rfl ?_ | refine Do_nil_eq_nil tok rfl ?_ | refine Nn_in (by omega) ?_ | refine Nz_in (by omega) ?_))
  refine Call_of (fRight (H.rd hs) (by unfold maxLen; omega)) ?_
  rintro _ _ ⟨rfl, rfl⟩
  (repeat ((try conv => whnf); first | refine Join_dup ?_ | (refine Br_gate ?_; first | with_reducible refine Br_not ?_ | refine xB ?_ | refine xC ?_) | (refine Ld_gate ?_; refine xL ?_) | (refine LdN_gate ?_; refine xM ?_) | (refine St_gate ?_; refine xS ?_; clear H; intro w H) | (refine StN_gate ?_; refine xN ?_; clear H; intro w H) | (refine Kept_gate ?_; refine xK ?_) | (refine Ar_gate ?_; first | (fail_if_success skip) | refine xA ?_) | (refine Eqv_in ?_) | refine Do_ptr_eq_nil tok rfl ?_ | refine Do_ptr_ne_nil tok rfl ?_ | refine Do_nil_eq_nil tok rfl ?_ | refine Nn_in (by omega) ?_ | refine Nz_in (by omega) ?_))
  refine Call_of (rRight (H.rd hs) (by omega)) ?_
  rintro _ _ ⟨rfl, rfl⟩
  (repeat ((try conv => whnf); first | refine Join_dup ?_ | (refine Br_gate ?_; first | with_reducible refine Br_not ?_ | refine xB ?_ | refine xC ?_) | (refine Ld_gate ?_; refine xL ?_) | (refine LdN_gate ?_; refine xM ?_) | (refine St_gate ?_; refine xS ?_; clear H; intro w H) | (refine StN_gate ?_; refine xN ?_; clear H; intro w H) | (refine Kept_gate ?_; refine xK ?_) | (refine Ar_gate ?_; first | (fail_if_success skip) | refine xA ?_) | (refine Eqv_in ?_) | refine Do_ptr_eq_nil tok rfl ?_ | refine Do_ptr_ne_nil tok rfl ?_ | refine Do_nil_eq_nil tok rfl ?_ | refine Nn_in (by omega) ?_ | refine Nz_in (by omega) ?_))
  refine Do_bool_eq tok rfl ?_
  (repeat ((try conv => whnf); first | refine Join_dup ?_ | (refine Br_gate ?_; first | with_reducible refine Br_not ?_ | refine xB ?_ | refine xC ?_) | (refine Ld_gate ?_; refine xL ?_) | (refine LdN_gate ?_; refine xM ?_) | (refine St_gate ?_; refine xS ?_; clear H; intro w H) | (refine StN_gate ?_; refine xN ?_; clear H; intro w H) | (refine Kept_gate ?_; refine xK ?_) | (refine Ar_gate ?_; first | (fail_if_success skip) | refine xA ?_) | (refine Eqv_in ?_) | refine Do_ptr_eq_nil tok rfl ?_ | refine Do_ptr_ne_nil tok rfl ?_ | refine Do_nil_eq_nil tok rfl ?_ | refine Nn_in (by omega) ?_ | refine Nz_in (by omega) ?_))
  exact Ret_in ⟨vbool (beq_self_eq_true _), H.all⟩

theorem uPlaces {W : World} {x y : Int} : Does Try.prog 8 #[lV x, lV y] W fun v w' => v = .bool true ∧ Sep W w' [] := by
  have H := Sep.nil W
  refine Does_intro tok (Try.call8 _ _) Try.func8 rfl (by rfl) ?_
  (repeat ((try conv => whnf); first | refine Join_dup ?_ | (refine Br_gate ?_; first | with_reducible refine Br_not ?_ | refine xB ?_ | refine xC ?_) | (refine Ld_gate ?_; refine xL ?_) | (refine LdN_gate ?_; refine xM ?_) | (refine St_gate ?_; refine xS ?_; clear H; intro w H) | (refine StN_gate ?_; refine xN ?_; clear H; intro w H) | (refine Kept_gate ?_; refine xK ?_) | (refine Ar_gate ?_; first | (fail_if_success skip) | refine xA ?_) | (refine Eqv_in ?_) | refine Do_ptr_eq_nil tok rfl ?_ | refine Do_ptr_ne_nil tok rfl ?_ | refine Do_nil_eq_nil tok rfl ?_ | refine Nn_in (by omega) ?_ | refine Nz_in (by omega) ?_))
  refine Call_of (uAlive H) ?_
  clear H
  rintro _ w ⟨rfl, H⟩
  (repeat ((try conv => whnf); first | refine Join_dup ?_ | (refine Br_gate ?_; first | with_reducible refine Br_not ?_ | refine xB ?_ | refine xC ?_) | (refine Ld_gate ?_; refine xL ?_) | (refine LdN_gate ?_; refine xM ?_) | (refine St_gate ?_; refine xS ?_; clear H; intro w H) | (refine StN_gate ?_; refine xN ?_; clear H; intro w H) | (refine Kept_gate ?_; refine xK ?_) | (refine Ar_gate ?_; first | (fail_if_success skip) | refine xA ?_) | (refine Eqv_in ?_) | refine Do_ptr_eq_nil tok rfl ?_ | refine Do_ptr_ne_nil tok rfl ?_ | refine Do_nil_eq_nil tok rfl ?_ | refine Nn_in (by omega) ?_ | refine Nz_in (by omega) ?_))
  (refine Nw_sep H ?_; clear H; intro b1 w H; (try simp only [Value.cells, List.toList_toArray, List.append_nil, List.cons_append, List.nil_append] at H))
  (repeat ((try conv => whnf); first | refine Join_dup ?_ | (refine Br_gate ?_; first | with_reducible refine Br_not ?_ | refine xB ?_ | refine xC ?_) | (refine Ld_gate ?_; refine xL ?_) | (refine LdN_gate ?_; refine xM ?_) | (refine St_gate ?_; refine xS ?_; clear H; intro w H) | (refine StN_gate ?_; refine xN ?_; clear H; intro w H) | (refine Kept_gate ?_; refine xK ?_) | (refine Ar_gate ?_; first | (fail_if_success skip) | refine xA ?_) | (refine Eqv_in ?_) | refine Do_ptr_eq_nil tok rfl ?_ | refine Do_ptr_ne_nil tok rfl ?_ | refine Do_nil_eq_nil tok rfl ?_ | refine Nn_in (by omega) ?_ | refine Nz_in (by omega) ?_))
  refine Call_of (fRight (xs := [x, y]) (H.srcCM 2 1 (.head _) rfl (by decide)) (by show 2 ≤ maxLen; decide)) ?_
  rintro _ _ ⟨rfl, rfl⟩
  cases hr : [x, y].all Lit.one with
  | false =>
    (repeat ((try conv => whnf); first | refine Join_dup ?_ | (refine Br_gate ?_; first | with_reducible refine Br_not ?_ | refine xB ?_ | refine xC ?_) | (refine Ld_gate ?_; refine xL ?_) | (refine LdN_gate ?_; refine xM ?_) | (refine St_gate ?_; refine xS ?_; clear H; intro w H) | (refine StN_gate ?_; refine xN ?_; clear H; intro w H) | (refine Kept_gate ?_; refine xK ?_) | (refine Ar_gate ?_; first | (fail_if_success skip) | refine xA ?_) | (refine Eqv_in ?_) | refine Do_ptr_eq_nil tok rfl ?_ | refine Do_ptr_ne_nil tok rfl ?_ | refine Do_nil_eq_nil tok rfl ?_ | refine Nn_in (by omega) ?_ | refine Nz_in (by omega) ?_))
    exact Ret_in ⟨rfl, H.all⟩
  | true =>
  have hx : Lit.one x = true := List.all_eq_true.1 hr x (by simp)
  have hy : Lit.one y = true := List.all_eq_true.1 hr y (by simp)
  obtain ⟨p1, p2, p3, p4, p5⟩ := place_half hx
  have q1 : (x == y) = (place x == place y) := by
    rw [Bool.eq_iff_iff, beq_iff_eq, beq_iff_eq]
    exact ⟨fun h => by rw [h], place_inj hx hy⟩
  have q2 : Go.Lit.at_ (place x) = x := at_place hx
  have q3 := one_iff.1 hx
  have q4 := place_one hx
  have q6 : 0 ≤ place x ∧ place x ≤ 600000 := by rw [q4]; split <;> omega
  (repeat ((try conv => whnf); first | refine Join_dup ?_ | (refine Br_gate ?_; first | with_reducible refine Br_not ?_ | refine xB ?_ | refine xC ?_) | (refine Ld_gate ?_; refine xL ?_) | (refine LdN_gate ?_; refine xM ?_) | (refine St_gate ?_; refine xS ?_; clear H; intro w H) | (refine StN_gate ?_; refine xN ?_; clear H; intro w H) | (refine Kept_gate ?_; refine xK ?_) | (refine Ar_gate ?_; first | (fail_if_success skip) | refine xA ?_) | (refine Eqv_in ?_) | refine Do_ptr_eq_nil tok rfl ?_ | refine Do_ptr_ne_nil tok rfl ?_ | refine Do_nil_eq_nil tok rfl ?_ | refine Nn_in (by omega) ?_ | refine Nz_in (by omega) ?_))
  refine Call_of (fPlace w) ?_
  rintro _ _ ⟨rfl, rfl⟩
  (repeat ((try conv => whnf); first | refine Join_dup ?_ | (refine Br_gate ?_; first | with_reducible refine Br_not ?_ | refine xB ?_ | refine xC ?_) | (refine Ld_gate ?_; refine xL ?_) | (refine LdN_gate ?_; refine xM ?_) | (refine St_gate ?_; refine xS ?_; clear H; intro w H) | (refine StN_gate ?_; refine xN ?_; clear H; intro w H) | (refine Kept_gate ?_; refine xK ?_) | (refine Ar_gate ?_; first | (fail_if_success skip) | refine xA ?_) | (refine Eqv_in ?_) | refine Do_ptr_eq_nil tok rfl ?_ | refine Do_ptr_ne_nil tok rfl ?_ | refine Do_nil_eq_nil tok rfl ?_ | refine Nn_in (by omega) ?_ | refine Nz_in (by omega) ?_))
  refine Call_of (fNot w) ?_
  rintro _ _ ⟨rfl, rfl⟩
  (repeat ((try conv => whnf); first | refine Join_dup ?_ | (refine Br_gate ?_; first | with_reducible refine Br_not ?_ | refine xB ?_ | refine xC ?_) | (refine Ld_gate ?_; refine xL ?_) | (refine LdN_gate ?_; refine xM ?_) | (refine St_gate ?_; refine xS ?_; clear H; intro w H) | (refine StN_gate ?_; refine xN ?_; clear H; intro w H) | (refine Kept_gate ?_; refine xK ?_) | (refine Ar_gate ?_; first | (fail_if_success skip) | refine xA ?_) | (refine Eqv_in ?_) | refine Do_ptr_eq_nil tok rfl ?_ | refine Do_ptr_ne_nil tok rfl ?_ | refine Do_nil_eq_nil tok rfl ?_ | refine Nn_in (by omega) ?_ | refine Nz_in (by omega) ?_))
  refine Call_of (fPlace w) ?_
  rintro _ _ ⟨rfl, rfl⟩
  (repeat ((try conv => whnf); first | refine Join_dup ?_ | (refine Br_gate ?_; first | with_reducible refine Br_not ?_ | refine xB ?_ | refine xC ?_) | (refine Ld_gate ?_; refine xL ?_) | (refine LdN_gate ?_; refine xM ?_) | (refine St_gate ?_; refine xS ?_; clear H; intro w H) | (refine StN_gate ?_; refine xN ?_; clear H; intro w H) | (refine Kept_gate ?_; refine xK ?_) | (refine Ar_gate ?_; first | (fail_if_success skip) | refine xA ?_) | (refine Eqv_in ?_) | refine Do_ptr_eq_nil tok rfl ?_ | refine Do_ptr_ne_nil tok rfl ?_ | refine Do_nil_eq_nil tok rfl ?_ | refine Nn_in (by omega) ?_ | refine Nz_in (by omega) ?_))
  refine Call_of (fPlace w) ?_
  rintro _ _ ⟨rfl, rfl⟩
  (repeat ((try conv => whnf); first | refine Join_dup ?_ | (refine Br_gate ?_; first | with_reducible refine Br_not ?_ | refine xB ?_ | refine xC ?_) | (refine Ld_gate ?_; refine xL ?_) | (refine LdN_gate ?_; refine xM ?_) | (refine St_gate ?_; refine xS ?_; clear H; intro w H) | (refine StN_gate ?_; refine xN ?_; clear H; intro w H) | (refine Kept_gate ?_; refine xK ?_) | (refine Ar_gate ?_; first | (fail_if_success skip) | refine xA ?_) | (refine Eqv_in ?_) | refine Do_ptr_eq_nil tok rfl ?_ | refine Do_ptr_ne_nil tok rfl ?_ | refine Do_nil_eq_nil tok rfl ?_ | refine Nn_in (by omega) ?_ | refine Nz_in (by omega) ?_))
  refine Do_bool_eq tok rfl ?_
  rw [q1, beq_self_eq_true]
  have q7 := var_one hx
  have q8 : 0 ≤ var x ∧ var x ≤ 300000 := by rw [q7]; split <;> omega
  (repeat ((try conv => whnf); first | refine Join_dup ?_ | (refine Br_gate ?_; first | with_reducible refine Br_not ?_ | refine xB ?_ | refine xC ?_) | (refine Ld_gate ?_; refine xL ?_) | (refine LdN_gate ?_; refine xM ?_) | (refine St_gate ?_; refine xS ?_; clear H; intro w H) | (refine StN_gate ?_; refine xN ?_; clear H; intro w H) | (refine Kept_gate ?_; refine xK ?_) | (refine Ar_gate ?_; first | (fail_if_success skip) | refine xA ?_) | (refine Eqv_in ?_) | refine Do_ptr_eq_nil tok rfl ?_ | refine Do_ptr_ne_nil tok rfl ?_ | refine Do_nil_eq_nil tok rfl ?_ | refine Nn_in (by omega) ?_ | refine Nz_in (by omega) ?_))
  rw [p1]
  (repeat ((try conv => whnf); first | refine Join_dup ?_ | (refine Br_gate ?_; first | with_reducible refine Br_not ?_ | refine xB ?_ | refine xC ?_) | (refine Ld_gate ?_; refine xL ?_) | (refine LdN_gate ?_; refine xM ?_) | (refine St_gate ?_; refine xS ?_; clear H; intro w H) | (refine StN_gate ?_; refine xN ?_; clear H; intro w H) | (refine Kept_gate ?_; refine xK ?_) | (refine Ar_gate ?_; first | (fail_if_success skip) | refine xA ?_) | (refine Eqv_in ?_) | refine Do_ptr_eq_nil tok rfl ?_ | refine Do_ptr_ne_nil tok rfl ?_ | refine Do_nil_eq_nil tok rfl ?_ | refine Nn_in (by omega) ?_ | refine Nz_in (by omega) ?_))
  rw [p2]
  (repeat ((try conv => whnf); first | refine Join_dup ?_ | (refine Br_gate ?_; first | with_reducible refine Br_not ?_ | refine xB ?_ | refine xC ?_) | (refine Ld_gate ?_; refine xL ?_) | (refine LdN_gate ?_; refine xM ?_) | (refine St_gate ?_; refine xS ?_; clear H; intro w H) | (refine StN_gate ?_; refine xN ?_; clear H; intro w H) | (refine Kept_gate ?_; refine xK ?_) | (refine Ar_gate ?_; first | (fail_if_success skip) | refine xA ?_) | (refine Eqv_in ?_) | refine Do_ptr_eq_nil tok rfl ?_ | refine Do_ptr_ne_nil tok rfl ?_ | refine Do_nil_eq_nil tok rfl ?_ | refine Nn_in (by omega) ?_ | refine Nz_in (by omega) ?_))
  refine Call_of (fAt (by omega) (by omega) w) ?_
  rintro _ _ ⟨rfl, rfl⟩
  rw [q2]
  (repeat ((try conv => whnf); first | refine Join_dup ?_ | (refine Br_gate ?_; first | with_reducible refine Br_not ?_ | refine xB ?_ | refine xC ?_) | (refine Ld_gate ?_; refine xL ?_) | (refine LdN_gate ?_; refine xM ?_) | (refine St_gate ?_; refine xS ?_; clear H; intro w H) | (refine StN_gate ?_; refine xN ?_; clear H; intro w H) | (refine Kept_gate ?_; refine xK ?_) | (refine Ar_gate ?_; first | (fail_if_success skip) | refine xA ?_) | (refine Eqv_in ?_) | refine Do_ptr_eq_nil tok rfl ?_ | refine Do_ptr_ne_nil tok rfl ?_ | refine Do_nil_eq_nil tok rfl ?_ | refine Nn_in (by omega) ?_ | refine Nz_in (by omega) ?_))
  refine Call_of (fNot w) ?_
  rintro _ _ ⟨rfl, rfl⟩
  (repeat ((try conv => whnf); first | refine Join_dup ?_ | (refine Br_gate ?_; first | with_reducible refine Br_not ?_ | refine xB ?_ | refine xC ?_) | (refine Ld_gate ?_; refine xL ?_) | (refine LdN_gate ?_; refine xM ?_) | (refine St_gate ?_; refine xS ?_; clear H; intro w H) | (refine StN_gate ?_; refine xN ?_; clear H; intro w H) | (refine Kept_gate ?_; refine xK ?_) | (refine Ar_gate ?_; first | (fail_if_success skip) | refine xA ?_) | (refine Eqv_in ?_) | refine Do_ptr_eq_nil tok rfl ?_ | refine Do_ptr_ne_nil tok rfl ?_ | refine Do_nil_eq_nil tok rfl ?_ | refine Nn_in (by omega) ?_ | refine Nz_in (by omega) ?_))
  refine Call_of (fNot w) ?_
  rintro _ _ ⟨rfl, rfl⟩
  rw [p5]
  (repeat ((try conv => whnf); first | refine Join_dup ?_ | (refine Br_gate ?_; first | with_reducible refine Br_not ?_ | refine xB ?_ | refine xC ?_) | (refine Ld_gate ?_; refine xL ?_) | (refine LdN_gate ?_; refine xM ?_) | (refine St_gate ?_; refine xS ?_; clear H; intro w H) | (refine StN_gate ?_; refine xN ?_; clear H; intro w H) | (refine Kept_gate ?_; refine xK ?_) | (refine Ar_gate ?_; first | (fail_if_success skip) | refine xA ?_) | (refine Eqv_in ?_) | refine Do_ptr_eq_nil tok rfl ?_ | refine Do_ptr_ne_nil tok rfl ?_ | refine Do_nil_eq_nil tok rfl ?_ | refine Nn_in (by omega) ?_ | refine Nz_in (by omega) ?_))
  refine Call_of (fVar w) ?_
  rintro _ _ ⟨rfl, rfl⟩
  (repeat ((try conv => whnf); first | refine Join_dup ?_ | (refine Br_gate ?_; first | with_reducible refine Br_not ?_ | refine xB ?_ | refine xC ?_) | (refine Ld_gate ?_; refine xL ?_) | (refine LdN_gate ?_; refine xM ?_) | (refine St_gate ?_; refine xS ?_; clear H; intro w H) | (refine StN_gate ?_; refine xN ?_; clear H; intro w H) | (refine Kept_gate ?_; refine xK ?_) | (refine Ar_gate ?_; first | (fail_if_success skip) | refine xA ?_) | (refine Eqv_in ?_) | refine Do_ptr_eq_nil tok rfl ?_ | refine Do_ptr_ne_nil tok rfl ?_ | refine Do_nil_eq_nil tok rfl ?_ | refine Nn_in (by omega) ?_ | refine Nz_in (by omega) ?_))
  rw [p1]
  (repeat ((try conv => whnf); first | refine Join_dup ?_ | (refine Br_gate ?_; first | with_reducible refine Br_not ?_ | refine xB ?_ | refine xC ?_) | (refine Ld_gate ?_; refine xL ?_) | (refine LdN_gate ?_; refine xM ?_) | (refine St_gate ?_; refine xS ?_; clear H; intro w H) | (refine StN_gate ?_; refine xN ?_; clear H; intro w H) | (refine Kept_gate ?_; refine xK ?_) | (refine Ar_gate ?_; first | (fail_if_success skip) | refine xA ?_) | (refine Eqv_in ?_) | refine Do_ptr_eq_nil tok rfl ?_ | refine Do_ptr_ne_nil tok rfl ?_ | refine Do_nil_eq_nil tok rfl ?_ | refine Nn_in (by omega) ?_ | refine Nz_in (by omega) ?_))
  exact Ret_in ⟨vbool (beq_self_eq_true _), H.all⟩

theorem uTells {W : World} {x p : Int} (hp1 : -9223372036854775808 ≤ p) (hp2 : p ≤ 9223372036854775807) : Does Try.prog 7 #[lV x, .int .i64 p] W fun v w' => v = .bool true ∧ Sep W w' [] := by
  have H := Sep.nil W
  refine Does_intro tok (Try.call7 _ _) Try.func7 rfl (by rfl) ?_
  (repeat ((try conv => whnf); first | refine Join_dup ?_ | (refine Br_gate ?_; first | with_reducible refine Br_not ?_ | refine xB ?_ | refine xC ?_) | (refine Ld_gate ?_; refine xL ?_) | (refine LdN_gate ?_; refine xM ?_) | (refine St_gate ?_; refine xS ?_; clear H; intro w H) | (refine StN_gate ?_; refine xN ?_; clear H; intro w H) | (refine Kept_gate ?_; refine xK ?_) | (refine Ar_gate ?_; first | (fail_if_success skip) | refine xA ?_) | (refine Eqv_in ?_) | refine Do_ptr_eq_nil tok rfl ?_ | refine Do_ptr_ne_nil tok rfl ?_ | refine Do_nil_eq_nil tok rfl ?_ | refine Nn_in (by omega) ?_ | refine Nz_in (by omega) ?_))
  refine Call_of (uAlive H) ?_
  clear H
  rintro _ w ⟨rfl, H⟩
  (repeat ((try conv => whnf); first | refine Join_dup ?_ | (refine Br_gate ?_; first | with_reducible refine Br_not ?_ | refine xB ?_ | refine xC ?_) | (refine Ld_gate ?_; refine xL ?_) | (refine LdN_gate ?_; refine xM ?_) | (refine St_gate ?_; refine xS ?_; clear H; intro w H) | (refine StN_gate ?_; refine xN ?_; clear H; intro w H) | (refine Kept_gate ?_; refine xK ?_) | (refine Ar_gate ?_; first | (fail_if_success skip) | refine xA ?_) | (refine Eqv_in ?_) | refine Do_ptr_eq_nil tok rfl ?_ | refine Do_ptr_ne_nil tok rfl ?_ | refine Do_nil_eq_nil tok rfl ?_ | refine Nn_in (by omega) ?_ | refine Nz_in (by omega) ?_))
  refine Call_of (rOne w) ?_
  rintro _ _ ⟨rfl, rfl⟩
  have hx : Lit.one x = true ∧ (x < 0 ∨ ¬ x < 0) ∨ Lit.one x = false := by cases Lit.one x <;> simp <;> omega
  rcases hx with ⟨hx, hx0 | hx0⟩ | hx
  case' inl.inl =>
    have q3 := one_iff.1 hx
    have q4 : place x = 2 * (-x) + 1 := by rw [place_one hx, if_pos hx0]
    have q5 : var x = -x := by rw [var_one hx, if_pos hx0]
    have q6 : notL x = -x := by unfold notL; rw [hx]; rfl
    rw [hx]
    (repeat ((try conv => whnf); first | refine Join_dup ?_ | (refine Br_gate ?_; first | with_reducible refine Br_not ?_ | refine xB ?_ | refine xC ?_) | (refine Ld_gate ?_; refine xL ?_) | (refine LdN_gate ?_; refine xM ?_) | (refine St_gate ?_; refine xS ?_; clear H; intro w H) | (refine StN_gate ?_; refine xN ?_; clear H; intro w H) | (refine Kept_gate ?_; refine xK ?_) | (refine Ar_gate ?_; first | (fail_if_success skip) | refine xA ?_) | (refine Eqv_in ?_) | refine Do_ptr_eq_nil tok rfl ?_ | refine Do_ptr_ne_nil tok rfl ?_ | refine Do_nil_eq_nil tok rfl ?_ | refine Nn_in (by omega) ?_ | refine Nz_in (by omega) ?_))
    refine Call_of (rVar w) ?_
    rintro _ _ ⟨rfl, rfl⟩
    (repeat ((try conv => whnf); first | refine Join_dup ?_ | (refine Br_gate ?_; first | with_reducible refine Br_not ?_ | refine xB ?_ | refine xC ?_) | (refine Ld_gate ?_; refine xL ?_) | (refine LdN_gate ?_; refine xM ?_) | (refine St_gate ?_; refine xS ?_; clear H; intro w H) | (refine StN_gate ?_; refine xN ?_; clear H; intro w H) | (refine Kept_gate ?_; refine xK ?_) | (refine Ar_gate ?_; first | (fail_if_success skip) | refine xA ?_) | (refine Eqv_in ?_) | refine Do_ptr_eq_nil tok rfl ?_ | refine Do_ptr_ne_nil tok rfl ?_ | refine Do_nil_eq_nil tok rfl ?_ | refine Nn_in (by omega) ?_ | refine Nz_in (by omega) ?_))
    rw [Int.zero_sub]
  case' inl.inr =>
    have q3 := one_iff.1 hx
    have q4 : place x = 2 * x := by rw [place_one hx, if_neg hx0]
    have q5 : var x = x := by rw [var_one hx, if_neg hx0]
    have q6 : notL x = -x := by unfold notL; rw [hx]; rfl
    rw [hx]
    (repeat ((try conv => whnf); first | refine Join_dup ?_ | (refine Br_gate ?_; first | with_reducible refine Br_not ?_ | refine xB ?_ | refine xC ?_) | (refine Ld_gate ?_; refine xL ?_) | (refine LdN_gate ?_; refine xM ?_) | (refine St_gate ?_; refine xS ?_; clear H; intro w H) | (refine StN_gate ?_; refine xN ?_; clear H; intro w H) | (refine Kept_gate ?_; refine xK ?_) | (refine Ar_gate ?_; first | (fail_if_success skip) | refine xA ?_) | (refine Eqv_in ?_) | refine Do_ptr_eq_nil tok rfl ?_ | refine Do_ptr_ne_nil tok rfl ?_ | refine Do_nil_eq_nil tok rfl ?_ | refine Nn_in (by omega) ?_ | refine Nz_in (by omega) ?_))
    refine Call_of (rVar w) ?_
    rintro _ _ ⟨rfl, rfl⟩
    (repeat ((try conv => whnf); first | refine Join_dup ?_ | (refine Br_gate ?_; first | with_reducible refine Br_not ?_ | refine xB ?_ | refine xC ?_) | (refine Ld_gate ?_; refine xL ?_) | (refine LdN_gate ?_; refine xM ?_) | (refine St_gate ?_; refine xS ?_; clear H; intro w H) | (refine StN_gate ?_; refine xN ?_; clear H; intro w H) | (refine Kept_gate ?_; refine xK ?_) | (refine Ar_gate ?_; first | (fail_if_success skip) | refine xA ?_) | (refine Eqv_in ?_) | refine Do_ptr_eq_nil tok rfl ?_ | refine Do_ptr_ne_nil tok rfl ?_ | refine Do_nil_eq_nil tok rfl ?_ | refine Nn_in (by omega) ?_ | refine Nz_in (by omega) ?_))
    rw [Int.zero_sub]
  case' inr =>
    have q5 : var x = 0 := by unfold var; rw [hx]; rfl
    have q4 : place x = 0 := by unfold place; rw [q5]; split <;> omega
    have q6 : notL x = 0 := by unfold notL; rw [hx]; rfl
    rw [hx]
  all_goals
    (repeat ((try conv => whnf); first | refine Join_dup ?_ | (refine Br_gate ?_; first | with_reducible refine Br_not ?_ | refine xB ?_ | refine xC ?_) | (refine Ld_gate ?_; refine xL ?_) | (refine LdN_gate ?_; refine xM ?_) | (refine St_gate ?_; refine xS ?_; clear H; intro w H) | (refine StN_gate ?_; refine xN ?_; clear H; intro w H) | (refine Kept_gate ?_; refine xK ?_) | (refine Ar_gate ?_; first | (fail_if_success skip) | refine xA ?_) | (refine Eqv_in ?_) | refine Do_ptr_eq_nil tok rfl ?_ | refine Do_ptr_ne_nil tok rfl ?_ | refine Do_nil_eq_nil tok rfl ?_ | refine Nn_in (by omega) ?_ | refine Nz_in (by omega) ?_))
    refine Call_of (fAt hp1 hp2 w) ?_
    rintro _ _ ⟨rfl, rfl⟩
    have hall : [x].all Lit.one = Lit.one x := by simp
    rcases tell_at (p := p) with ⟨f1, f2, r3, r4, r5⟩ | ⟨f1, r3, r4⟩ | ⟨f1, r3, r4⟩
    all_goals
      (repeat ((try conv => whnf); first | refine Join_dup ?_ | (refine Br_gate ?_; first | with_reducible refine Br_not ?_ | refine xB ?_ | refine xC ?_) | (refine Ld_gate ?_; refine xL ?_) | (refine LdN_gate ?_; refine xM ?_) | (refine St_gate ?_; refine xS ?_; clear H; intro w H) | (refine StN_gate ?_; refine xN ?_; clear H; intro w H) | (refine Kept_gate ?_; refine xK ?_) | (refine Ar_gate ?_; first | (fail_if_success skip) | refine xA ?_) | (refine Eqv_in ?_) | refine Do_ptr_eq_nil tok rfl ?_ | refine Do_ptr_ne_nil tok rfl ?_ | refine Do_nil_eq_nil tok rfl ?_ | refine Nn_in (by omega) ?_ | refine Nz_in (by omega) ?_))
      (refine Nw_sep H ?_; clear H; intro b1 w H; (try simp only [Value.cells, List.toList_toArray, List.append_nil, List.cons_append, List.nil_append] at H))
      (repeat ((try conv => whnf); first | refine Join_dup ?_ | (refine Br_gate ?_; first | with_reducible refine Br_not ?_ | refine xB ?_ | refine xC ?_) | (refine Ld_gate ?_; refine xL ?_) | (refine LdN_gate ?_; refine xM ?_) | (refine St_gate ?_; refine xS ?_; clear H; intro w H) | (refine StN_gate ?_; refine xN ?_; clear H; intro w H) | (refine Kept_gate ?_; refine xK ?_) | (refine Ar_gate ?_; first | (fail_if_success skip) | refine xA ?_) | (refine Eqv_in ?_) | refine Do_ptr_eq_nil tok rfl ?_ | refine Do_ptr_ne_nil tok rfl ?_ | refine Do_nil_eq_nil tok rfl ?_ | refine Nn_in (by omega) ?_ | refine Nz_in (by omega) ?_))
      refine Call_of (fRight (xs := [x]) (H.srcCM 1 1 (.head _) rfl (by show 1 ≤ maxLen; decide)) (by show 1 ≤ maxLen; decide)) ?_
      rintro _ _ ⟨rfl, rfl⟩
      rw [hall, hx]
      (repeat ((try conv => whnf); first | refine Join_dup ?_ | (refine Br_gate ?_; first | with_reducible refine Br_not ?_ | refine xB ?_ | refine xC ?_) | (refine Ld_gate ?_; refine xL ?_) | (refine LdN_gate ?_; refine xM ?_) | (refine St_gate ?_; refine xS ?_; clear H; intro w H) | (refine StN_gate ?_; refine xN ?_; clear H; intro w H) | (refine Kept_gate ?_; refine xK ?_) | (refine Ar_gate ?_; first | (fail_if_success skip) | refine xA ?_) | (refine Eqv_in ?_) | refine Do_ptr_eq_nil tok rfl ?_ | refine Do_ptr_ne_nil tok rfl ?_ | refine Do_nil_eq_nil tok rfl ?_ | refine Nn_in (by omega) ?_ | refine Nz_in (by omega) ?_))
      refine Do_beq tok rfl (c := true) rfl ?_
      (repeat ((try conv => whnf); first | refine Join_dup ?_ | (refine Br_gate ?_; first | with_reducible refine Br_not ?_ | refine xB ?_ | refine xC ?_) | (refine Ld_gate ?_; refine xL ?_) | (refine LdN_gate ?_; refine xM ?_) | (refine St_gate ?_; refine xS ?_; clear H; intro w H) | (refine StN_gate ?_; refine xN ?_; clear H; intro w H) | (refine Kept_gate ?_; refine xK ?_) | (refine Ar_gate ?_; first | (fail_if_success skip) | refine xA ?_) | (refine Eqv_in ?_) | refine Do_ptr_eq_nil tok rfl ?_ | refine Do_ptr_ne_nil tok rfl ?_ | refine Do_nil_eq_nil tok rfl ?_ | refine Nn_in (by omega) ?_ | refine Nz_in (by omega) ?_))
      refine Call_of (fVar w) ?_
      rintro _ _ ⟨rfl, rfl⟩
      (repeat ((try conv => whnf); first | refine Join_dup ?_ | (refine Br_gate ?_; first | with_reducible refine Br_not ?_ | refine xB ?_ | refine xC ?_) | (refine Ld_gate ?_; refine xL ?_) | (refine LdN_gate ?_; refine xM ?_) | (refine St_gate ?_; refine xS ?_; clear H; intro w H) | (refine StN_gate ?_; refine xN ?_; clear H; intro w H) | (refine Kept_gate ?_; refine xK ?_) | (refine Ar_gate ?_; first | (fail_if_success skip) | refine xA ?_) | (refine Eqv_in ?_) | refine Do_ptr_eq_nil tok rfl ?_ | refine Do_ptr_ne_nil tok rfl ?_ | refine Do_nil_eq_nil tok rfl ?_ | refine Nn_in (by omega) ?_ | refine Nz_in (by omega) ?_))
      refine Call_of (fPlace w) ?_
      rintro _ _ ⟨rfl, rfl⟩
      (repeat ((try conv => whnf); first | refine Join_dup ?_ | (refine Br_gate ?_; first | with_reducible refine Br_not ?_ | refine xB ?_ | refine xC ?_) | (refine Ld_gate ?_; refine xL ?_) | (refine LdN_gate ?_; refine xM ?_) | (refine St_gate ?_; refine xS ?_; clear H; intro w H) | (refine StN_gate ?_; refine xN ?_; clear H; intro w H) | (refine Kept_gate ?_; refine xK ?_) | (refine Ar_gate ?_; first | (fail_if_success skip) | refine xA ?_) | (refine Eqv_in ?_) | refine Do_ptr_eq_nil tok rfl ?_ | refine Do_ptr_ne_nil tok rfl ?_ | refine Do_nil_eq_nil tok rfl ?_ | refine Nn_in (by omega) ?_ | refine Nz_in (by omega) ?_))
      refine Call_of (fNot w) ?_
      rintro _ _ ⟨rfl, rfl⟩
      (repeat ((try conv => whnf); first | refine Join_dup ?_ | (refine Br_gate ?_; first | with_reducible refine Br_not ?_ | refine xB ?_ | refine xC ?_) | (refine Ld_gate ?_; refine xL ?_) | (refine LdN_gate ?_; refine xM ?_) | (refine St_gate ?_; refine xS ?_; clear H; intro w H) | (refine StN_gate ?_; refine xN ?_; clear H; intro w H) | (refine Kept_gate ?_; refine xK ?_) | (refine Ar_gate ?_; first | (fail_if_success skip) | refine xA ?_) | (refine Eqv_in ?_) | refine Do_ptr_eq_nil tok rfl ?_ | refine Do_ptr_ne_nil tok rfl ?_ | refine Do_nil_eq_nil tok rfl ?_ | refine Nn_in (by omega) ?_ | refine Nz_in (by omega) ?_))
      rw [r3]
      (repeat ((try conv => whnf); first | refine Join_dup ?_ | (refine Br_gate ?_; first | with_reducible refine Br_not ?_ | refine xB ?_ | refine xC ?_) | (refine Ld_gate ?_; refine xL ?_) | (refine LdN_gate ?_; refine xM ?_) | (refine St_gate ?_; refine xS ?_; clear H; intro w H) | (refine StN_gate ?_; refine xN ?_; clear H; intro w H) | (refine Kept_gate ?_; refine xK ?_) | (refine Ar_gate ?_; first | (fail_if_success skip) | refine xA ?_) | (refine Eqv_in ?_) | refine Do_ptr_eq_nil tok rfl ?_ | refine Do_ptr_ne_nil tok rfl ?_ | refine Do_nil_eq_nil tok rfl ?_ | refine Nn_in (by omega) ?_ | refine Nz_in (by omega) ?_))
      refine Do_beq tok rfl (c := true) (by first | rfl | (rw [decide_eq_true (by omega)]; rfl) | (rw [decide_eq_false (by omega)]; rfl)) ?_
      (repeat ((try conv => whnf); first | refine Join_dup ?_ | (refine Br_gate ?_; first | with_reducible refine Br_not ?_ | refine xB ?_ | refine xC ?_) | (refine Ld_gate ?_; refine xL ?_) | (refine LdN_gate ?_; refine xM ?_) | (refine St_gate ?_; refine xS ?_; clear H; intro w H) | (refine StN_gate ?_; refine xN ?_; clear H; intro w H) | (refine Kept_gate ?_; refine xK ?_) | (refine Ar_gate ?_; first | (fail_if_success skip) | refine xA ?_) | (refine Eqv_in ?_) | refine Do_ptr_eq_nil tok rfl ?_ | refine Do_ptr_ne_nil tok rfl ?_ | refine Do_nil_eq_nil tok rfl ?_ | refine Nn_in (by omega) ?_ | refine Nz_in (by omega) ?_))
      try (refine Call_of (fPlace w) ?_; rintro _ _ ⟨rfl, rfl⟩; (repeat ((try conv => whnf); first | refine Join_dup ?_ | (refine Br_gate ?_; first | with_reducible refine Br_not ?_ | refine xB ?_ | refine xC ?_) | (refine Ld_gate ?_; refine xL ?_) | (refine LdN_gate ?_; refine xM ?_) | (refine St_gate ?_; refine xS ?_; clear H; intro w H) | (refine StN_gate ?_; refine xN ?_; clear H; intro w H) | (refine Kept_gate ?_; refine xK ?_) | (refine Ar_gate ?_; first | (fail_if_success skip) | refine xA ?_) | (refine Eqv_in ?_) | refine Do_ptr_eq_nil tok rfl ?_ | refine Do_ptr_ne_nil tok rfl ?_ | refine Do_nil_eq_nil tok rfl ?_ | refine Nn_in (by omega) ?_ | refine Nz_in (by omega) ?_)))
      exact Ret_in ⟨vbool (by first | rfl | exact beqT r5), H.all⟩
end
end Go.Proofs.Ytmkjajeanjidkaa
