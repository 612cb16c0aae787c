/- The chapter's examples, the laws' functions. -/
import Derived.Test.YtmkjajeanjidkaaLitF
set_option linter.unusedVariables false
set_option linter.unusedSimpArgs false
namespace Go.Lit
theorem clean_is {xs out o : List Int} (ho : ∀ x ∈ xs, one x = true) (h : Clean xs out) (h1 : o.Pairwise fun x y => place x < place y) (h2 : ∀ x, x ∈ o ↔ x ∈ xs) : out = o :=
  Clean.same ho h ⟨h1, h2⟩ fun x => Iff.rfl
/-- A clause cleaned, or none. -/
def CleanOf (ok : Bool) (xs out : List Int) : Prop := (ok = true ∧ xs.all one = true ∧ Clean xs out) ∨ (ok = false ∧ out = [])
theorem CleanOf.same {ok : Bool} {xs ys a b : List Int} (ha : CleanOf ok xs a) (hb : CleanOf ok ys b) (h : ∀ x, x ∈ xs ↔ x ∈ ys) : a = b := by
  rcases ha with ⟨h1, h2, h3⟩ | ⟨h1, rfl⟩
  · rcases hb with ⟨k1, k2, k3⟩ | ⟨k1, rfl⟩
    · exact Clean.same (List.all_eq_true.1 h2) h3 k3 h
    · rw [h1] at k1; cases k1
  · rcases hb with ⟨k1, k2, k3⟩ | ⟨k1, rfl⟩
    · rw [h1] at k1; cases k1
    · rfl
theorem all_congr {xs ys : List Int} {p : Int → Bool} (h : ∀ x, x ∈ xs ↔ x ∈ ys) : xs.all p = ys.all p := by
  rw [Bool.eq_iff_iff, List.all_eq_true, List.all_eq_true]
  exact ⟨fun k x hx => k x ((h x).2 hx), fun k x hx => k x ((h x).1 hx)⟩
def numE (ok : Bool) : Int := if ok then 0 else 11
theorem at_zero {p : Int} (h : ¬ (2 ≤ p ∧ p ≤ 524289)) : at_ p = 0 := by unfold at_; rw [if_pos (by omega)]
theorem at_fit {p : Int} (h : 2 ≤ p ∧ p ≤ 524289) : at_ p ≠ 0 ∧ place (at_ p) = p := by
  have e : at_ p = if p % 2 = 1 then -(p / 2) else p / 2 := by unfold at_; rw [if_neg (by omega)]
  rw [e]
  split
  · have : one (-(p / 2)) = true := one_iff.2 (by omega)
    rw [place_one this, if_pos (by omega)]
    omega
  · have : one (p / 2) = true := one_iff.2 (by omega)
    rw [place_one this, if_neg (by omega)]
    omega
theorem at_place {x : Int} (h : one x = true) : at_ (place x) = x := by
  have h1 := one_iff.1 h
  rw [place_one h]
  unfold at_
  split
  · rw [if_neg (by omega), if_pos (by omega)]; omega
  · rw [if_neg (by omega), if_neg (by omega)]; omega
end Go.Lit
namespace Go.Proofs.Ytmkjajeanjidkaa
open Go Go.Vc Go.Lit
set_option maxHeartbeats 4000000
set_option maxRecDepth 100000

section
variable {w0 w : World} {l : List Res}

theorem fCleanA {xs : List Int} {a : Option Addr} {c : Nat} (H : Sep w0 w l) (hs : Src w a xs.length 1 (xs.map lV)) (hm : xs.length ≤ 1000000000) : Does Try.prog 11 #[.slice a xs.length c] w fun v w' =>
    ∃ a' c' out, v = .tuple #[.slice a' out.length c', .bool (xs.all Lit.one && bothB xs), .int .i64 (numE (xs.all Lit.one))] ∧ CleanOf (xs.all Lit.one) xs out ∧ out.length ≤ xs.length ∧ Sep w0 w' (ownR a' out.length c' 34 1 (out.map lV) :: l) := by
  cases h : xs.all Lit.one with
  | true =>
    refine (fClean H hs hm (List.all_eq_true.1 h)).mono ?_
    rintro _ w ⟨a', c', out, rfl, hcl, hol, H⟩
    exact ⟨a', c', out, rfl, .inl ⟨rfl, h, hcl⟩, hol, H⟩
  | false =>
    refine (fClean_no hs (by unfold maxLen; omega) h).mono ?_
    rintro _ _ ⟨rfl, rfl⟩
    exact ⟨none, 0, [], rfl, .inr ⟨rfl, rfl⟩, Nat.zero_le _, Own.nilR H _ _⟩

theorem rCleanA {xs : List Int} {a : Option Addr} {c : Nat} (H : Sep w0 w l) (hs : ∀ {w' : World} {l' : List Res}, Sep w0 w' (l' ++ l) → Src w' a xs.length 1 (xs.map lV)) (hm : xs.length ≤ 100000000) : Does Try.prog 12 #[.slice a xs.length c] w fun v w' =>
    ∃ a' c' out, v = .tuple #[.slice a' out.length c', .bool (xs.all Lit.one && bothB xs), .int .i64 (numE (xs.all Lit.one))] ∧ CleanOf (xs.all Lit.one) xs out ∧ out.length ≤ xs.length ∧ Sep w0 w' (ownR a' out.length c' 34 1 (out.map lV) :: l) := by
  cases h : xs.all Lit.one with
  | true =>
    refine (rClean H hs hm (List.all_eq_true.1 h)).mono ?_
    rintro _ w ⟨a', c', out, rfl, hcl, hol, H⟩
    exact ⟨a', c', out, rfl, .inl ⟨rfl, h, hcl⟩, hol, H⟩
  | false =>
    refine (rClean_no (hs (l' := []) H) (by unfold maxLen; omega) h).mono ?_
    rintro _ _ ⟨rfl, rfl⟩
    exact ⟨none, 0, [], rfl, .inr ⟨rfl, rfl⟩, Nat.zero_le _, Own.nilR H _ _⟩

theorem resL_one {xs ys : List Int} {v : Int} (h : resOk xs ys v = true) : (resL xs ys v).all Lit.one = true := by
  unfold resOk at h
  simp only [Bool.and_eq_true] at h
  obtain ⟨h1, h2, _⟩ := h
  rw [List.all_eq_true] at h1 h2 ⊢
  intro x hx
  unfold resL at hx
  rw [List.mem_append, List.mem_filter, List.mem_filter] at hx
  rcases hx with hx | hx
  · exact h1 x hx.1
  · exact h2 x hx.1

theorem fResolveA {xs ys : List Int} {a b : Option Addr} {c d : Nat} {v : Int} (H : Sep w0 w l) (hs : ∀ {w' : World} {l' : List Res}, Sep w0 w' (l' ++ l) → Src w' a xs.length 1 (xs.map lV)) (ht : ∀ {w' : World} {l' : List Res}, Sep w0 w' (l' ++ l) → Src w' b ys.length 1 (ys.map lV))
    (hm : xs.length ≤ 10000000) (hn : ys.length ≤ 10000000) (hv1 : -9223372036854775808 ≤ v) (hv2 : v ≤ 9223372036854775807) :
    Does Try.prog 17 #[.slice a xs.length c, .slice b ys.length d, .int .i64 v] w fun r w' =>
      ∃ a' c' out, r = .tuple #[.slice a' out.length c', .int .i64 (numE (resOk xs ys v))] ∧ CleanOf (resOk xs ys v) (resL xs ys v) out ∧ out.length ≤ xs.length + ys.length ∧ Sep w0 w' (ownR a' out.length c' 34 1 (out.map lV) :: l) := by
  refine (fResolve H hs ht (by omega) (by omega) hv1 hv2).mono ?_
  rintro _ w h
  rcases h with ⟨h, rfl, H⟩ | ⟨h, a2, c2, o2, rfl, hcl, hol, H⟩
  · rw [h]
    exact ⟨none, 0, [], rfl, .inr ⟨rfl, rfl⟩, Nat.zero_le _, Own.nilR H _ _⟩
  · have h2 := resL_one h
    rw [h]
    exact ⟨a2, c2, o2, rfl, .inl ⟨rfl, h2, hcl⟩, hol, H⟩

theorem rResolveA {xs ys : List Int} {a b : Option Addr} {c d : Nat} {v : Int} (H : Sep w0 w l) (hs : ∀ {w' : World} {l' : List Res}, Sep w0 w' (l' ++ l) → Src w' a xs.length 1 (xs.map lV)) (ht : ∀ {w' : World} {l' : List Res}, Sep w0 w' (l' ++ l) → Src w' b ys.length 1 (ys.map lV))
    (hm : xs.length ≤ 10000000) (hn : ys.length ≤ 10000000) (hv1 : -9223372036854775808 ≤ v) (hv2 : v ≤ 9223372036854775807) :
    Does Try.prog 18 #[.slice a xs.length c, .slice b ys.length d, .int .i64 v] w fun r w' =>
      ∃ a' c' out, r = .tuple #[.slice a' out.length c', .int .i64 (numE (resOk xs ys v))] ∧ CleanOf (resOk xs ys v) (resL xs ys v) out ∧ out.length ≤ xs.length + ys.length ∧ Sep w0 w' (ownR a' out.length c' 34 1 (out.map lV) :: l) := by
  refine (rResolve H hs ht (by omega) (by omega) hv1 hv2).mono ?_
  rintro _ w h
  rcases h with ⟨h, rfl, H⟩ | ⟨h, a2, c2, o2, rfl, hcl, hol, H⟩
  · rw [h]
    exact ⟨none, 0, [], rfl, .inr ⟨rfl, rfl⟩, Nat.zero_le _, Own.nilR H _ _⟩
  · have h2 := resL_one h
    rw [h]
    exact ⟨a2, c2, o2, rfl, .inl ⟨rfl, h2, hcl⟩, hol, H⟩

theorem rSameH {xs ys : List Int} {a b : Option Addr} {c d : Nat} (H : Sep w0 w l) (hs : Src w a xs.length 1 (xs.map lV)) (ht : Src w b ys.length 1 (ys.map lV)) (hm : xs.length ≤ 9223372036854775807) : Does Try.prog 13 #[.slice a xs.length c, .slice b ys.length d] w fun v w' => v = .bool (decide (xs = ys)) ∧ Sep w0 w' l :=
  (rSame hs ht hm).mono fun _ _ h => ⟨h.1, H.add h.2⟩

theorem src_nil (w : World) : Src w none 0 1 [] := ⟨rfl, fun _ _ h => by simp at h⟩

theorem uAlive (H : Sep w0 w l) : Does Try.prog 10 #[] w fun v w' => v = .bool true ∧ Sep w0 w' l := by
  refine Does_intro tok (Try.call10 _ _) Try.func10 rfl (by rfl) ?_
  (repeat ((try conv => whnf); first | refine Join_dup ?_ | (refine Br_gate ?_; first | with_reducible refine Br_not ?_ | refine xB ?_ | refine xC ?_) | (refine Ld_gate ?_; refine xL ?_) | (refine LdN_gate ?_; refine xM ?_) | (refine St_gate ?_; refine xS ?_; clear H; intro w H) | (refine StN_gate ?_; refine xN ?_; clear H; intro w H) | (refine Kept_gate ?_; refine xK ?_) | (refine Ar_gate ?_; first | (fail_if_success skip) | refine xA ?_) | (refine Eqv_in ?_) | refine Do_ptr_eq_nil tok rfl ?_ | refine Do_ptr_ne_nil tok rfl ?_ | refine Do_nil_eq_nil tok rfl ?_ | refine Nn_in (by omega) ?_ | refine Nz_in (by omega) ?_))
  (refine Nw_sep H ?_; clear H; intro b1 w H; (try simp only [Value.cells, List.toList_toArray, List.append_nil, List.cons_append, List.nil_append] at H))
  (repeat ((try conv => whnf); first | refine Join_dup ?_ | (refine Br_gate ?_; first | with_reducible refine Br_not ?_ | refine xB ?_ | refine xC ?_) | (refine Ld_gate ?_; refine xL ?_) | (refine LdN_gate ?_; refine xM ?_) | (refine St_gate ?_; refine xS ?_; clear H; intro w H) | (refine StN_gate ?_; refine xN ?_; clear H; intro w H) | (refine Kept_gate ?_; refine xK ?_) | (refine Ar_gate ?_; first | (fail_if_success skip) | refine xA ?_) | (refine Eqv_in ?_) | refine Do_ptr_eq_nil tok rfl ?_ | refine Do_ptr_ne_nil tok rfl ?_ | refine Do_nil_eq_nil tok rfl ?_ | refine Nn_in (by omega) ?_ | refine Nz_in (by omega) ?_))
  refine Call_of (fClean (xs := [3, -1, 3]) H (H.srcCM 3 1 (.head _) rfl (by decide)) (by decide) (by decide)) ?_
  clear H
  rintro _ w ⟨a1, c1, o1, rfl, hcl, hol, H⟩
  obtain rfl : o1 = [-1, 3] := clean_is (by decide) hcl (by decide) (fun x => by simp; omega)
  (repeat ((try conv => whnf); first | refine Join_dup ?_ | (refine Br_gate ?_; first | with_reducible refine Br_not ?_ | refine xB ?_ | refine xC ?_) | (refine Ld_gate ?_; refine xL ?_) | (refine LdN_gate ?_; refine xM ?_) | (refine St_gate ?_; refine xS ?_; clear H; intro w H) | (refine StN_gate ?_; refine xN ?_; clear H; intro w H) | (refine Kept_gate ?_; refine xK ?_) | (refine Ar_gate ?_; first | (fail_if_success skip) | refine xA ?_) | (refine Eqv_in ?_) | refine Do_ptr_eq_nil tok rfl ?_ | refine Do_ptr_ne_nil tok rfl ?_ | refine Do_nil_eq_nil tok rfl ?_ | refine Nn_in (by omega) ?_ | refine Nz_in (by omega) ?_))
  (refine Nw_sep H ?_; clear H; intro b2 w H; (try simp only [Value.cells, List.toList_toArray, List.append_nil, List.cons_append, List.nil_append] at H))
  (repeat ((try conv => whnf); first | refine Join_dup ?_ | (refine Br_gate ?_; first | with_reducible refine Br_not ?_ | refine xB ?_ | refine xC ?_) | (refine Ld_gate ?_; refine xL ?_) | (refine LdN_gate ?_; refine xM ?_) | (refine St_gate ?_; refine xS ?_; clear H; intro w H) | (refine StN_gate ?_; refine xN ?_; clear H; intro w H) | (refine Kept_gate ?_; refine xK ?_) | (refine Ar_gate ?_; first | (fail_if_success skip) | refine xA ?_) | (refine Eqv_in ?_) | refine Do_ptr_eq_nil tok rfl ?_ | refine Do_ptr_ne_nil tok rfl ?_ | refine Do_nil_eq_nil tok rfl ?_ | refine Nn_in (by omega) ?_ | refine Nz_in (by omega) ?_))
  (refine Nw_sep H ?_; clear H; intro b3 w H; (try simp only [Value.cells, List.toList_toArray, List.append_nil, List.cons_append, List.nil_append] at H))
  (repeat ((try conv => whnf); first | refine Join_dup ?_ | (refine Br_gate ?_; first | with_reducible refine Br_not ?_ | refine xB ?_ | refine xC ?_) | (refine Ld_gate ?_; refine xL ?_) | (refine LdN_gate ?_; refine xM ?_) | (refine St_gate ?_; refine xS ?_; clear H; intro w H) | (refine StN_gate ?_; refine xN ?_; clear H; intro w H) | (refine Kept_gate ?_; refine xK ?_) | (refine Ar_gate ?_; first | (fail_if_success skip) | refine xA ?_) | (refine Eqv_in ?_) | refine Do_ptr_eq_nil tok rfl ?_ | refine Do_ptr_ne_nil tok rfl ?_ | refine Do_nil_eq_nil tok rfl ?_ | refine Nn_in (by omega) ?_ | refine Nz_in (by omega) ?_))
  refine Call_of (fResolve (xs := [1, 2]) (ys := [-1, 3]) H (fun h => h.srcCM 2 1 (List.mem_append_right _ (.tail _ (.head _))) rfl (by decide)) (fun h => h.srcCM 2 1 (List.mem_append_right _ (.head _)) rfl (by decide)) (by decide) (by decide) (by decide) (by decide)) ?_
  clear H
  rintro _ w h
  rcases h with ⟨h, _⟩ | ⟨_, a2, c2, o2, rfl, hcl2, hol2, H⟩
  · exact absurd h (by decide)
  obtain rfl : o2 = [2, 3] := clean_is (by decide) hcl2 (by decide) (fun x => by simp [resL])
  (repeat ((try conv => whnf); first | refine Join_dup ?_ | (refine Br_gate ?_; first | with_reducible refine Br_not ?_ | refine xB ?_ | refine xC ?_) | (refine Ld_gate ?_; refine xL ?_) | (refine LdN_gate ?_; refine xM ?_) | (refine St_gate ?_; refine xS ?_; clear H; intro w H) | (refine StN_gate ?_; refine xN ?_; clear H; intro w H) | (refine Kept_gate ?_; refine xK ?_) | (refine Ar_gate ?_; first | (fail_if_success skip) | refine xA ?_) | (refine Eqv_in ?_) | refine Do_ptr_eq_nil tok rfl ?_ | refine Do_ptr_ne_nil tok rfl ?_ | refine Do_nil_eq_nil tok rfl ?_ | refine Nn_in (by omega) ?_ | refine Nz_in (by omega) ?_))
  (refine Nw_sep H ?_; clear H; intro b4 w H; (try simp only [Value.cells, List.toList_toArray, List.append_nil, List.cons_append, List.nil_append] at H))
  (repeat ((try conv => whnf); first | refine Join_dup ?_ | (refine Br_gate ?_; first | with_reducible refine Br_not ?_ | refine xB ?_ | refine xC ?_) | (refine Ld_gate ?_; refine xL ?_) | (refine LdN_gate ?_; refine xM ?_) | (refine St_gate ?_; refine xS ?_; clear H; intro w H) | (refine StN_gate ?_; refine xN ?_; clear H; intro w H) | (refine Kept_gate ?_; refine xK ?_) | (refine Ar_gate ?_; first | (fail_if_success skip) | refine xA ?_) | (refine Eqv_in ?_) | refine Do_ptr_eq_nil tok rfl ?_ | refine Do_ptr_ne_nil tok rfl ?_ | refine Do_nil_eq_nil tok rfl ?_ | refine Nn_in (by omega) ?_ | refine Nz_in (by omega) ?_))
  refine Call_of (rSameH (xs := [-1, 3]) (ys := [-1, 3]) H (H.srcM (by repeat first | exact List.Mem.head _ | refine List.Mem.tail _ ?_)) (H.srcCM 2 1 (.head _) rfl (by decide)) (by decide)) ?_
  clear H
  rintro _ w ⟨rfl, H⟩
  rw [decide_eq_true rfl]
  (repeat ((try conv => whnf); first | refine Join_dup ?_ | (refine Br_gate ?_; first | with_reducible refine Br_not ?_ | refine xB ?_ | refine xC ?_) | (refine Ld_gate ?_; refine xL ?_) | (refine LdN_gate ?_; refine xM ?_) | (refine St_gate ?_; refine xS ?_; clear H; intro w H) | (refine StN_gate ?_; refine xN ?_; clear H; intro w H) | (refine Kept_gate ?_; refine xK ?_) | (refine Ar_gate ?_; first | (fail_if_success skip) | refine xA ?_) | (refine Eqv_in ?_) | refine Do_ptr_eq_nil tok rfl ?_ | refine Do_ptr_ne_nil tok rfl ?_ | refine Do_nil_eq_nil tok rfl ?_ | refine Nn_in (by omega) ?_ | refine Nz_in (by omega) ?_))
  (refine Nw_sep H ?_; clear H; intro b5 w H; (try simp only [Value.cells, List.toList_toArray, List.append_nil, List.cons_append, List.nil_append] at H))
  (repeat ((try conv => whnf); first | refine Join_dup ?_ | (refine Br_gate ?_; first | with_reducible refine Br_not ?_ | refine xB ?_ | refine xC ?_) | (refine Ld_gate ?_; refine xL ?_) | (refine LdN_gate ?_; refine xM ?_) | (refine St_gate ?_; refine xS ?_; clear H; intro w H) | (refine StN_gate ?_; refine xN ?_; clear H; intro w H) | (refine Kept_gate ?_; refine xK ?_) | (refine Ar_gate ?_; first | (fail_if_success skip) | refine xA ?_) | (refine Eqv_in ?_) | refine Do_ptr_eq_nil tok rfl ?_ | refine Do_ptr_ne_nil tok rfl ?_ | refine Do_nil_eq_nil tok rfl ?_ | refine Nn_in (by omega) ?_ | refine Nz_in (by omega) ?_))
  refine Call_of (rSameH (xs := [2, 3]) (ys := [2, 3]) H (H.srcM (by repeat first | exact List.Mem.head _ | refine List.Mem.tail _ ?_)) (H.srcCM 2 1 (.head _) rfl (by decide)) (by decide)) ?_
  clear H
  rintro _ w ⟨rfl, H⟩
  rw [decide_eq_true rfl]
  (repeat ((try conv => whnf); first | refine Join_dup ?_ | (refine Br_gate ?_; first | with_reducible refine Br_not ?_ | refine xB ?_ | refine xC ?_) | (refine Ld_gate ?_; refine xL ?_) | (refine LdN_gate ?_; refine xM ?_) | (refine St_gate ?_; refine xS ?_; clear H; intro w H) | (refine StN_gate ?_; refine xN ?_; clear H; intro w H) | (refine Kept_gate ?_; refine xK ?_) | (refine Ar_gate ?_; first | (fail_if_success skip) | refine xA ?_) | (refine Eqv_in ?_) | refine Do_ptr_eq_nil tok rfl ?_ | refine Do_ptr_ne_nil tok rfl ?_ | refine Do_nil_eq_nil tok rfl ?_ | refine Nn_in (by omega) ?_ | refine Nz_in (by omega) ?_))
  exact Ret_in ⟨rfl, H.tail.tail.tail.tail.tail.tail.tail⟩

theorem uNames (w : World) : Does Try.prog 6 #[] w fun v w' => v = .bool true ∧ Sep w w' [] := by
  have H := Sep.nil w
  refine Does_intro tok (Try.call6 _ _) Try.func6 rfl (by rfl) ?_
  (repeat ((try conv => whnf); first | refine Join_dup ?_ | (refine Br_gate ?_; first | with_reducible refine Br_not ?_ | refine xB ?_ | refine xC ?_) | (refine Ld_gate ?_; refine xL ?_) | (refine LdN_gate ?_; refine xM ?_) | (refine St_gate ?_; refine xS ?_; clear H; intro w H) | (refine StN_gate ?_; refine xN ?_; clear H; intro w H) | (refine Kept_gate ?_; refine xK ?_) | (refine Ar_gate ?_; first | (fail_if_success skip) | refine xA ?_) | (refine Eqv_in ?_) | refine Do_ptr_eq_nil tok rfl ?_ | refine Do_ptr_ne_nil tok rfl ?_ | refine Do_nil_eq_nil tok rfl ?_ | refine Nn_in (by omega) ?_ | refine Nz_in (by omega) ?_))
  (refine Nw_sep H ?_; clear H; intro b1 w H; (try simp only [Value.cells, List.toList_toArray, List.append_nil, List.cons_append, List.nil_append] at H))
  (repeat ((try conv => whnf); first | refine Join_dup ?_ | (refine Br_gate ?_; first | with_reducible refine Br_not ?_ | refine xB ?_ | refine xC ?_) | (refine Ld_gate ?_; refine xL ?_) | (refine LdN_gate ?_; refine xM ?_) | (refine St_gate ?_; refine xS ?_; clear H; intro w H) | (refine StN_gate ?_; refine xN ?_; clear H; intro w H) | (refine Kept_gate ?_; refine xK ?_) | (refine Ar_gate ?_; first | (fail_if_success skip) | refine xA ?_) | (refine Eqv_in ?_) | refine Do_ptr_eq_nil tok rfl ?_ | refine Do_ptr_ne_nil tok rfl ?_ | refine Do_nil_eq_nil tok rfl ?_ | refine Nn_in (by omega) ?_ | refine Nz_in (by omega) ?_))
  refine Call_of (fCleanA (xs := [1, 0]) H (H.srcCM 2 1 (.head _) rfl (by decide)) (by decide)) ?_
  clear H
  rintro _ w ⟨a1, c1, o1, rfl, hcl, hol, H⟩
  (repeat ((try conv => whnf); first | refine Join_dup ?_ | (refine Br_gate ?_; first | with_reducible refine Br_not ?_ | refine xB ?_ | refine xC ?_) | (refine Ld_gate ?_; refine xL ?_) | (refine LdN_gate ?_; refine xM ?_) | (refine St_gate ?_; refine xS ?_; clear H; intro w H) | (refine StN_gate ?_; refine xN ?_; clear H; intro w H) | (refine Kept_gate ?_; refine xK ?_) | (refine Ar_gate ?_; first | (fail_if_success skip) | refine xA ?_) | (refine Eqv_in ?_) | refine Do_ptr_eq_nil tok rfl ?_ | refine Do_ptr_ne_nil tok rfl ?_ | refine Do_nil_eq_nil tok rfl ?_ | refine Nn_in (by omega) ?_ | refine Nz_in (by omega) ?_))
  refine Call_of (fResolveA (xs := []) (ys := []) H (fun _ => src_nil _) (fun _ => src_nil _) (by decide) (by decide) (by decide) (by decide)) ?_
  clear H
  rintro _ w ⟨a2, c2, o2, rfl, hcl2, hol2, H⟩
  (repeat ((try conv => whnf); first | refine Join_dup ?_ | (refine Br_gate ?_; first | with_reducible refine Br_not ?_ | refine xB ?_ | refine xC ?_) | (refine Ld_gate ?_; refine xL ?_) | (refine LdN_gate ?_; refine xM ?_) | (refine St_gate ?_; refine xS ?_; clear H; intro w H) | (refine StN_gate ?_; refine xN ?_; clear H; intro w H) | (refine Kept_gate ?_; refine xK ?_) | (refine Ar_gate ?_; first | (fail_if_success skip) | refine xA ?_) | (refine Eqv_in ?_) | refine Do_ptr_eq_nil tok rfl ?_ | refine Do_ptr_ne_nil tok rfl ?_ | refine Do_nil_eq_nil tok rfl ?_ | refine Nn_in (by omega) ?_ | refine Nz_in (by omega) ?_))
  refine Call_of (uAlive H) ?_
  clear H
  rintro _ w ⟨rfl, H⟩
  (repeat ((try conv => whnf); first | refine Join_dup ?_ | (refine Br_gate ?_; first | with_reducible refine Br_not ?_ | refine xB ?_ | refine xC ?_) | (refine Ld_gate ?_; refine xL ?_) | (refine LdN_gate ?_; refine xM ?_) | (refine St_gate ?_; refine xS ?_; clear H; intro w H) | (refine StN_gate ?_; refine xN ?_; clear H; intro w H) | (refine Kept_gate ?_; refine xK ?_) | (refine Ar_gate ?_; first | (fail_if_success skip) | refine xA ?_) | (refine Eqv_in ?_) | refine Do_ptr_eq_nil tok rfl ?_ | refine Do_ptr_ne_nil tok rfl ?_ | refine Do_nil_eq_nil tok rfl ?_ | refine Nn_in (by omega) ?_ | refine Nz_in (by omega) ?_))
  refine Call_of (fRight (xs := []) (src_nil _) (by decide)) ?_
  rintro _ _ ⟨rfl, rfl⟩
  rw [show ([] : List Int).all Lit.one = true from rfl]
  (repeat ((try conv => whnf); first | refine Join_dup ?_ | (refine Br_gate ?_; first | with_reducible refine Br_not ?_ | refine xB ?_ | refine xC ?_) | (refine Ld_gate ?_; refine xL ?_) | (refine LdN_gate ?_; refine xM ?_) | (refine St_gate ?_; refine xS ?_; clear H; intro w H) | (refine StN_gate ?_; refine xN ?_; clear H; intro w H) | (refine Kept_gate ?_; refine xK ?_) | (refine Ar_gate ?_; first | (fail_if_success skip) | refine xA ?_) | (refine Eqv_in ?_) | refine Do_ptr_eq_nil tok rfl ?_ | refine Do_ptr_ne_nil tok rfl ?_ | refine Do_nil_eq_nil tok rfl ?_ | refine Nn_in (by omega) ?_ | refine Nz_in (by omega) ?_))
  (refine Nw_sep H ?_; clear H; intro b2 w H; (try simp only [Value.cells, List.toList_toArray, List.append_nil, List.cons_append, List.nil_append] at H))
  (repeat ((try conv => whnf); first | refine Join_dup ?_ | (refine Br_gate ?_; first | with_reducible refine Br_not ?_ | refine xB ?_ | refine xC ?_) | (refine Ld_gate ?_; refine xL ?_) | (refine LdN_gate ?_; refine xM ?_) | (refine St_gate ?_; refine xS ?_; clear H; intro w H) | (refine StN_gate ?_; refine xN ?_; clear H; intro w H) | (refine Kept_gate ?_; refine xK ?_) | (refine Ar_gate ?_; first | (fail_if_success skip) | refine xA ?_) | (refine Eqv_in ?_) | refine Do_ptr_eq_nil tok rfl ?_ | refine Do_ptr_ne_nil tok rfl ?_ | refine Do_nil_eq_nil tok rfl ?_ | refine Nn_in (by omega) ?_ | refine Nz_in (by omega) ?_))
  refine Call_of (fRight (xs := [0]) (H.srcCM 1 1 (.head _) rfl (by decide)) (by decide)) ?_
  rintro _ _ ⟨rfl, rfl⟩
  rw [show [0].all Lit.one = false from by decide]
  (repeat ((try conv => whnf); first | refine Join_dup ?_ | (refine Br_gate ?_; first | with_reducible refine Br_not ?_ | refine xB ?_ | refine xC ?_) | (refine Ld_gate ?_; refine xL ?_) | (refine LdN_gate ?_; refine xM ?_) | (refine St_gate ?_; refine xS ?_; clear H; intro w H) | (refine StN_gate ?_; refine xN ?_; clear H; intro w H) | (refine Kept_gate ?_; refine xK ?_) | (refine Ar_gate ?_; first | (fail_if_success skip) | refine xA ?_) | (refine Eqv_in ?_) | refine Do_ptr_eq_nil tok rfl ?_ | refine Do_ptr_ne_nil tok rfl ?_ | refine Do_nil_eq_nil tok rfl ?_ | refine Nn_in (by omega) ?_ | refine Nz_in (by omega) ?_))
  (refine Nw_sep H ?_; clear H; intro b3 w H; (try simp only [Value.cells, List.toList_toArray, List.append_nil, List.cons_append, List.nil_append] at H))
  (repeat ((try conv => whnf); first | refine Join_dup ?_ | (refine Br_gate ?_; first | with_reducible refine Br_not ?_ | refine xB ?_ | refine xC ?_) | (refine Ld_gate ?_; refine xL ?_) | (refine LdN_gate ?_; refine xM ?_) | (refine St_gate ?_; refine xS ?_; clear H; intro w H) | (refine StN_gate ?_; refine xN ?_; clear H; intro w H) | (refine Kept_gate ?_; refine xK ?_) | (refine Ar_gate ?_; first | (fail_if_success skip) | refine xA ?_) | (refine Eqv_in ?_) | refine Do_ptr_eq_nil tok rfl ?_ | refine Do_ptr_ne_nil tok rfl ?_ | refine Do_nil_eq_nil tok rfl ?_ | refine Nn_in (by omega) ?_ | refine Nz_in (by omega) ?_))
  refine Call_of (fRight (xs := [262144, -262144]) (H.srcCM 2 1 (.head _) rfl (by decide)) (by decide)) ?_
  rintro _ _ ⟨rfl, rfl⟩
  rw [show [262144, -262144].all Lit.one = true from by decide]
  (repeat ((try conv => whnf); first | refine Join_dup ?_ | (refine Br_gate ?_; first | with_reducible refine Br_not ?_ | refine xB ?_ | refine xC ?_) | (refine Ld_gate ?_; refine xL ?_) | (refine LdN_gate ?_; refine xM ?_) | (refine St_gate ?_; refine xS ?_; clear H; intro w H) | (refine StN_gate ?_; refine xN ?_; clear H; intro w H) | (refine Kept_gate ?_; refine xK ?_) | (refine Ar_gate ?_; first | (fail_if_success skip) | refine xA ?_) | (refine Eqv_in ?_) | refine Do_ptr_eq_nil tok rfl ?_ | refine Do_ptr_ne_nil tok rfl ?_ | refine Do_nil_eq_nil tok rfl ?_ | refine Nn_in (by omega) ?_ | refine Nz_in (by omega) ?_))
  (refine Nw_sep H ?_; clear H; intro b4 w H; (try simp only [Value.cells, List.toList_toArray, List.append_nil, List.cons_append, List.nil_append] at H))
  (repeat ((try conv => whnf); first | refine Join_dup ?_ | (refine Br_gate ?_; first | with_reducible refine Br_not ?_ | refine xB ?_ | refine xC ?_) | (refine Ld_gate ?_; refine xL ?_) | (refine LdN_gate ?_; refine xM ?_) | (refine St_gate ?_; refine xS ?_; clear H; intro w H) | (refine StN_gate ?_; refine xN ?_; clear H; intro w H) | (refine Kept_gate ?_; refine xK ?_) | (refine Ar_gate ?_; first | (fail_if_success skip) | refine xA ?_) | (refine Eqv_in ?_) | refine Do_ptr_eq_nil tok rfl ?_ | refine Do_ptr_ne_nil tok rfl ?_ | refine Do_nil_eq_nil tok rfl ?_ | refine Nn_in (by omega) ?_ | refine Nz_in (by omega) ?_))
  refine Call_of (fRight (xs := [262145]) (H.srcCM 1 1 (.head _) rfl (by decide)) (by decide)) ?_
  rintro _ _ ⟨rfl, rfl⟩
  rw [show [262145].all Lit.one = false from by decide]
  (repeat ((try conv => whnf); first | refine Join_dup ?_ | (refine Br_gate ?_; first | with_reducible refine Br_not ?_ | refine xB ?_ | refine xC ?_) | (refine Ld_gate ?_; refine xL ?_) | (refine LdN_gate ?_; refine xM ?_) | (refine St_gate ?_; refine xS ?_; clear H; intro w H) | (refine StN_gate ?_; refine xN ?_; clear H; intro w H) | (refine Kept_gate ?_; refine xK ?_) | (refine Ar_gate ?_; first | (fail_if_success skip) | refine xA ?_) | (refine Eqv_in ?_) | refine Do_ptr_eq_nil tok rfl ?_ | refine Do_ptr_ne_nil tok rfl ?_ | refine Do_nil_eq_nil tok rfl ?_ | refine Nn_in (by omega) ?_ | refine Nz_in (by omega) ?_))
  refine Call_of (fNot (x := -2147483648) w) ?_
  rintro _ _ ⟨rfl, rfl⟩
  rw [show notL (-2147483648) = 0 from by decide]
  (repeat ((try conv => whnf); first | refine Join_dup ?_ | (refine Br_gate ?_; first | with_reducible refine Br_not ?_ | refine xB ?_ | refine xC ?_) | (refine Ld_gate ?_; refine xL ?_) | (refine LdN_gate ?_; refine xM ?_) | (refine St_gate ?_; refine xS ?_; clear H; intro w H) | (refine StN_gate ?_; refine xN ?_; clear H; intro w H) | (refine Kept_gate ?_; refine xK ?_) | (refine Ar_gate ?_; first | (fail_if_success skip) | refine xA ?_) | (refine Eqv_in ?_) | refine Do_ptr_eq_nil tok rfl ?_ | refine Do_ptr_ne_nil tok rfl ?_ | refine Do_nil_eq_nil tok rfl ?_ | refine Nn_in (by omega) ?_ | refine Nz_in (by omega) ?_))
  refine Call_of (fAt (p := 1) (by decide) (by decide) w) ?_
  rintro _ _ ⟨rfl, rfl⟩
  rw [show at_ 1 = 0 from by decide]
  (repeat ((try conv => whnf); first | refine Join_dup ?_ | (refine Br_gate ?_; first | with_reducible refine Br_not ?_ | refine xB ?_ | refine xC ?_) | (refine Ld_gate ?_; refine xL ?_) | (refine LdN_gate ?_; refine xM ?_) | (refine St_gate ?_; refine xS ?_; clear H; intro w H) | (refine StN_gate ?_; refine xN ?_; clear H; intro w H) | (refine Kept_gate ?_; refine xK ?_) | (refine Ar_gate ?_; first | (fail_if_success skip) | refine xA ?_) | (refine Eqv_in ?_) | refine Do_ptr_eq_nil tok rfl ?_ | refine Do_ptr_ne_nil tok rfl ?_ | refine Do_nil_eq_nil tok rfl ?_ | refine Nn_in (by omega) ?_ | refine Nz_in (by omega) ?_))
  refine Call_of (fAt (p := 3) (by decide) (by decide) w) ?_
  rintro _ _ ⟨rfl, rfl⟩
  rw [show at_ 3 = -1 from by decide]
  (repeat ((try conv => whnf); first | refine Join_dup ?_ | (refine Br_gate ?_; first | with_reducible refine Br_not ?_ | refine xB ?_ | refine xC ?_) | (refine Ld_gate ?_; refine xL ?_) | (refine LdN_gate ?_; refine xM ?_) | (refine St_gate ?_; refine xS ?_; clear H; intro w H) | (refine StN_gate ?_; refine xN ?_; clear H; intro w H) | (refine Kept_gate ?_; refine xK ?_) | (refine Ar_gate ?_; first | (fail_if_success skip) | refine xA ?_) | (refine Eqv_in ?_) | refine Do_ptr_eq_nil tok rfl ?_ | refine Do_ptr_ne_nil tok rfl ?_ | refine Do_nil_eq_nil tok rfl ?_ | refine Nn_in (by omega) ?_ | refine Nz_in (by omega) ?_))
  exact Ret_in ⟨rfl, H.all⟩
end
end Go.Proofs.Ytmkjajeanjidkaa
