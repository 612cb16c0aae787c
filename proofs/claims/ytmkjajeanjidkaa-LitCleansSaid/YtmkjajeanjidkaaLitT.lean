/- The laws' functions: turned. -/
import Derived.Test.YtmkjajeanjidkaaLitV
set_option linter.unusedVariables false
set_option linter.unusedSimpArgs false
namespace Go.Lit
theorem nodup_len : ∀ {l l' : List Int}, l.Nodup → (∀ x ∈ l, x ∈ l') → l.length ≤ l'.length
  | [], _, _, _ => Nat.zero_le _
  | x :: l, l', h, hs => by
    rw [List.nodup_cons] at h
    have hx := hs x (List.mem_cons_self ..)
    have := nodup_len (l := l) (l' := l'.erase x) h.2 fun y hy => by
      have hne : y ≠ x := fun e => h.1 (e ▸ hy)
      exact (List.mem_erase_of_ne hne).2 (hs y (List.mem_cons_of_mem _ hy))
    rw [List.length_erase_of_mem hx] at this
    have hp := List.length_pos_of_mem hx
    rw [List.length_cons]
    omega
theorem Clean.nodup {xs out : List Int} (h : Clean xs out) : out.Nodup := by
  refine h.asc.imp fun hab e => ?_
  rw [e] at hab
  omega
theorem clean_len {xs ys a b : List Int} {f : Int → Int} (hf : ∀ x, f (f x) = x) (ha : Clean xs a) (hb : Clean ys b) (h : ∀ x, x ∈ ys ↔ f x ∈ xs) : a.length = b.length := by
  have inj : ∀ x y, f x = f y → x = y := fun x y e => by rw [← hf x, e, hf]
  have key : ∀ {l : List Int}, l.Nodup → (l.map f).Nodup := by
    intro l hl
    rw [List.nodup_iff_pairwise_ne, List.pairwise_map]
    exact hl.imp fun hne e => hne (inj _ _ e)
  apply Nat.le_antisymm
  · have := nodup_len (key ha.nodup) (l' := b) fun x hx => by
      obtain ⟨y, hy, rfl⟩ := List.mem_map.1 hx
      rw [hb.mem, h, hf]
      exact (ha.mem _).1 hy
    rwa [List.length_map] at this
  · have := nodup_len (key hb.nodup) (l' := a) fun x hx => by
      obtain ⟨y, hy, rfl⟩ := List.mem_map.1 hx
      rw [ha.mem, ← h]
      exact (hb.mem _).1 hy
    rwa [List.length_map] at this
theorem notL_one {x : Int} (h : one x = true) : notL x = -x := by unfold notL; rw [h]; rfl
theorem turned_mem {xs : List Int} (h : xs.all one = true) (x : Int) : x ∈ xs.reverse.map notL ↔ -x ∈ xs := by
  rw [List.all_eq_true] at h
  rw [List.mem_map]
  constructor
  · rintro ⟨y, hy, rfl⟩
    rw [List.mem_reverse] at hy
    rw [notL_one (h y hy), Int.neg_neg]
    exact hy
  · intro hx
    exact ⟨-x, List.mem_reverse.2 hx, by rw [notL_one (h _ hx), Int.neg_neg]⟩
theorem turned_all {xs : List Int} : (xs.reverse.map notL).all one = xs.all one := by
  rw [Bool.eq_iff_iff, List.all_eq_true, List.all_eq_true]
  constructor
  · intro h x hx
    have := h (notL x) (List.mem_map.2 ⟨x, List.mem_reverse.2 hx, rfl⟩)
    unfold notL at this
    split at this
    · assumption
    · cases this
  · intro h x hx
    obtain ⟨y, hy, rfl⟩ := List.mem_map.1 hx
    have := h y (List.mem_reverse.1 hy)
    rw [notL_one this, one_neg]
    exact this
theorem turned_both {xs : List Int} (h : xs.all one = true) : bothB (xs.reverse.map notL) = bothB xs := by
  rw [Bool.eq_iff_iff, bothB_iff, bothB_iff]
  constructor
  · rintro ⟨x, h1, h2⟩
    rw [turned_mem h] at h1 h2
    exact ⟨-x, h1, h2⟩
  · rintro ⟨x, h1, h2⟩
    refine ⟨x, ?_, ?_⟩
    · rw [turned_mem h]; exact h2
    · rw [turned_mem h, Int.neg_neg]; exact h1
end Go.Lit
namespace Go.Proofs.Ytmkjajeanjidkaa
open Go Go.Vc Go.Lit
set_option maxHeartbeats 4000000
set_option maxRecDepth 100000

section
variable {w0 w : World} {l : List Res}

theorem fCleanN {xs : List Int} {a : Option Addr} {c n : Nat} (hn : xs.length = n) (H : Sep w0 w l) (hs : Src w a n 1 (xs.map lV)) (hm : n ≤ 1000000000) : Does Try.prog 11 #[.slice a n c] w fun v w' =>
    ∃ a' c' out, v = .tuple #[.slice a' out.length c', .bool (xs.all Lit.one && bothB xs), .int .i64 (numE (xs.all Lit.one))] ∧ CleanOf (xs.all Lit.one) xs out ∧ out.length ≤ xs.length ∧ Sep w0 w' (ownR a' out.length c' 34 1 (out.map lV) :: l) := by
  subst hn
  exact fCleanA H hs hm

theorem uTurns {W : World} {xs : List Int} {a : Option Addr} {c : Nat} (hs : Src W a xs.length 1 (xs.map lV)) (hm : xs.length ≤ 9223372036854775807) : Does Try.prog 9 #[.slice a xs.length c] W fun v w' => v = .bool true ∧ Sep W w' [] := by
  have H := Sep.nil W
  refine Does_intro tok (Try.call9 _ _) Try.func9 rfl (by rfl) ?_
  (repeat ((try conv => whnf); first | refine Join_dup ?_ | (refine Br_gate ?_; first | with_reducible refine Br_not ?_ | refine xB ?_ | refine xC ?_) | (refine Ld_gate ?_; refine xL ?_) | (refine LdN_gate ?_; refine xM ?_) | (refine St_gate ?_; refine xS ?_; clear H; intro w H) | (refine StN_gate ?_; refine xN ?_; clear H; intro w H) | (refine Kept_gate ?_; refine xK ?_) | (refine Ar_gate ?_; first | (fail_if_success skip) | refine xA ?_) | (refine Eqv_in ?_) | refine Do_ptr_eq_nil tok rfl ?_ | refine Do_ptr_ne_nil tok rfl ?_ | refine Do_nil_eq_nil tok rfl ?_ | refine Nn_in (by omega) ?_ | refine Nz_in (by omega) ?_))
  refine Call_of (uAlive H) ?_
  clear H
  rintro _ w ⟨rfl, H⟩
  by_cases hl : 40 < xs.length
  · (repeat ((try conv => whnf); first | refine Join_dup ?_ | (refine Br_gate ?_; first | with_reducible refine Br_not ?_ | refine xB ?_ | refine xC ?_) | (refine Ld_gate ?_; refine xL ?_) | (refine LdN_gate ?_; refine xM ?_) | (refine St_gate ?_; refine xS ?_; clear H; intro w H) | (refine StN_gate ?_; refine xN ?_; clear H; intro w H) | (refine Kept_gate ?_; refine xK ?_) | (refine Ar_gate ?_; first | (fail_if_success skip) | refine xA ?_) | (refine Eqv_in ?_) | refine Do_ptr_eq_nil tok rfl ?_ | refine Do_ptr_ne_nil tok rfl ?_ | refine Do_nil_eq_nil tok rfl ?_ | refine Nn_in (by omega) ?_ | refine Nz_in (by omega) ?_))
    exact Ret_in ⟨rfl, H⟩
  (repeat ((try conv => whnf); first | refine Join_dup ?_ | (refine Br_gate ?_; first | with_reducible refine Br_not ?_ | refine xB ?_ | refine xC ?_) | (refine Ld_gate ?_; refine xL ?_) | (refine LdN_gate ?_; refine xM ?_) | (refine St_gate ?_; refine xS ?_; clear H; intro w H) | (refine StN_gate ?_; refine xN ?_; clear H; intro w H) | (refine Kept_gate ?_; refine xK ?_) | (refine Ar_gate ?_; first | (fail_if_success skip) | refine xA ?_) | (refine Eqv_in ?_) | refine Do_ptr_eq_nil tok rfl ?_ | refine Do_ptr_ne_nil tok rfl ?_ | refine Do_nil_eq_nil tok rfl ?_ | refine Nn_in (by omega) ?_ | refine Nz_in (by omega) ?_))
  refine Call_of (fCleanA H (H.rd hs) (by omega)) ?_
  clear H
  rintro _ w ⟨a1, c1, o1, rfl, hcl1, hol1, H⟩
  (repeat ((try conv => whnf); first | refine Join_dup ?_ | (refine Br_gate ?_; first | with_reducible refine Br_not ?_ | refine xB ?_ | refine xC ?_) | (refine Ld_gate ?_; refine xL ?_) | (refine LdN_gate ?_; refine xM ?_) | (refine St_gate ?_; refine xS ?_; clear H; intro w H) | (refine StN_gate ?_; refine xN ?_; clear H; intro w H) | (refine Kept_gate ?_; refine xK ?_) | (refine Ar_gate ?_; first | (fail_if_success skip) | refine xA ?_) | (refine Eqv_in ?_) | refine Do_ptr_eq_nil tok rfl ?_ | refine Do_ptr_ne_nil tok rfl ?_ | refine Do_nil_eq_nil tok rfl ?_ | refine Nn_in (by omega) ?_ | refine Nz_in (by omega) ?_))
  (refine Nw_sep H ?_; clear H; intro bb w H; (try simp only [Value.cells, List.toList_toArray, List.append_nil, List.cons_append, List.nil_append] at H))
  replace H := H.row 0 0 1 rfl rfl (by decide) (by simp only [List.set_cons_succ, List.set_cons_zero]; rfl)
  (repeat ((try conv => whnf); first | refine Join_dup ?_ | (refine Br_gate ?_; first | with_reducible refine Br_not ?_ | refine xB ?_ | refine xC ?_) | (refine Ld_gate ?_; refine xL ?_) | (refine LdN_gate ?_; refine xM ?_) | (refine St_gate ?_; refine xS ?_; clear H; intro w H) | (refine StN_gate ?_; refine xN ?_; clear H; intro w H) | (refine Kept_gate ?_; refine xK ?_) | (refine Ar_gate ?_; first | (fail_if_success skip) | refine xA ?_) | (refine Eqv_in ?_) | refine Do_ptr_eq_nil tok rfl ?_ | refine Do_ptr_ne_nil tok rfl ?_ | refine Do_nil_eq_nil tok rfl ?_ | refine Nn_in (by omega) ?_ | refine Nz_in (by omega) ?_))
  (refine Nw_sep H ?_; clear H; intro tb w H; (try simp only [Value.cells, List.toList_toArray, List.append_nil, List.cons_append, List.nil_append] at H))
  replace H := H.row 0 0 1 rfl rfl (by decide) (by simp only [List.set_cons_succ, List.set_cons_zero]; rfl)
  (repeat ((try conv => whnf); first | refine Join_dup ?_ | (refine Br_gate ?_; first | with_reducible refine Br_not ?_ | refine xB ?_ | refine xC ?_) | (refine Ld_gate ?_; refine xL ?_) | (refine LdN_gate ?_; refine xM ?_) | (refine St_gate ?_; refine xS ?_; clear H; intro w H) | (refine StN_gate ?_; refine xN ?_; clear H; intro w H) | (refine Kept_gate ?_; refine xK ?_) | (refine Ar_gate ?_; first | (fail_if_success skip) | refine xA ?_) | (refine Eqv_in ?_) | refine Do_ptr_eq_nil tok rfl ?_ | refine Do_ptr_ne_nil tok rfl ?_ | refine Do_nil_eq_nil tok rfl ?_ | refine Nn_in (by omega) ?_ | refine Nz_in (by omega) ?_))
  have hrl : xs.reverse.length = xs.length := List.length_reverse
  refine Loop_intro (fun s : Nat × (Option Addr × Nat) × (Option Addr × Nat) => [(8, .int .i64 ((xs.length : Int) - 1 - (s.1 : Int))), (6, .slice s.2.1.1 s.1 s.2.1.2), (7, .slice s.2.2.1 s.1 s.2.2.2)])
    (fun s w => s.1 ≤ xs.length ∧ Sep W w (ownR s.2.2.1 s.1 s.2.2.2 34 1 (((xs.reverse.take s.1).map notL).map lV) :: ownR s.2.1.1 s.1 s.2.1.2 34 1 ((xs.reverse.take s.1).map lV) :: ownR a1 o1.length c1 34 1 (o1.map lV) :: [])) (fun s => xs.length - s.1) (0, (_, _), (_, _)) ⟨congrArg some (vint (by simp)), rfl, rfl, trivial⟩ ⟨Nat.zero_le _, H⟩ ?_
  clear H
  rintro ⟨k, ⟨a2, c2⟩, ⟨a3, c3⟩⟩ w ⟨hi, H⟩
  simp only [] at hi H ⊢
  (repeat ((try conv => whnf); first | refine Join_dup ?_ | (refine Br_gate ?_; first | with_reducible refine Br_not ?_ | refine xB ?_ | refine xC ?_) | (refine Ld_gate ?_; refine xL ?_) | (refine LdN_gate ?_; refine xM ?_) | (refine St_gate ?_; refine xS ?_; clear H; intro w H) | (refine StN_gate ?_; refine xN ?_; clear H; intro w H) | (refine Kept_gate ?_; refine xK ?_) | (refine Ar_gate ?_; first | (fail_if_success skip) | refine xA ?_) | (refine Eqv_in ?_) | refine Do_ptr_eq_nil tok rfl ?_ | refine Do_ptr_ne_nil tok rfl ?_ | refine Do_nil_eq_nil tok rfl ?_ | refine Nn_in (by omega) ?_ | refine Nz_in (by omega) ?_))
  refine Br_dec (fun k1 => ?_) (fun k1 => ?_)
  · have hlt : k < xs.length := by omega
    have hs2 := H.rd hs
    obtain ⟨b1, ob1, rfl⟩ := hs2.addr (by rw [List.length_map]; omega)
    have hx : xs[xs.length - 1 - k]? = some xs[xs.length - 1 - k] := List.getElem?_eq_getElem (by omega)
    have hxr : xs.reverse[k]? = some xs[xs.length - 1 - k] := by rw [List.getElem?_reverse hlt, hx]
    generalize xs[xs.length - 1 - k] = x at *
    have e1 : (xs.reverse.take k).map lV ++ [lV x] = (xs.reverse.take (k + 1)).map lV := by rw [List.take_add_one, hxr]; simp
    have e2 : ((xs.reverse.take k).map notL).map lV ++ [lV (notL x)] = ((xs.reverse.take (k + 1)).map notL).map lV := by rw [List.take_add_one, hxr]; simp
    (repeat ((try conv => whnf); first | refine Join_dup ?_ | (refine Br_gate ?_; first | with_reducible refine Br_not ?_ | refine xB ?_ | refine xC ?_) | (refine Ld_gate ?_; refine xL ?_) | (refine LdN_gate ?_; refine xM ?_) | (refine St_gate ?_; refine xS ?_; clear H; intro w H) | (refine StN_gate ?_; refine xN ?_; clear H; intro w H) | (refine Kept_gate ?_; refine xK ?_) | (refine Ar_gate ?_; first | (fail_if_success skip) | refine xA ?_) | (refine Eqv_in ?_) | refine Do_ptr_eq_nil tok rfl ?_ | refine Do_ptr_ne_nil tok rfl ?_ | refine Do_nil_eq_nil tok rfl ?_ | refine Nn_in (by omega) ?_ | refine Nz_in (by omega) ?_))
    refine Ix_in (xs.length - 1 - k) (by omega) (by omega) ?_
    refine Ld_src (j := xs.length - 1 - k) hs2 (v := lV x) (by rw [List.getElem?_map, hx]; rfl) ?_
    (repeat ((try conv => whnf); first | refine Join_dup ?_ | (refine Br_gate ?_; first | with_reducible refine Br_not ?_ | refine xB ?_ | refine xC ?_) | (refine Ld_gate ?_; refine xL ?_) | (refine LdN_gate ?_; refine xM ?_) | (refine St_gate ?_; refine xS ?_; clear H; intro w H) | (refine StN_gate ?_; refine xN ?_; clear H; intro w H) | (refine Kept_gate ?_; refine xK ?_) | (refine Ar_gate ?_; first | (fail_if_success skip) | refine xA ?_) | (refine Eqv_in ?_) | refine Do_ptr_eq_nil tok rfl ?_ | refine Do_ptr_ne_nil tok rfl ?_ | refine Do_nil_eq_nil tok rfl ?_ | refine Nn_in (by omega) ?_ | refine Nz_in (by omega) ?_))
    (refine Nw_sep H ?_; clear H; intro nb1 w H; (try simp only [Value.cells, List.toList_toArray, List.append_nil, List.cons_append, List.nil_append] at H))
    (repeat ((try conv => whnf); first | refine Join_dup ?_ | (refine Br_gate ?_; first | with_reducible refine Br_not ?_ | refine xB ?_ | refine xC ?_) | (refine Ld_gate ?_; refine xL ?_) | (refine LdN_gate ?_; refine xM ?_) | (refine St_gate ?_; refine xS ?_; clear H; intro w H) | (refine StN_gate ?_; refine xN ?_; clear H; intro w H) | (refine Kept_gate ?_; refine xK ?_) | (refine Ar_gate ?_; first | (fail_if_success skip) | refine xA ?_) | (refine Eqv_in ?_) | refine Do_ptr_eq_nil tok rfl ?_ | refine Do_ptr_ne_nil tok rfl ?_ | refine Do_nil_eq_nil tok rfl ?_ | refine Nn_in (by omega) ?_ | refine Nz_in (by omega) ?_))
    (refine DoN_gate ?_; refine append_one tok H rfl rfl rfl rfl rfl (by decide) (by repeat first | exact List.Mem.head _ | refine List.Mem.tail _ ?_) (m := 1) rfl (by simp [oneCell]) (by omega) (by unfold maxLen; omega) ?_; clear H; intro a4 c4 w H; replace H := H _ (by repeat first | exact Upd.head | apply Upd.tail))
    (repeat ((try conv => whnf); first | refine Join_dup ?_ | (refine Br_gate ?_; first | with_reducible refine Br_not ?_ | refine xB ?_ | refine xC ?_) | (refine Ld_gate ?_; refine xL ?_) | (refine LdN_gate ?_; refine xM ?_) | (refine St_gate ?_; refine xS ?_; clear H; intro w H) | (refine StN_gate ?_; refine xN ?_; clear H; intro w H) | (refine Kept_gate ?_; refine xK ?_) | (refine Ar_gate ?_; first | (fail_if_success skip) | refine xA ?_) | (refine Eqv_in ?_) | refine Do_ptr_eq_nil tok rfl ?_ | refine Do_ptr_ne_nil tok rfl ?_ | refine Do_nil_eq_nil tok rfl ?_ | refine Nn_in (by omega) ?_ | refine Nz_in (by omega) ?_))
    refine Ix_in (xs.length - 1 - k) (by omega) (by omega) ?_
    refine Ld_src (j := xs.length - 1 - k) (H.rd hs) (v := lV x) (by rw [List.getElem?_map, hx]; rfl) ?_
    (repeat ((try conv => whnf); first | refine Join_dup ?_ | (refine Br_gate ?_; first | with_reducible refine Br_not ?_ | refine xB ?_ | refine xC ?_) | (refine Ld_gate ?_; refine xL ?_) | (refine LdN_gate ?_; refine xM ?_) | (refine St_gate ?_; refine xS ?_; clear H; intro w H) | (refine StN_gate ?_; refine xN ?_; clear H; intro w H) | (refine Kept_gate ?_; refine xK ?_) | (refine Ar_gate ?_; first | (fail_if_success skip) | refine xA ?_) | (refine Eqv_in ?_) | refine Do_ptr_eq_nil tok rfl ?_ | refine Do_ptr_ne_nil tok rfl ?_ | refine Do_nil_eq_nil tok rfl ?_ | refine Nn_in (by omega) ?_ | refine Nz_in (by omega) ?_))
    refine Call_of (fNot w) ?_
    rintro _ _ ⟨rfl, rfl⟩
    (repeat ((try conv => whnf); first | refine Join_dup ?_ | (refine Br_gate ?_; first | with_reducible refine Br_not ?_ | refine xB ?_ | refine xC ?_) | (refine Ld_gate ?_; refine xL ?_) | (refine LdN_gate ?_; refine xM ?_) | (refine St_gate ?_; refine xS ?_; clear H; intro w H) | (refine StN_gate ?_; refine xN ?_; clear H; intro w H) | (refine Kept_gate ?_; refine xK ?_) | (refine Ar_gate ?_; first | (fail_if_success skip) | refine xA ?_) | (refine Eqv_in ?_) | refine Do_ptr_eq_nil tok rfl ?_ | refine Do_ptr_ne_nil tok rfl ?_ | refine Do_nil_eq_nil tok rfl ?_ | refine Nn_in (by omega) ?_ | refine Nz_in (by omega) ?_))
    (refine Nw_sep H ?_; clear H; intro nb2 w H; (try simp only [Value.cells, List.toList_toArray, List.append_nil, List.cons_append, List.nil_append] at H))
    (repeat ((try conv => whnf); first | refine Join_dup ?_ | (refine Br_gate ?_; first | with_reducible refine Br_not ?_ | refine xB ?_ | refine xC ?_) | (refine Ld_gate ?_; refine xL ?_) | (refine LdN_gate ?_; refine xM ?_) | (refine St_gate ?_; refine xS ?_; clear H; intro w H) | (refine StN_gate ?_; refine xN ?_; clear H; intro w H) | (refine Kept_gate ?_; refine xK ?_) | (refine Ar_gate ?_; first | (fail_if_success skip) | refine xA ?_) | (refine Eqv_in ?_) | refine Do_ptr_eq_nil tok rfl ?_ | refine Do_ptr_ne_nil tok rfl ?_ | refine Do_nil_eq_nil tok rfl ?_ | refine Nn_in (by omega) ?_ | refine Nz_in (by omega) ?_))
    (refine DoN_gate ?_; refine append_one tok H rfl rfl rfl rfl rfl (by decide) (by repeat first | exact List.Mem.head _ | refine List.Mem.tail _ ?_) (m := 1) rfl (by simp [oneCell]) (by omega) (by unfold maxLen; omega) ?_; clear H; intro a5 c5 w H; replace H := H _ (by repeat first | exact Upd.head | apply Upd.tail))
    (repeat ((try conv => whnf); first | refine Join_dup ?_ | (refine Br_gate ?_; first | with_reducible refine Br_not ?_ | refine xB ?_ | refine xC ?_) | (refine Ld_gate ?_; refine xL ?_) | (refine LdN_gate ?_; refine xM ?_) | (refine St_gate ?_; refine xS ?_; clear H; intro w H) | (refine StN_gate ?_; refine xN ?_; clear H; intro w H) | (refine Kept_gate ?_; refine xK ?_) | (refine Ar_gate ?_; first | (fail_if_success skip) | refine xA ?_) | (refine Eqv_in ?_) | refine Do_ptr_eq_nil tok rfl ?_ | refine Do_ptr_ne_nil tok rfl ?_ | refine Do_nil_eq_nil tok rfl ?_ | refine Nn_in (by omega) ?_ | refine Nz_in (by omega) ?_))
    rw [e1, e2] at H
    exact ⟨(k + 1, (a4, c4), (a5, c5)), ⟨congrArg some (vint (by simp; omega)), rfl, rfl, trivial⟩, ⟨by simp; omega, H⟩, by simp; omega⟩
  obtain rfl : k = xs.length := by omega
  rw [← hrl, List.take_length] at H
  rw [hrl] at H
  have htl : (xs.reverse.map notL).length = xs.length := by rw [List.length_map, hrl]
  have r1 : xs.reverse.all Lit.one = xs.all Lit.one := all_congr fun x => List.mem_reverse
  have r2 := turned_all (xs := xs)
  have r3 : bothB xs.reverse = bothB xs := bothB_congr fun x => List.mem_reverse
  (repeat ((try conv => whnf); first | refine Join_dup ?_ | (refine Br_gate ?_; first | with_reducible refine Br_not ?_ | refine xB ?_ | refine xC ?_) | (refine Ld_gate ?_; refine xL ?_) | (refine LdN_gate ?_; refine xM ?_) | (refine St_gate ?_; refine xS ?_; clear H; intro w H) | (refine StN_gate ?_; refine xN ?_; clear H; intro w H) | (refine Kept_gate ?_; refine xK ?_) | (refine Ar_gate ?_; first | (fail_if_success skip) | refine xA ?_) | (refine Eqv_in ?_) | refine Do_ptr_eq_nil tok rfl ?_ | refine Do_ptr_ne_nil tok rfl ?_ | refine Do_nil_eq_nil tok rfl ?_ | refine Nn_in (by omega) ?_ | refine Nz_in (by omega) ?_))
  refine Call_of (fCleanN (xs := xs.reverse) hrl H (H.srcM (by repeat first | exact List.Mem.head _ | refine List.Mem.tail _ ?_)) (by omega)) ?_
  clear H
  rintro _ w ⟨a4, c4, o2, rfl, hcl2, hol2, H⟩
  rw [r1, r3]
  rw [r1] at hcl2
  obtain rfl : o1 = o2 := CleanOf.same hcl1 hcl2 fun x => List.mem_reverse.symm
  (repeat ((try conv => whnf); first | refine Join_dup ?_ | (refine Br_gate ?_; first | with_reducible refine Br_not ?_ | refine xB ?_ | refine xC ?_) | (refine Ld_gate ?_; refine xL ?_) | (refine LdN_gate ?_; refine xM ?_) | (refine St_gate ?_; refine xS ?_; clear H; intro w H) | (refine StN_gate ?_; refine xN ?_; clear H; intro w H) | (refine Kept_gate ?_; refine xK ?_) | (refine Ar_gate ?_; first | (fail_if_success skip) | refine xA ?_) | (refine Eqv_in ?_) | refine Do_ptr_eq_nil tok rfl ?_ | refine Do_ptr_ne_nil tok rfl ?_ | refine Do_nil_eq_nil tok rfl ?_ | refine Nn_in (by omega) ?_ | refine Nz_in (by omega) ?_))
  refine Call_of (fCleanA H (H.srcM (n := o1.length) (by repeat first | exact List.Mem.head _ | refine List.Mem.tail _ ?_)) (by omega)) ?_
  clear H
  rintro _ w ⟨a5, c5, o3, rfl, hcl3, hol3, H⟩
  (repeat ((try conv => whnf); first | refine Join_dup ?_ | (refine Br_gate ?_; first | with_reducible refine Br_not ?_ | refine xB ?_ | refine xC ?_) | (refine Ld_gate ?_; refine xL ?_) | (refine LdN_gate ?_; refine xM ?_) | (refine St_gate ?_; refine xS ?_; clear H; intro w H) | (refine StN_gate ?_; refine xN ?_; clear H; intro w H) | (refine Kept_gate ?_; refine xK ?_) | (refine Ar_gate ?_; first | (fail_if_success skip) | refine xA ?_) | (refine Eqv_in ?_) | refine Do_ptr_eq_nil tok rfl ?_ | refine Do_ptr_ne_nil tok rfl ?_ | refine Do_nil_eq_nil tok rfl ?_ | refine Nn_in (by omega) ?_ | refine Nz_in (by omega) ?_))
  refine Call_of (fCleanN (xs := xs.reverse.map notL) htl H (H.srcM (by repeat first | exact List.Mem.head _ | refine List.Mem.tail _ ?_)) (by omega)) ?_
  clear H
  rintro _ w ⟨a6, c6, o4, rfl, hcl4, hol4, H⟩
  rw [r2]
  rw [r2] at hcl4
  cases hok : xs.all Lit.one with
  | false =>
    rw [hok] at hcl1 hcl4
    have z1 : o1 = [] := by rcases hcl1 with ⟨h, _⟩ | ⟨_, h⟩; · cases h
                            · exact h
    have z4 : o4 = [] := by rcases hcl4 with ⟨h, _⟩ | ⟨_, h⟩; · cases h
                            · exact h
    subst z1 z4
    rw [show numE false = 11 from rfl, show numE (([] : List Int).all Lit.one) = 0 from rfl]
    (repeat ((try conv => whnf); first | refine Join_dup ?_ | (refine Br_gate ?_; first | with_reducible refine Br_not ?_ | refine xB ?_ | refine xC ?_) | (refine Ld_gate ?_; refine xL ?_) | (refine LdN_gate ?_; refine xM ?_) | (refine St_gate ?_; refine xS ?_; clear H; intro w H) | (refine StN_gate ?_; refine xN ?_; clear H; intro w H) | (refine Kept_gate ?_; refine xK ?_) | (refine Ar_gate ?_; first | (fail_if_success skip) | refine xA ?_) | (refine Eqv_in ?_) | refine Do_ptr_eq_nil tok rfl ?_ | refine Do_ptr_ne_nil tok rfl ?_ | refine Do_nil_eq_nil tok rfl ?_ | refine Nn_in (by omega) ?_ | refine Nz_in (by omega) ?_))
    exact Ret_in ⟨vbool rfl, H.all⟩
  | true =>
    have ho1 := List.all_eq_true.1 hok
    rw [hok] at hcl1 hcl4
    have q1 : Lit.Clean xs o1 := by rcases hcl1 with ⟨_, _, h⟩ | ⟨h, _⟩; · exact h
                                    · cases h
    have q4 : Lit.Clean (xs.reverse.map notL) o4 := by rcases hcl4 with ⟨_, _, h⟩ | ⟨h, _⟩; · exact h
                                                       · cases h
    have q2 : o1.all Lit.one = true := by rw [clean_one q1, hok]
    rw [q2] at hcl3
    have q3 : Lit.Clean o1 o3 := by rcases hcl3 with ⟨_, _, h⟩ | ⟨h, _⟩; · exact h
                                    · cases h
    obtain rfl : o3 = o1 := Clean.same (List.all_eq_true.1 q2) q3 q1 q1.mem
    have q5 : bothB o3 = bothB xs := bothB_congr q1.mem
    have q6 := turned_both hok
    have q7 : o3.length = o4.length := clean_len (f := fun x => -x) (fun x => Int.neg_neg x) q1 q4 (turned_mem hok)
    have q8 : (o3.all fun x => decide (x ∈ xs)) = true := List.all_eq_true.2 fun x hx => decide_eq_true ((q1.mem x).1 hx)
    have q9 : (xs.all fun x => decide (x ∈ o3)) = true := List.all_eq_true.2 fun x hx => decide_eq_true ((q1.mem x).2 hx)
    rw [q2, q5, q6, show numE true = 0 from rfl]
    (repeat ((try conv => whnf); first | refine Join_dup ?_ | (refine Br_gate ?_; first | with_reducible refine Br_not ?_ | refine xB ?_ | refine xC ?_) | (refine Ld_gate ?_; refine xL ?_) | (refine LdN_gate ?_; refine xM ?_) | (refine St_gate ?_; refine xS ?_; clear H; intro w H) | (refine StN_gate ?_; refine xN ?_; clear H; intro w H) | (refine Kept_gate ?_; refine xK ?_) | (refine Ar_gate ?_; first | (fail_if_success skip) | refine xA ?_) | (refine Eqv_in ?_) | refine Do_ptr_eq_nil tok rfl ?_ | refine Do_ptr_ne_nil tok rfl ?_ | refine Do_nil_eq_nil tok rfl ?_ | refine Nn_in (by omega) ?_ | refine Nz_in (by omega) ?_))
    refine Call_of (rSameH H (H.srcM (by repeat first | exact List.Mem.head _ | refine List.Mem.tail _ ?_)) (H.srcM (by repeat first | exact List.Mem.head _ | refine List.Mem.tail _ ?_)) (by omega)) ?_
    clear H
    rintro _ w ⟨rfl, H⟩
    rw [decide_eq_true rfl]
    (repeat ((try conv => whnf); first | refine Join_dup ?_ | (refine Br_gate ?_; first | with_reducible refine Br_not ?_ | refine xB ?_ | refine xC ?_) | (refine Ld_gate ?_; refine xL ?_) | (refine LdN_gate ?_; refine xM ?_) | (refine St_gate ?_; refine xS ?_; clear H; intro w H) | (refine StN_gate ?_; refine xN ?_; clear H; intro w H) | (refine Kept_gate ?_; refine xK ?_) | (refine Ar_gate ?_; first | (fail_if_success skip) | refine xA ?_) | (refine Eqv_in ?_) | refine Do_ptr_eq_nil tok rfl ?_ | refine Do_ptr_ne_nil tok rfl ?_ | refine Do_nil_eq_nil tok rfl ?_ | refine Nn_in (by omega) ?_ | refine Nz_in (by omega) ?_))
    refine Call_of (rSameH H (H.srcM (by repeat first | exact List.Mem.head _ | refine List.Mem.tail _ ?_)) (H.srcM (by repeat first | exact List.Mem.head _ | refine List.Mem.tail _ ?_)) (by omega)) ?_
    clear H
    rintro _ w ⟨rfl, H⟩
    rw [decide_eq_true rfl]
    (repeat ((try conv => whnf); first | refine Join_dup ?_ | (refine Br_gate ?_; first | with_reducible refine Br_not ?_ | refine xB ?_ | refine xC ?_) | (refine Ld_gate ?_; refine xL ?_) | (refine LdN_gate ?_; refine xM ?_) | (refine St_gate ?_; refine xS ?_; clear H; intro w H) | (refine StN_gate ?_; refine xN ?_; clear H; intro w H) | (refine Kept_gate ?_; refine xK ?_) | (refine Ar_gate ?_; first | (fail_if_success skip) | refine xA ?_) | (refine Eqv_in ?_) | refine Do_ptr_eq_nil tok rfl ?_ | refine Do_ptr_ne_nil tok rfl ?_ | refine Do_nil_eq_nil tok rfl ?_ | refine Nn_in (by omega) ?_ | refine Nz_in (by omega) ?_))
    refine Do_beq tok rfl (c := true) (beq_self_eq_true _) ?_
    (repeat ((try conv => whnf); first | refine Join_dup ?_ | (refine Br_gate ?_; first | with_reducible refine Br_not ?_ | refine xB ?_ | refine xC ?_) | (refine Ld_gate ?_; refine xL ?_) | (refine LdN_gate ?_; refine xM ?_) | (refine St_gate ?_; refine xS ?_; clear H; intro w H) | (refine StN_gate ?_; refine xN ?_; clear H; intro w H) | (refine Kept_gate ?_; refine xK ?_) | (refine Ar_gate ?_; first | (fail_if_success skip) | refine xA ?_) | (refine Eqv_in ?_) | refine Do_ptr_eq_nil tok rfl ?_ | refine Do_ptr_ne_nil tok rfl ?_ | refine Do_nil_eq_nil tok rfl ?_ | refine Nn_in (by omega) ?_ | refine Nz_in (by omega) ?_))
    refine Do_beq tok rfl (c := true) (beq_self_eq_true _) ?_
    (repeat ((try conv => whnf); first | refine Join_dup ?_ | (refine Br_gate ?_; first | with_reducible refine Br_not ?_ | refine xB ?_ | refine xC ?_) | (refine Ld_gate ?_; refine xL ?_) | (refine LdN_gate ?_; refine xM ?_) | (refine St_gate ?_; refine xS ?_; clear H; intro w H) | (refine StN_gate ?_; refine xN ?_; clear H; intro w H) | (refine Kept_gate ?_; refine xK ?_) | (refine Ar_gate ?_; first | (fail_if_success skip) | refine xA ?_) | (refine Eqv_in ?_) | refine Do_ptr_eq_nil tok rfl ?_ | refine Do_ptr_ne_nil tok rfl ?_ | refine Do_nil_eq_nil tok rfl ?_ | refine Nn_in (by omega) ?_ | refine Nz_in (by omega) ?_))
    refine Do_beq tok rfl (c := true) (beq_self_eq_true _) ?_
    (repeat ((try conv => whnf); first | refine Join_dup ?_ | (refine Br_gate ?_; first | with_reducible refine Br_not ?_ | refine xB ?_ | refine xC ?_) | (refine Ld_gate ?_; refine xL ?_) | (refine LdN_gate ?_; refine xM ?_) | (refine St_gate ?_; refine xS ?_; clear H; intro w H) | (refine StN_gate ?_; refine xN ?_; clear H; intro w H) | (refine Kept_gate ?_; refine xK ?_) | (refine Ar_gate ?_; first | (fail_if_success skip) | refine xA ?_) | (refine Eqv_in ?_) | refine Do_ptr_eq_nil tok rfl ?_ | refine Do_ptr_ne_nil tok rfl ?_ | refine Do_nil_eq_nil tok rfl ?_ | refine Nn_in (by omega) ?_ | refine Nz_in (by omega) ?_))
    refine Call_of (fWithin H (H.srcM (n := o3.length) (by repeat first | exact List.Mem.head _ | refine List.Mem.tail _ ?_)) (H.rd hs) (by unfold maxLen; omega) (by unfold maxLen; omega)) ?_
    clear H
    rintro _ w ⟨rfl, H⟩
    rw [q8]
    (repeat ((try conv => whnf); first | refine Join_dup ?_ | (refine Br_gate ?_; first | with_reducible refine Br_not ?_ | refine xB ?_ | refine xC ?_) | (refine Ld_gate ?_; refine xL ?_) | (refine LdN_gate ?_; refine xM ?_) | (refine St_gate ?_; refine xS ?_; clear H; intro w H) | (refine StN_gate ?_; refine xN ?_; clear H; intro w H) | (refine Kept_gate ?_; refine xK ?_) | (refine Ar_gate ?_; first | (fail_if_success skip) | refine xA ?_) | (refine Eqv_in ?_) | refine Do_ptr_eq_nil tok rfl ?_ | refine Do_ptr_ne_nil tok rfl ?_ | refine Do_nil_eq_nil tok rfl ?_ | refine Nn_in (by omega) ?_ | refine Nz_in (by omega) ?_))
    refine Call_of (fWithin H (H.rd hs) (H.srcM (n := o3.length) (by repeat first | exact List.Mem.head _ | refine List.Mem.tail _ ?_)) (by unfold maxLen; omega) (by unfold maxLen; omega)) ?_
    clear H
    rintro _ w ⟨rfl, H⟩
    rw [q9]
    (repeat ((try conv => whnf); first | refine Join_dup ?_ | (refine Br_gate ?_; first | with_reducible refine Br_not ?_ | refine xB ?_ | refine xC ?_) | (refine Ld_gate ?_; refine xL ?_) | (refine LdN_gate ?_; refine xM ?_) | (refine St_gate ?_; refine xS ?_; clear H; intro w H) | (refine StN_gate ?_; refine xN ?_; clear H; intro w H) | (refine Kept_gate ?_; refine xK ?_) | (refine Ar_gate ?_; first | (fail_if_success skip) | refine xA ?_) | (refine Eqv_in ?_) | refine Do_ptr_eq_nil tok rfl ?_ | refine Do_ptr_ne_nil tok rfl ?_ | refine Do_nil_eq_nil tok rfl ?_ | refine Nn_in (by omega) ?_ | refine Nz_in (by omega) ?_))
    exact Ret_in ⟨rfl, H.all⟩
end
end Go.Proofs.Ytmkjajeanjidkaa
