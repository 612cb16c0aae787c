/- The chapter's example; names. -/
import Derived.Test.YtodabklhbagljaaWatchF
set_option linter.unusedVariables false
set_option linter.unusedSimpArgs false
namespace Go.Watch
open Go.Trail
section
variable {S : Nat → Prop} {s : St}
theorem Good.find_at (hg : Good S s) {e : Ent} (he : e ∈ s.E) : find s.E (var e.lit) = some e := by
  have hl := (hg.inv.ok e he).1
  have hv : 0 < var e.lit := var_pos.2 hl
  cases hf : find s.E (var e.lit) with
  | none =>
    rw [find_none (by omega)] at hf
    exact (hf e he rfl).elim
  | some g =>
    obtain ⟨h1, h2, _⟩ := find_some hf
    have h3 : var g.lit = var e.lit := by omega
    congr 1
    obtain ⟨i, hi⟩ := List.getElem?_of_mem h1
    obtain ⟨j, hj⟩ := List.getElem?_of_mem he
    obtain ⟨hi1, hi2⟩ := List.getElem?_eq_some_iff.1 hi
    obtain ⟨hj1, hj2⟩ := List.getElem?_eq_some_iff.1 hj
    have ho := hg.inv.once
    rw [List.pairwise_iff_getElem] at ho
    rcases Nat.lt_trichotomy i j with hlt | heq | hgt
    · exact (ho i j hi1 hj1 hlt (by rw [hi2, hj2]; exact h3)).elim
    · subst heq; rw [← hi2, ← hj2]
    · exact (ho j i hj1 hi1 hgt (by rw [hi2, hj2]; exact h3.symm)).elim
end
def D1 : Int → Prop := fun y => False ∨ y = -1
theorem fo_alive : ∀ x, Fo (GamL [[1, 2]]) D1 x → x = -1 ∨ x = 2 := by
  intro x h
  induction h with
  | dec h => rcases h with h | h; exact h.elim; exact .inl h
  | @cls c x hc hx _ ih =>
    obtain ⟨k, hk, _, h3⟩ := hc
    simp at hk; subst hk
    have hx2 := (h3 x).1 hx
    simp at hx2
    rcases hx2 with rfl | rfl
    · have := ih 2 ((h3 2).2 (by simp)) (by decide)
      omega
    · exact .inr rfl
theorem no_alive : ¬ Conf (GamL [[1, 2]]) D1 := by
  rintro ⟨c, ⟨k, hk, _, h3⟩, h⟩
  simp at hk; subst hk
  have := fo_alive _ (h 2 ((h3 2).2 (by simp)))
  omega
theorem is_alive : Fo (GamL [[1, 2]]) D1 2 := .cls (c := [1, 2]) ⟨[1, 2], by simp, by decide, fun x => Iff.rfl⟩ (by simp) fun y hy hne => by
  simp at hy
  rcases hy with rfl | rfl
  · exact .dec (.inr rfl)
  · exact (hne rfl).elim
theorem fo_name : ∀ x, Fo (GamL [[1]]) (fun _ => False) x → x = 1 := by
  intro x h
  induction h with
  | dec h => exact h.elim
  | @cls c x hc hx _ ih =>
    obtain ⟨k, hk, _, h3⟩ := hc
    simp at hk; subst hk
    have hx2 := (h3 x).1 hx
    simpa using hx2
theorem no_name : ¬ Conf (GamL [[1]]) (fun _ => False) := by
  rintro ⟨c, ⟨k, hk, _, h3⟩, h⟩
  simp at hk; subst hk
  have := fo_name _ (h 1 ((h3 1).2 (by simp)))
  omega
theorem is_name : Fo (GamL [[1]]) (fun _ => False) 1 := .cls (c := [1]) ⟨[1], by simp, by decide, fun x => Iff.rfl⟩ (by simp) fun y hy hne => by
  simp at hy
  exact (hne hy).elim
theorem Out.fine_of {L : List (List Int)} {Δ : Int → Prop} {s : St} {z : Int} (h : Out L Δ s z) (hn : ¬ Conf (GamL L) Δ) : z = -1 ∧ (∀ x, tru s.E x ↔ Fo (GamL L) Δ x) ∧ s.h = s.E.length ∧ s.F = [] := by
  cases h with
  | fine _ h2 h3 h4 => exact ⟨rfl, h2, h3, h4⟩
  | bad id h => exact (hn h).elim
end Go.Watch
namespace Go.Proofs.Ytodabklhbagljaa
open Go Go.Vc Go.Watch
open Go.Trail (Ent value find upto okLit litsV)
set_option maxHeartbeats 4000000
set_option maxRecDepth 100000
section
variable {w0 w : World} {l : List Res} {eb : Nat} {s : St} {S : Nat → Prop} {n m : Nat} {L : List (List Int)} {Δ : Int → Prop}

theorem wAlive (W : World) : Does Try.prog 8 #[] W fun v w' => v = .bool true ∧ Sep W w' [] := by
  refine Does_intro tok (args := []) (Try.call8 _ _) Try.func8 rfl (by rfl) ?_
  have H := Sep.nil W
  (repeat ((try conv => whnf); first | refine Join_dup ?_ | (refine Br_gate ?_; first | with_reducible refine Br_not ?_ | refine xB ?_ | refine xC ?_) | (refine Ld_gate ?_; refine xL ?_) | (refine LdN_gate ?_; refine xM ?_) | (refine St_gate ?_; refine xS ?_; clear H; intro w H) | (refine StN_gate ?_; refine xN ?_; clear H; intro w H) | (refine Kept_gate ?_; refine xK ?_) | (refine Ar_gate ?_; first | (fail_if_success skip) | refine xA ?_) | (refine Eqv_in ?_) | refine Do_ptr_eq_nil tok rfl ?_ | refine Do_ptr_ne_nil tok rfl ?_ | refine Do_nil_eq_nil tok rfl ?_ | refine Nn_in (by omega) ?_ | refine Nz_in (by omega) ?_))
  refine Call_of (eNew H 2) ?_
  clear H
  rintro _ w ⟨eb, rfl, H⟩
  have hn : (max 0 (min (2 : Int) 262144)).toNat = 2 := by decide
  rw [hn] at H
  have h := Has.new (n := 2) (by decide) (S := fun L => L = 0) rfl
  (repeat ((try conv => whnf); first | refine Join_dup ?_ | (refine Br_gate ?_; first | with_reducible refine Br_not ?_ | refine xB ?_ | refine xC ?_) | (refine Ld_gate ?_; refine xL ?_) | (refine LdN_gate ?_; refine xM ?_) | (refine St_gate ?_; refine xS ?_; clear H; intro w H) | (refine StN_gate ?_; refine xN ?_; clear H; intro w H) | (refine Kept_gate ?_; refine xK ?_) | (refine Ar_gate ?_; first | (fail_if_success skip) | refine xA ?_) | (refine Eqv_in ?_) | refine Do_ptr_eq_nil tok rfl ?_ | refine Do_ptr_ne_nil tok rfl ?_ | refine Do_nil_eq_nil tok rfl ?_ | refine Nn_in (by omega) ?_ | refine Nz_in (by omega) ?_))
  (refine Nw_sep H ?_; clear H; intro nb w H; (try simp only [Value.cells, List.toList_toArray, List.append_nil, List.cons_append, List.nil_append] at H))
  (repeat ((try conv => whnf); first | refine Join_dup ?_ | (refine Br_gate ?_; first | with_reducible refine Br_not ?_ | refine xB ?_ | refine xC ?_) | (refine Ld_gate ?_; refine xL ?_) | (refine LdN_gate ?_; refine xM ?_) | (refine St_gate ?_; refine xS ?_; clear H; intro w H) | (refine StN_gate ?_; refine xN ?_; clear H; intro w H) | (refine Kept_gate ?_; refine xK ?_) | (refine Ar_gate ?_; first | (fail_if_success skip) | refine xA ?_) | (refine Eqv_in ?_) | refine Do_ptr_eq_nil tok rfl ?_ | refine Do_ptr_ne_nil tok rfl ?_ | refine Do_nil_eq_nil tok rfl ?_ | refine Nn_in (by omega) ?_ | refine Nz_in (by omega) ?_))
  replace H := H.top 1 rfl (by simp only [List.eraseIdx_cons_succ, List.eraseIdx_cons_zero]; rfl)
  refine Call_of (hAdd H h (xs := [1, 2]) (fun h => h.srcCM 2 1 (List.mem_append_right _ (.head _)) rfl (by decide)) (by simp) (by simp) (by decide)) ?_
  clear H
  rintro _ w (⟨hf, _⟩ | ⟨hf, rfl, s1, h1, hE, hD, hh, hY, H⟩)
  · exact absurd hf (by decide)
  clear h
  replace H := H.drop 1 rfl rfl
  (repeat ((try conv => whnf); first | refine Join_dup ?_ | (refine Br_gate ?_; first | with_reducible refine Br_not ?_ | refine xB ?_ | refine xC ?_) | (refine Ld_gate ?_; refine xL ?_) | (refine LdN_gate ?_; refine xM ?_) | (refine St_gate ?_; refine xS ?_; clear H; intro w H) | (refine StN_gate ?_; refine xN ?_; clear H; intro w H) | (refine Kept_gate ?_; refine xK ?_) | (refine Ar_gate ?_; first | (fail_if_success skip) | refine xA ?_) | (refine Eqv_in ?_) | refine Do_ptr_eq_nil tok rfl ?_ | refine Do_ptr_ne_nil tok rfl ?_ | refine Do_nil_eq_nil tok rfl ?_ | refine Nn_in (by omega) ?_ | refine Nz_in (by omega) ?_))
  have hv1 : value s1.E (-1) = 0 := by rw [hE]; rfl
  have hD1 : s1.D = 0 := hD
  have hno : freeNo s1.n s1.E (-1) = 0 := h1.good.free_no (by decide) (by rw [h1.n]; decide) hv1
  have h2 := h1.decide' (x := -1) (by decide) (by decide) hv1 (S' := fun L => L = s1.D + 1) (fun L h => .inr h) rfl (by intro e he; rw [hE] at he; simp [st0] at he)
  refine Call_of (eDecide H (x := -1) (by omega)) ?_
  clear H
  rintro _ w ⟨rfl, H⟩
  rw [hno, if_pos rfl] at H
  rw [hno]
  (repeat ((try conv => whnf); first | refine Join_dup ?_ | (refine Br_gate ?_; first | with_reducible refine Br_not ?_ | refine xB ?_ | refine xC ?_) | (refine Ld_gate ?_; refine xL ?_) | (refine LdN_gate ?_; refine xM ?_) | (refine St_gate ?_; refine xS ?_; clear H; intro w H) | (refine StN_gate ?_; refine xN ?_; clear H; intro w H) | (refine Kept_gate ?_; refine xK ?_) | (refine Ar_gate ?_; first | (fail_if_success skip) | refine xA ?_) | (refine Eqv_in ?_) | refine Do_ptr_eq_nil tok rfl ?_ | refine Do_ptr_ne_nil tok rfl ?_ | refine Do_nil_eq_nil tok rfl ?_ | refine Nn_in (by omega) ?_ | refine Nz_in (by omega) ?_))
  refine Call_of (hProp H h2 (by simp) (by simp)) ?_
  clear H
  rintro _ w ⟨s3, z, rfl, _, _, ho, h3, x3, H⟩
  obtain ⟨rfl, hcl, _, _⟩ := ho.fine_of no_alive
  have ht : tru s3.E 2 := (hcl 2).2 is_alive
  have hv2 : value s3.E 2 = 1 := (h3.good.val1 (by decide)).2 ht
  obtain ⟨e, he, hel⟩ := ht
  have hfind : find s3.E 2 = some e := by
    have := h3.good.find_at he
    rw [hel] at this
    exact this
  have hknown : knownOf s3.E 2 = (Trail.sgn e.lit, (e.lev : Int), e.rea) := by unfold knownOf; rw [hfind]
  have hrea : e.rea = 0 := by
    obtain ⟨i, hi⟩ := List.getElem?_of_mem he
    rcases h3.good.why i e hi with h | ⟨id, c, h4, h5, _⟩
    · have := (h3.dec 2).1 ⟨e, he, h, hel⟩
      rcases this with h | h
      · exact h.elim
      · omega
    · have h6 := (List.getElem?_eq_some_iff.1 h5).1
      have h7 := h3.len
      simp at h7
      rw [h4]; omega
  have hlev : e.lev = 1 := by
    obtain ⟨G, hG, hGl⟩ := x3.E
    rw [hG] at he
    have he' : e ∈ (s1.E ++ [(⟨-1, s1.D + 1, -1⟩ : Ent)]) ++ G := he
    rw [hE] at he'
    simp only [List.mem_append, List.mem_singleton] at he'
    rcases he' with (he' | he') | he'
    · simp [st0] at he'
    · rw [he'] at hel; cases hel
    · have := (hGl e he').1
      have e1 : (Watch.decide' s1 (-1)).D = s1.D + 1 := rfl
      omega
  (repeat ((try conv => whnf); first | refine Join_dup ?_ | (refine Br_gate ?_; first | with_reducible refine Br_not ?_ | refine xB ?_ | refine xC ?_) | (refine Ld_gate ?_; refine xL ?_) | (refine LdN_gate ?_; refine xM ?_) | (refine St_gate ?_; refine xS ?_; clear H; intro w H) | (refine StN_gate ?_; refine xN ?_; clear H; intro w H) | (refine Kept_gate ?_; refine xK ?_) | (refine Ar_gate ?_; first | (fail_if_success skip) | refine xA ?_) | (refine Eqv_in ?_) | refine Do_ptr_eq_nil tok rfl ?_ | refine Do_ptr_ne_nil tok rfl ?_ | refine Do_nil_eq_nil tok rfl ?_ | refine Nn_in (by omega) ?_ | refine Nz_in (by omega) ?_))
  obtain ⟨r, hr, H⟩ := engOpen H
  (repeat ((try conv => whnf); first | refine Join_dup ?_ | (refine Br_gate ?_; first | with_reducible refine Br_not ?_ | refine xB ?_ | refine xC ?_) | (refine Ld_gate ?_; refine xL ?_) | (refine LdN_gate ?_; refine xM ?_) | (refine St_gate ?_; refine xS ?_; clear H; intro w H) | (refine StN_gate ?_; refine xN ?_; clear H; intro w H) | (refine Kept_gate ?_; refine xK ?_) | (refine Ar_gate ?_; first | (fail_if_success skip) | refine xA ?_) | (refine Eqv_in ?_) | refine Do_ptr_eq_nil tok rfl ?_ | refine Do_ptr_ne_nil tok rfl ?_ | refine Do_nil_eq_nil tok rfl ?_ | refine Nn_in (by omega) ?_ | refine Nz_in (by omega) ?_))
  refine Call_of (sTrailValue H (by repeat first | exact List.Mem.head _ | refine List.Mem.tail _ ?_)) ?_
  rintro _ _ ⟨rfl, rfl⟩
  rw [hv2]
  (repeat ((try conv => whnf); first | refine Join_dup ?_ | (refine Br_gate ?_; first | with_reducible refine Br_not ?_ | refine xB ?_ | refine xC ?_) | (refine Ld_gate ?_; refine xL ?_) | (refine LdN_gate ?_; refine xM ?_) | (refine St_gate ?_; refine xS ?_; clear H; intro w H) | (refine StN_gate ?_; refine xN ?_; clear H; intro w H) | (refine Kept_gate ?_; refine xK ?_) | (refine Ar_gate ?_; first | (fail_if_success skip) | refine xA ?_) | (refine Eqv_in ?_) | refine Do_ptr_eq_nil tok rfl ?_ | refine Do_ptr_ne_nil tok rfl ?_ | refine Do_nil_eq_nil tok rfl ?_ | refine Nn_in (by omega) ?_ | refine Nz_in (by omega) ?_))
  refine Call_of (sTrailReason H (by repeat first | exact List.Mem.head _ | refine List.Mem.tail _ ?_)) ?_
  clear H
  rintro _ w ⟨rfl, H⟩
  rw [hknown, hrea]
  (repeat ((try conv => whnf); first | refine Join_dup ?_ | (refine Br_gate ?_; first | with_reducible refine Br_not ?_ | refine xB ?_ | refine xC ?_) | (refine Ld_gate ?_; refine xL ?_) | (refine LdN_gate ?_; refine xM ?_) | (refine St_gate ?_; refine xS ?_; clear H; intro w H) | (refine StN_gate ?_; refine xN ?_; clear H; intro w H) | (refine Kept_gate ?_; refine xK ?_) | (refine Ar_gate ?_; first | (fail_if_success skip) | refine xA ?_) | (refine Eqv_in ?_) | refine Do_ptr_eq_nil tok rfl ?_ | refine Do_ptr_ne_nil tok rfl ?_ | refine Do_nil_eq_nil tok rfl ?_ | refine Nn_in (by omega) ?_ | refine Nz_in (by omega) ?_))
  refine Call_of (sTrailLevel H (by repeat first | exact List.Mem.head _ | refine List.Mem.tail _ ?_)) ?_
  clear H
  rintro _ w ⟨rfl, H⟩
  rw [hknown, hlev]
  (repeat ((try conv => whnf); first | refine Join_dup ?_ | (refine Br_gate ?_; first | with_reducible refine Br_not ?_ | refine xB ?_ | refine xC ?_) | (refine Ld_gate ?_; refine xL ?_) | (refine LdN_gate ?_; refine xM ?_) | (refine St_gate ?_; refine xS ?_; clear H; intro w H) | (refine StN_gate ?_; refine xN ?_; clear H; intro w H) | (refine Kept_gate ?_; refine xK ?_) | (refine Ar_gate ?_; first | (fail_if_success skip) | refine xA ?_) | (refine Eqv_in ?_) | refine Do_ptr_eq_nil tok rfl ?_ | refine Do_ptr_ne_nil tok rfl ?_ | refine Do_nil_eq_nil tok rfl ?_ | refine Nn_in (by omega) ?_ | refine Nz_in (by omega) ?_))
  exact Ret_in ⟨rfl, H.all⟩

theorem uNames (W : World) : Does Try.prog 6 #[] W fun v w' => v = .bool true ∧ Sep W w' [] := by
  refine Does_intro tok (args := []) (Try.call6 _ _) Try.func6 rfl (by rfl) ?_
  have H := Sep.nil W
  (repeat ((try conv => whnf); first | refine Join_dup ?_ | (refine Br_gate ?_; first | with_reducible refine Br_not ?_ | refine xB ?_ | refine xC ?_) | (refine Ld_gate ?_; refine xL ?_) | (refine LdN_gate ?_; refine xM ?_) | (refine St_gate ?_; refine xS ?_; clear H; intro w H) | (refine StN_gate ?_; refine xN ?_; clear H; intro w H) | (refine Kept_gate ?_; refine xK ?_) | (refine Ar_gate ?_; first | (fail_if_success skip) | refine xA ?_) | (refine Eqv_in ?_) | refine Do_ptr_eq_nil tok rfl ?_ | refine Do_ptr_ne_nil tok rfl ?_ | refine Do_nil_eq_nil tok rfl ?_ | refine Nn_in (by omega) ?_ | refine Nz_in (by omega) ?_))
  refine Call_of (eNew H 2) ?_
  clear H
  rintro _ w ⟨eb, rfl, H⟩
  have hn : (max 0 (min (2 : Int) 262144)).toNat = 2 := by decide
  rw [hn] at H
  have h := Has.new (n := 2) (by decide) (S := fun L => L = 0) rfl
  (repeat ((try conv => whnf); first | refine Join_dup ?_ | (refine Br_gate ?_; first | with_reducible refine Br_not ?_ | refine xB ?_ | refine xC ?_) | (refine Ld_gate ?_; refine xL ?_) | (refine LdN_gate ?_; refine xM ?_) | (refine St_gate ?_; refine xS ?_; clear H; intro w H) | (refine StN_gate ?_; refine xN ?_; clear H; intro w H) | (refine Kept_gate ?_; refine xK ?_) | (refine Ar_gate ?_; first | (fail_if_success skip) | refine xA ?_) | (refine Eqv_in ?_) | refine Do_ptr_eq_nil tok rfl ?_ | refine Do_ptr_ne_nil tok rfl ?_ | refine Do_nil_eq_nil tok rfl ?_ | refine Nn_in (by omega) ?_ | refine Nz_in (by omega) ?_))
  (refine Nw_sep H ?_; clear H; intro nb w H; (try simp only [Value.cells, List.toList_toArray, List.append_nil, List.cons_append, List.nil_append] at H))
  (repeat ((try conv => whnf); first | refine Join_dup ?_ | (refine Br_gate ?_; first | with_reducible refine Br_not ?_ | refine xB ?_ | refine xC ?_) | (refine Ld_gate ?_; refine xL ?_) | (refine LdN_gate ?_; refine xM ?_) | (refine St_gate ?_; refine xS ?_; clear H; intro w H) | (refine StN_gate ?_; refine xN ?_; clear H; intro w H) | (refine Kept_gate ?_; refine xK ?_) | (refine Ar_gate ?_; first | (fail_if_success skip) | refine xA ?_) | (refine Eqv_in ?_) | refine Do_ptr_eq_nil tok rfl ?_ | refine Do_ptr_ne_nil tok rfl ?_ | refine Do_nil_eq_nil tok rfl ?_ | refine Nn_in (by omega) ?_ | refine Nz_in (by omega) ?_))
  replace H := H.top 1 rfl (by simp only [List.eraseIdx_cons_succ, List.eraseIdx_cons_zero]; rfl)
  refine Call_of (hAdd H h (xs := [3]) (fun h => h.srcCM 1 1 (List.mem_append_right _ (.head _)) rfl (by decide)) (by simp) (by simp) (by decide)) ?_
  clear H
  rintro _ w (⟨hf, rfl, H⟩ | ⟨hf, _⟩)
  case inr => exact absurd hf (by decide)
  replace H := H.drop 1 rfl rfl
  clear hf
  (repeat ((try conv => whnf); first | refine Join_dup ?_ | (refine Br_gate ?_; first | with_reducible refine Br_not ?_ | refine xB ?_ | refine xC ?_) | (refine Ld_gate ?_; refine xL ?_) | (refine LdN_gate ?_; refine xM ?_) | (refine St_gate ?_; refine xS ?_; clear H; intro w H) | (refine StN_gate ?_; refine xN ?_; clear H; intro w H) | (refine Kept_gate ?_; refine xK ?_) | (refine Ar_gate ?_; first | (fail_if_success skip) | refine xA ?_) | (refine Eqv_in ?_) | refine Do_ptr_eq_nil tok rfl ?_ | refine Do_ptr_ne_nil tok rfl ?_ | refine Do_nil_eq_nil tok rfl ?_ | refine Nn_in (by omega) ?_ | refine Nz_in (by omega) ?_))
  (refine Nw_sep H ?_; clear H; intro nb2 w H; (try simp only [Value.cells, List.toList_toArray, List.append_nil, List.cons_append, List.nil_append] at H))
  (repeat ((try conv => whnf); first | refine Join_dup ?_ | (refine Br_gate ?_; first | with_reducible refine Br_not ?_ | refine xB ?_ | refine xC ?_) | (refine Ld_gate ?_; refine xL ?_) | (refine LdN_gate ?_; refine xM ?_) | (refine St_gate ?_; refine xS ?_; clear H; intro w H) | (refine StN_gate ?_; refine xN ?_; clear H; intro w H) | (refine Kept_gate ?_; refine xK ?_) | (refine Ar_gate ?_; first | (fail_if_success skip) | refine xA ?_) | (refine Eqv_in ?_) | refine Do_ptr_eq_nil tok rfl ?_ | refine Do_ptr_ne_nil tok rfl ?_ | refine Do_nil_eq_nil tok rfl ?_ | refine Nn_in (by omega) ?_ | refine Nz_in (by omega) ?_))
  replace H := H.top 1 rfl (by simp only [List.eraseIdx_cons_succ, List.eraseIdx_cons_zero]; rfl)
  refine Call_of (hAdd H h (xs := [1, 0]) (fun h => h.srcCM 2 1 (List.mem_append_right _ (.head _)) rfl (by decide)) (by simp) (by simp) (by decide)) ?_
  clear H
  rintro _ w (⟨hf, rfl, H⟩ | ⟨hf, _⟩)
  case inr => exact absurd hf (by decide)
  replace H := H.drop 1 rfl rfl
  clear hf
  (repeat ((try conv => whnf); first | refine Join_dup ?_ | (refine Br_gate ?_; first | with_reducible refine Br_not ?_ | refine xB ?_ | refine xC ?_) | (refine Ld_gate ?_; refine xL ?_) | (refine LdN_gate ?_; refine xM ?_) | (refine St_gate ?_; refine xS ?_; clear H; intro w H) | (refine StN_gate ?_; refine xN ?_; clear H; intro w H) | (refine Kept_gate ?_; refine xK ?_) | (refine Ar_gate ?_; first | (fail_if_success skip) | refine xA ?_) | (refine Eqv_in ?_) | refine Do_ptr_eq_nil tok rfl ?_ | refine Do_ptr_ne_nil tok rfl ?_ | refine Do_nil_eq_nil tok rfl ?_ | refine Nn_in (by omega) ?_ | refine Nz_in (by omega) ?_))
  (refine Nw_sep H ?_; clear H; intro nb3 w H; (try simp only [Value.cells, List.toList_toArray, List.append_nil, List.cons_append, List.nil_append] at H))
  (repeat ((try conv => whnf); first | refine Join_dup ?_ | (refine Br_gate ?_; first | with_reducible refine Br_not ?_ | refine xB ?_ | refine xC ?_) | (refine Ld_gate ?_; refine xL ?_) | (refine LdN_gate ?_; refine xM ?_) | (refine St_gate ?_; refine xS ?_; clear H; intro w H) | (refine StN_gate ?_; refine xN ?_; clear H; intro w H) | (refine Kept_gate ?_; refine xK ?_) | (refine Ar_gate ?_; first | (fail_if_success skip) | refine xA ?_) | (refine Eqv_in ?_) | refine Do_ptr_eq_nil tok rfl ?_ | refine Do_ptr_ne_nil tok rfl ?_ | refine Do_nil_eq_nil tok rfl ?_ | refine Nn_in (by omega) ?_ | refine Nz_in (by omega) ?_))
  replace H := H.top 1 rfl (by simp only [List.eraseIdx_cons_succ, List.eraseIdx_cons_zero]; rfl)
  refine Call_of (hAdd H h (xs := [1]) (fun h => h.srcCM 1 1 (List.mem_append_right _ (.head _)) rfl (by decide)) (by simp) (by simp) (by decide)) ?_
  clear H
  rintro _ w (⟨hf, _⟩ | ⟨hf, rfl, s1, h1, hE, hD, hh, hY, H⟩)
  · exact absurd hf (by decide)
  clear h
  replace H := H.drop 1 rfl rfl
  (repeat ((try conv => whnf); first | refine Join_dup ?_ | (refine Br_gate ?_; first | with_reducible refine Br_not ?_ | refine xB ?_ | refine xC ?_) | (refine Ld_gate ?_; refine xL ?_) | (refine LdN_gate ?_; refine xM ?_) | (refine St_gate ?_; refine xS ?_; clear H; intro w H) | (refine StN_gate ?_; refine xN ?_; clear H; intro w H) | (refine Kept_gate ?_; refine xK ?_) | (refine Ar_gate ?_; first | (fail_if_success skip) | refine xA ?_) | (refine Eqv_in ?_) | refine Do_ptr_eq_nil tok rfl ?_ | refine Do_ptr_ne_nil tok rfl ?_ | refine Do_nil_eq_nil tok rfl ?_ | refine Nn_in (by omega) ?_ | refine Nz_in (by omega) ?_))
  refine Call_of (hProp H h1 (by simp) (by simp)) ?_
  clear H
  rintro _ w ⟨s3, z, rfl, _, _, ho, h3, x3, H⟩
  obtain ⟨rfl, hcl, _, _⟩ := ho.fine_of no_name
  have ht : tru s3.E 1 := (hcl 1).2 is_name
  have hv1 : value s3.E 1 = 1 := (h3.good.val1 (by decide)).2 ht
  have hvm : value s3.E (-1) = -1 := (h3.good.valn (by decide)).2 (by simpa using ht)
  obtain ⟨e, he, hel⟩ := ht
  have hfind : find s3.E 1 = some e := by
    have := h3.good.find_at he
    rw [hel] at this
    exact this
  have hknown : knownOf s3.E 1 = (Trail.sgn e.lit, (e.lev : Int), e.rea) := by unfold knownOf; rw [hfind]
  have h7 : s3.C.length = 1 := h3.len
  have hrea : e.rea = 0 := by
    obtain ⟨i, hi⟩ := List.getElem?_of_mem he
    rcases h3.good.why i e hi with h | ⟨id, c, h4, h5, _⟩
    · exact ((h3.dec 1).1 ⟨e, he, h, hel⟩).elim
    · have h6 := (List.getElem?_eq_some_iff.1 h5).1
      rw [h4]; omega
  obtain ⟨k, hk, hk1, hk2, hk3⟩ := (h3.gam [1]).2 ⟨[1], by simp, by decide, fun x => Iff.rfl⟩
  obtain ⟨i0, hi0⟩ := List.getElem?_of_mem hk
  have hi0l := (List.getElem?_eq_some_iff.1 hi0).1
  obtain rfl : i0 = 0 := by omega
  have hD3 : s3.D = 0 := by rw [x3.D, hD]; rfl
  have hneeds : needs s3.E 0 1 := ⟨by show (knownOf s3.E 1).2.2 = 0; rw [hknown, hrea], hv1⟩
  have hkl := h3.good.cl k hk
  (repeat ((try conv => whnf); first | refine Join_dup ?_ | (refine Br_gate ?_; first | with_reducible refine Br_not ?_ | refine xB ?_ | refine xC ?_) | (refine Ld_gate ?_; refine xL ?_) | (refine LdN_gate ?_; refine xM ?_) | (refine St_gate ?_; refine xS ?_; clear H; intro w H) | (refine StN_gate ?_; refine xN ?_; clear H; intro w H) | (refine Kept_gate ?_; refine xK ?_) | (refine Ar_gate ?_; first | (fail_if_success skip) | refine xA ?_) | (refine Eqv_in ?_) | refine Do_ptr_eq_nil tok rfl ?_ | refine Do_ptr_ne_nil tok rfl ?_ | refine Do_nil_eq_nil tok rfl ?_ | refine Nn_in (by omega) ?_ | refine Nz_in (by omega) ?_))
  refine Call_of (wAlive w) ?_
  rintro _ w' ⟨rfl, HH⟩
  replace H := H.add HH
  clear HH
  (repeat ((try conv => whnf); first | refine Join_dup ?_ | (refine Br_gate ?_; first | with_reducible refine Br_not ?_ | refine xB ?_ | refine xC ?_) | (refine Ld_gate ?_; refine xL ?_) | (refine LdN_gate ?_; refine xM ?_) | (refine St_gate ?_; refine xS ?_; clear H; intro w H) | (refine StN_gate ?_; refine xN ?_; clear H; intro w H) | (refine Kept_gate ?_; refine xK ?_) | (refine Ar_gate ?_; first | (fail_if_success skip) | refine xA ?_) | (refine Eqv_in ?_) | refine Do_ptr_eq_nil tok rfl ?_ | refine Do_ptr_ne_nil tok rfl ?_ | refine Do_nil_eq_nil tok rfl ?_ | refine Nn_in (by omega) ?_ | refine Nz_in (by omega) ?_))
  obtain ⟨r, hr, H⟩ := engOpen H
  (repeat ((try conv => whnf); first | refine Join_dup ?_ | (refine Br_gate ?_; first | with_reducible refine Br_not ?_ | refine xB ?_ | refine xC ?_) | (refine Ld_gate ?_; refine xL ?_) | (refine LdN_gate ?_; refine xM ?_) | (refine St_gate ?_; refine xS ?_; clear H; intro w H) | (refine StN_gate ?_; refine xN ?_; clear H; intro w H) | (refine Kept_gate ?_; refine xK ?_) | (refine Ar_gate ?_; first | (fail_if_success skip) | refine xA ?_) | (refine Eqv_in ?_) | refine Do_ptr_eq_nil tok rfl ?_ | refine Do_ptr_ne_nil tok rfl ?_ | refine Do_nil_eq_nil tok rfl ?_ | refine Nn_in (by omega) ?_ | refine Nz_in (by omega) ?_))
  refine Call_of (sTrailValue H (by repeat first | exact List.Mem.head _ | refine List.Mem.tail _ ?_)) ?_
  rintro _ _ ⟨rfl, rfl⟩
  rw [hv1]
  replace H := engClose hr H
  (repeat ((try conv => whnf); first | refine Join_dup ?_ | (refine Br_gate ?_; first | with_reducible refine Br_not ?_ | refine xB ?_ | refine xC ?_) | (refine Ld_gate ?_; refine xL ?_) | (refine LdN_gate ?_; refine xM ?_) | (refine St_gate ?_; refine xS ?_; clear H; intro w H) | (refine StN_gate ?_; refine xN ?_; clear H; intro w H) | (refine Kept_gate ?_; refine xK ?_) | (refine Ar_gate ?_; first | (fail_if_success skip) | refine xA ?_) | (refine Eqv_in ?_) | refine Do_ptr_eq_nil tok rfl ?_ | refine Do_ptr_ne_nil tok rfl ?_ | refine Do_nil_eq_nil tok rfl ?_ | refine Nn_in (by omega) ?_ | refine Nz_in (by omega) ?_))
  refine Call_of (eRemove H hi0 hk1 (fun x hx => by rw [one_ok]; exact (hkl.1 x hx).1) (by have := h3.good.lits_few hk; omega) (by omega)) ?_
  clear H
  rintro _ w (⟨rfl, _, H⟩ | ⟨rfl, hall, _⟩)
  case inr => exact (hall 1 ((hk3 1).1 (by simp)) hneeds).elim
  (repeat ((try conv => whnf); first | refine Join_dup ?_ | (refine Br_gate ?_; first | with_reducible refine Br_not ?_ | refine xB ?_ | refine xC ?_) | (refine Ld_gate ?_; refine xL ?_) | (refine LdN_gate ?_; refine xM ?_) | (refine St_gate ?_; refine xS ?_; clear H; intro w H) | (refine StN_gate ?_; refine xN ?_; clear H; intro w H) | (refine Kept_gate ?_; refine xK ?_) | (refine Ar_gate ?_; first | (fail_if_success skip) | refine xA ?_) | (refine Eqv_in ?_) | refine Do_ptr_eq_nil tok rfl ?_ | refine Do_ptr_ne_nil tok rfl ?_ | refine Do_nil_eq_nil tok rfl ?_ | refine Nn_in (by omega) ?_ | refine Nz_in (by omega) ?_))
  refine Call_of (eRemove_no H (id := 1) (.inr (.inl (by omega))) (by omega)) ?_
  clear H
  rintro _ w ⟨rfl, H⟩
  (repeat ((try conv => whnf); first | refine Join_dup ?_ | (refine Br_gate ?_; first | with_reducible refine Br_not ?_ | refine xB ?_ | refine xC ?_) | (refine Ld_gate ?_; refine xL ?_) | (refine LdN_gate ?_; refine xM ?_) | (refine St_gate ?_; refine xS ?_; clear H; intro w H) | (refine StN_gate ?_; refine xN ?_; clear H; intro w H) | (refine Kept_gate ?_; refine xK ?_) | (refine Ar_gate ?_; first | (fail_if_success skip) | refine xA ?_) | (refine Eqv_in ?_) | refine Do_ptr_eq_nil tok rfl ?_ | refine Do_ptr_ne_nil tok rfl ?_ | refine Do_nil_eq_nil tok rfl ?_ | refine Nn_in (by omega) ?_ | refine Nz_in (by omega) ?_))
  have hf3 : freeNo s3.n s3.E 3 = 41 := by unfold freeNo; rw [if_neg (by rw [h3.n]; decide)]
  refine Call_of (eDecide H (x := 3) (by omega)) ?_
  clear H
  rintro _ w ⟨rfl, H⟩
  rw [hf3] at H ⊢
  rw [if_neg (by decide)] at H
  rw [if_pos rfl]
  (repeat ((try conv => whnf); first | refine Join_dup ?_ | (refine Br_gate ?_; first | with_reducible refine Br_not ?_ | refine xB ?_ | refine xC ?_) | (refine Ld_gate ?_; refine xL ?_) | (refine LdN_gate ?_; refine xM ?_) | (refine St_gate ?_; refine xS ?_; clear H; intro w H) | (refine StN_gate ?_; refine xN ?_; clear H; intro w H) | (refine Kept_gate ?_; refine xK ?_) | (refine Ar_gate ?_; first | (fail_if_success skip) | refine xA ?_) | (refine Eqv_in ?_) | refine Do_ptr_eq_nil tok rfl ?_ | refine Do_ptr_ne_nil tok rfl ?_ | refine Do_nil_eq_nil tok rfl ?_ | refine Nn_in (by omega) ?_ | refine Nz_in (by omega) ?_))
  have hfm : freeNo s3.n s3.E (-1) = 42 := by
    unfold freeNo
    rw [if_pos ⟨by decide, by rw [h3.n]; decide⟩, if_neg]
    show find s3.E 1 ≠ none
    rw [hfind]; simp
  refine Call_of (eDecide H (x := -1) (by omega)) ?_
  clear H
  rintro _ w ⟨rfl, H⟩
  rw [hfm] at H ⊢
  rw [if_neg (by decide)] at H
  rw [if_neg (by decide)]
  (repeat ((try conv => whnf); first | refine Join_dup ?_ | (refine Br_gate ?_; first | with_reducible refine Br_not ?_ | refine xB ?_ | refine xC ?_) | (refine Ld_gate ?_; refine xL ?_) | (refine LdN_gate ?_; refine xM ?_) | (refine St_gate ?_; refine xS ?_; clear H; intro w H) | (refine StN_gate ?_; refine xN ?_; clear H; intro w H) | (refine Kept_gate ?_; refine xK ?_) | (refine Ar_gate ?_; first | (fail_if_success skip) | refine xA ?_) | (refine Eqv_in ?_) | refine Do_ptr_eq_nil tok rfl ?_ | refine Do_ptr_ne_nil tok rfl ?_ | refine Do_nil_eq_nil tok rfl ?_ | refine Nn_in (by omega) ?_ | refine Nz_in (by omega) ?_))
  refine Call_of (eBack_no H (k := 1) (.inr (by omega))) ?_
  clear H
  rintro _ w ⟨rfl, H⟩
  (repeat ((try conv => whnf); first | refine Join_dup ?_ | (refine Br_gate ?_; first | with_reducible refine Br_not ?_ | refine xB ?_ | refine xC ?_) | (refine Ld_gate ?_; refine xL ?_) | (refine LdN_gate ?_; refine xM ?_) | (refine St_gate ?_; refine xS ?_; clear H; intro w H) | (refine StN_gate ?_; refine xN ?_; clear H; intro w H) | (refine Kept_gate ?_; refine xK ?_) | (refine Ar_gate ?_; first | (fail_if_success skip) | refine xA ?_) | (refine Eqv_in ?_) | refine Do_ptr_eq_nil tok rfl ?_ | refine Do_ptr_ne_nil tok rfl ?_ | refine Do_nil_eq_nil tok rfl ?_ | refine Nn_in (by omega) ?_ | refine Nz_in (by omega) ?_))
  exact Ret_in ⟨rfl, H.all⟩
end
end Go.Proofs.Ytodabklhbagljaa
