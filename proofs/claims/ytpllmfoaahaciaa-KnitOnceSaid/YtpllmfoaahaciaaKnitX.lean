/- A knit's smaller methods; a gate is defined. -/
import Derived.Test.YtpllmfoaahaciaaKnitW
namespace Go.Proofs.Ytpllmfoaahaciaa
open Go Go.Vc Go.Gate Go.Knit
set_option linter.unusedVariables false
set_option linter.unusedSimpArgs false
set_option maxHeartbeats 4000000
set_option maxRecDepth 100000

section
variable {w0 w : World} {l r : List Res} {k gb sb n : Nat} {D : List Nat} {C : List (List Int)} {most : Int}

theorem kVar (H : Sep w0 w l) (hm : knitR k gb sb D C most ∈ l) {g : Nat} : Does Try.prog 17 #[.pointer (some ⟨k, 0, none⟩), iI g] w fun v w' => v = iI (varOf D g) ∧ w = w' := by
  obtain ⟨r, hp⟩ := mem_cut hm
  obtain ⟨mb, H⟩ := knitOpen (H.perm hp)
  refine Does_intro tok (Try.call17 _ _) Try.func17 rfl (by rfl) ?_
  (repeat ((try conv => whnf); first | refine Join_dup ?_ | (refine Br_gate ?_; first | with_reducible refine Br_not ?_ | refine xB ?_ | refine xC ?_) | (refine Ld_gate ?_; refine xL ?_) | (refine LdN_gate ?_; refine xM ?_) | (refine St_gate ?_; refine xS ?_; clear H; intro w H) | (refine StN_gate ?_; refine xN ?_; clear H; intro w H) | (refine Kept_gate ?_; refine xK ?_) | (refine Ar_gate ?_; first | (first | with_reducible refine Ar_halfU (by omega) ?_) | refine xA ?_) | (first | with_reducible refine Eqv_flip (by omega) ?_ | with_reducible refine Eqv_odd ?_ | refine Eqv_in ?_) | refine Do_ptr_eq_nil tok rfl ?_ | refine Do_ptr_ne_nil tok rfl ?_ | refine Do_nil_eq_nil tok rfl ?_ | refine Nn_in (by omega) ?_ | refine Nz_in (by omega) ?_))
  refine Do_lookupL tok keyI H (by repeat first | exact List.Mem.head _ | refine List.Mem.tail _ ?_) rfl rfl (g : Int) ?_
  simp only [Bool.false_eq_true, if_false]
  rw [kmap_get]
  (repeat ((try conv => whnf); first | refine Join_dup ?_ | (refine Br_gate ?_; first | with_reducible refine Br_not ?_ | refine xB ?_ | refine xC ?_) | (refine Ld_gate ?_; refine xL ?_) | (refine LdN_gate ?_; refine xM ?_) | (refine St_gate ?_; refine xS ?_; clear H; intro w H) | (refine StN_gate ?_; refine xN ?_; clear H; intro w H) | (refine Kept_gate ?_; refine xK ?_) | (refine Ar_gate ?_; first | (first | with_reducible refine Ar_halfU (by omega) ?_) | refine xA ?_) | (first | with_reducible refine Eqv_flip (by omega) ?_ | with_reducible refine Eqv_odd ?_ | refine Eqv_in ?_) | refine Do_ptr_eq_nil tok rfl ?_ | refine Do_ptr_ne_nil tok rfl ?_ | refine Do_nil_eq_nil tok rfl ?_ | refine Nn_in (by omega) ?_ | refine Nz_in (by omega) ?_))
  exact Ret_in ⟨rfl, rfl⟩

theorem kLit (H : Sep w0 w l) (hm : knitR k gb sb D C most ∈ l) {a : Nat} (ha : a ≤ 4294967295) (hD : D.length ≤ 2000000) : Does Try.prog 23 #[.pointer (some ⟨k, 0, none⟩), eV a] w fun v w' => v = lV (litOf D a) ∧ w = w' := by
  obtain ⟨r, hp⟩ := mem_cut hm
  obtain ⟨mb, H⟩ := knitOpen (H.perm hp)
  have hv := varOf_le D (a / 2)
  refine Does_intro tok (Try.call23 _ _) Try.func23 rfl (by rfl) ?_
  (repeat ((try conv => whnf); first | refine Join_dup ?_ | (refine Br_gate ?_; first | with_reducible refine Br_not ?_ | refine xB ?_ | refine xC ?_) | (refine Ld_gate ?_; refine xL ?_) | (refine LdN_gate ?_; refine xM ?_) | (refine St_gate ?_; refine xS ?_; clear H; intro w H) | (refine StN_gate ?_; refine xN ?_; clear H; intro w H) | (refine Kept_gate ?_; refine xK ?_) | (refine Ar_gate ?_; first | (first | with_reducible refine Ar_halfU (by omega) ?_) | refine xA ?_) | (first | with_reducible refine Eqv_flip (by omega) ?_ | with_reducible refine Eqv_odd ?_ | refine Eqv_in ?_) | refine Do_ptr_eq_nil tok rfl ?_ | refine Do_ptr_ne_nil tok rfl ?_ | refine Do_nil_eq_nil tok rfl ?_ | refine Nn_in (by omega) ?_ | refine Nz_in (by omega) ?_))
  refine Do_lookupL tok keyI H (by repeat first | exact List.Mem.head _ | refine List.Mem.tail _ ?_) rfl rfl ((a / 2 : Nat) : Int) ?_
  simp only [Bool.false_eq_true, if_false]
  rw [kmap_get]
  by_cases h1 : a % 2 = 1
  · have e : litOf D a = -(varOf D (a / 2) : Int) := by unfold litOf; rw [if_pos h1]
    rw [e]
    (repeat ((try conv => whnf); first | refine Join_dup ?_ | (refine Br_gate ?_; first | with_reducible refine Br_not ?_ | refine xB ?_ | refine xC ?_) | (refine Ld_gate ?_; refine xL ?_) | (refine LdN_gate ?_; refine xM ?_) | (refine St_gate ?_; refine xS ?_; clear H; intro w H) | (refine StN_gate ?_; refine xN ?_; clear H; intro w H) | (refine Kept_gate ?_; refine xK ?_) | (refine Ar_gate ?_; first | (first | with_reducible refine Ar_halfU (by omega) ?_) | refine xA ?_) | (first | with_reducible refine Eqv_flip (by omega) ?_ | with_reducible refine Eqv_odd ?_ | refine Eqv_in ?_) | refine Do_ptr_eq_nil tok rfl ?_ | refine Do_ptr_ne_nil tok rfl ?_ | refine Do_nil_eq_nil tok rfl ?_ | refine Nn_in (by omega) ?_ | refine Nz_in (by omega) ?_))
    exact Ret_in ⟨vint (by omega), rfl⟩
  · have e : litOf D a = (varOf D (a / 2) : Int) := by unfold litOf; rw [if_neg h1]
    rw [e]
    (repeat ((try conv => whnf); first | refine Join_dup ?_ | (refine Br_gate ?_; first | with_reducible refine Br_not ?_ | refine xB ?_ | refine xC ?_) | (refine Ld_gate ?_; refine xL ?_) | (refine LdN_gate ?_; refine xM ?_) | (refine St_gate ?_; refine xS ?_; clear H; intro w H) | (refine StN_gate ?_; refine xN ?_; clear H; intro w H) | (refine Kept_gate ?_; refine xK ?_) | (refine Ar_gate ?_; first | (first | with_reducible refine Ar_halfU (by omega) ?_) | refine xA ?_) | (first | with_reducible refine Eqv_flip (by omega) ?_ | with_reducible refine Eqv_odd ?_ | refine Eqv_in ?_) | refine Do_ptr_eq_nil tok rfl ?_ | refine Do_ptr_ne_nil tok rfl ?_ | refine Do_nil_eq_nil tok rfl ?_ | refine Nn_in (by omega) ?_ | refine Nz_in (by omega) ?_))
    exact Ret_in ⟨rfl, rfl⟩

theorem kDefine (H : Sep w0 w (knitR k gb sb D C most :: r)) {ps : List (Nat × Nat)} {ins : List Nat} (hg : gR gb ps ins ∈ r) (hk : KOk ps D C) {g : Nat} (hlt : g < ps.length)
    (hp : (partsP ps g).2.2 = true → (partsP ps g).1 / 2 ∈ D ∧ (partsP ps g).2.1 / 2 ∈ D) (hmost : g ∉ D → (D.length : Int) < most) :
    Does Try.prog 25 #[.pointer (some ⟨k, 0, none⟩), iI g] w fun v w' => v = iI 0 ∧ Sep w0 w' (knitR k gb sb (defP ps (D, C) g).1 (defP ps (D, C) g).2 most :: r) := by
  have hgok := graphOk H (.tail _ hg)
  have hmx := hgok.max
  have hfew := hk.few
  have hlen := hk.len
  obtain ⟨mb, H⟩ := knitOpen H
  have hdef : defP ps (D, C) g = if g ∈ D then (D, C) else (D ++ [g], C ++ clsOf ps (D ++ [g]) g) := rfl
  refine Does_intro tok (Try.call25 _ _) Try.func25 rfl (by rfl) ?_
  (repeat ((try conv => whnf); first | refine Join_dup ?_ | (refine Br_gate ?_; first | with_reducible refine Br_not ?_ | refine xB ?_ | refine xC ?_) | (refine Ld_gate ?_; refine xL ?_) | (refine LdN_gate ?_; refine xM ?_) | (refine St_gate ?_; refine xS ?_; clear H; intro w H) | (refine StN_gate ?_; refine xN ?_; clear H; intro w H) | (refine Kept_gate ?_; refine xK ?_) | (refine Ar_gate ?_; first | (first | with_reducible refine Ar_halfU (by omega) ?_) | refine xA ?_) | (first | with_reducible refine Eqv_flip (by omega) ?_ | with_reducible refine Eqv_odd ?_ | refine Eqv_in ?_) | refine Do_ptr_eq_nil tok rfl ?_ | refine Do_ptr_ne_nil tok rfl ?_ | refine Do_nil_eq_nil tok rfl ?_ | refine Nn_in (by omega) ?_ | refine Nz_in (by omega) ?_))
  refine Do_lookupL tok keyI H (by repeat first | exact List.Mem.head _ | refine List.Mem.tail _ ?_) rfl rfl (g : Int) ?_
  simp only [Bool.false_eq_true, if_false]
  rw [kmap_get]
  by_cases hm : g ∈ D
  · have := varOf_pos.2 hm
    rw [hdef, if_pos hm]
    (repeat ((try conv => whnf); first | refine Join_dup ?_ | (refine Br_gate ?_; first | with_reducible refine Br_not ?_ | refine xB ?_ | refine xC ?_) | (refine Ld_gate ?_; refine xL ?_) | (refine LdN_gate ?_; refine xM ?_) | (refine St_gate ?_; refine xS ?_; clear H; intro w H) | (refine StN_gate ?_; refine xN ?_; clear H; intro w H) | (refine Kept_gate ?_; refine xK ?_) | (refine Ar_gate ?_; first | (first | with_reducible refine Ar_halfU (by omega) ?_) | refine xA ?_) | (first | with_reducible refine Eqv_flip (by omega) ?_ | with_reducible refine Eqv_odd ?_ | refine Eqv_in ?_) | refine Do_ptr_eq_nil tok rfl ?_ | refine Do_ptr_ne_nil tok rfl ?_ | refine Do_nil_eq_nil tok rfl ?_ | refine Nn_in (by omega) ?_ | refine Nz_in (by omega) ?_))
    exact Ret_in ⟨rfl, knitClose H⟩
  rw [hdef, if_neg hm]
  have hv0 := varOf_not hm
  rw [hv0]
  (repeat ((try conv => whnf); first | refine Join_dup ?_ | (refine Br_gate ?_; first | with_reducible refine Br_not ?_ | refine xB ?_ | refine xC ?_) | (refine Ld_gate ?_; refine xL ?_) | (refine LdN_gate ?_; refine xM ?_) | (refine St_gate ?_; refine xS ?_; clear H; intro w H) | (refine StN_gate ?_; refine xN ?_; clear H; intro w H) | (refine Kept_gate ?_; refine xK ?_) | (refine Ar_gate ?_; first | (first | with_reducible refine Ar_halfU (by omega) ?_) | refine xA ?_) | (first | with_reducible refine Eqv_flip (by omega) ?_ | with_reducible refine Eqv_odd ?_ | refine Eqv_in ?_) | refine Do_ptr_eq_nil tok rfl ?_ | refine Do_ptr_ne_nil tok rfl ?_ | refine Do_nil_eq_nil tok rfl ?_ | refine Nn_in (by omega) ?_ | refine Nz_in (by omega) ?_))
  replace H := H.top 2 rfl (by simp only [List.eraseIdx_cons_succ, List.eraseIdx_cons_zero]; rfl)
  refine DoN_method (iVar _ _ _) (sVar H (hmost hm) (by omega)) ?_
  clear H
  rintro _ w ⟨rfl, H⟩
  (repeat ((try conv => whnf); first | refine Join_dup ?_ | (refine Br_gate ?_; first | with_reducible refine Br_not ?_ | refine xB ?_ | refine xC ?_) | (refine Ld_gate ?_; refine xL ?_) | (refine LdN_gate ?_; refine xM ?_) | (refine St_gate ?_; refine xS ?_; clear H; intro w H) | (refine StN_gate ?_; refine xN ?_; clear H; intro w H) | (refine Kept_gate ?_; refine xK ?_) | (refine Ar_gate ?_; first | (first | with_reducible refine Ar_halfU (by omega) ?_) | refine xA ?_) | (first | with_reducible refine Eqv_flip (by omega) ?_ | with_reducible refine Eqv_odd ?_ | refine Eqv_in ?_) | refine Do_ptr_eq_nil tok rfl ?_ | refine Do_ptr_ne_nil tok rfl ?_ | refine Do_nil_eq_nil tok rfl ?_ | refine Nn_in (by omega) ?_ | refine Nz_in (by omega) ?_))
  have e0 : ((D.length + 1 : Nat) : Int) = (D.length : Int) + 1 := by omega
  rw [e0]
  refine DoU_mapPut iI_inj tok keyI H (by repeat first | exact List.Mem.head _ | refine List.Mem.tail _ ?_) rfl (g : Int) (kmap_not hm) _ ?_
  clear H
  intro w H
  replace H := H _ (by repeat first | exact Upd.head | apply Upd.tail)
  rw [kmap_add hm, show D.length + 1 = (D ++ [g]).length by simp] at H
  replace H := H.top 2 rfl (by simp only [List.eraseIdx_cons_succ, List.eraseIdx_cons_zero]; rfl)
  replace H := H.top 2 rfl (by simp only [List.eraseIdx_cons_succ, List.eraseIdx_cons_zero]; rfl)
  replace H := knitClose H
  have hvn := varOf_new hm
  by_cases h0 : g = 0
  · have hcl : clsOf ps (D ++ [g]) g = [[-((D.length : Int) + 1)]] := by unfold clsOf; rw [if_pos h0, hvn]; rfl
    obtain ⟨x, hx⟩ : ∃ x : Int, x = (D.length : Int) + 1 := ⟨_, rfl⟩
    rw [hcl, ← hx]
    (repeat ((try conv => whnf); first | refine Join_dup ?_ | (refine Br_gate ?_; first | with_reducible refine Br_not ?_ | refine xB ?_ | refine xC ?_) | (refine Ld_gate ?_; refine xL ?_) | (refine LdN_gate ?_; refine xM ?_) | (refine St_gate ?_; refine xS ?_; clear H; intro w H) | (refine StN_gate ?_; refine xN ?_; clear H; intro w H) | (refine Kept_gate ?_; refine xK ?_) | (refine Ar_gate ?_; first | (first | with_reducible refine Ar_halfU (by omega) ?_) | refine xA ?_) | (first | with_reducible refine Eqv_flip (by omega) ?_ | with_reducible refine Eqv_odd ?_ | refine Eqv_in ?_) | refine Do_ptr_eq_nil tok rfl ?_ | refine Do_ptr_ne_nil tok rfl ?_ | refine Do_nil_eq_nil tok rfl ?_ | refine Nn_in (by omega) ?_ | refine Nz_in (by omega) ?_))
    rw [Int.zero_sub]
    (repeat ((try conv => whnf); first | refine Join_dup ?_ | (refine Br_gate ?_; first | with_reducible refine Br_not ?_ | refine xB ?_ | refine xC ?_) | (refine Ld_gate ?_; refine xL ?_) | (refine LdN_gate ?_; refine xM ?_) | (refine St_gate ?_; refine xS ?_; clear H; intro w H) | (refine StN_gate ?_; refine xN ?_; clear H; intro w H) | (refine Kept_gate ?_; refine xK ?_) | (refine Ar_gate ?_; first | (first | with_reducible refine Ar_halfU (by omega) ?_) | refine xA ?_) | (first | with_reducible refine Eqv_flip (by omega) ?_ | with_reducible refine Eqv_odd ?_ | refine Eqv_in ?_) | refine Do_ptr_eq_nil tok rfl ?_ | refine Do_ptr_ne_nil tok rfl ?_ | refine Do_nil_eq_nil tok rfl ?_ | refine Nn_in (by omega) ?_ | refine Nz_in (by omega) ?_))
    (refine Nw_sep H ?_; clear H; intro b1 w H; (try simp only [Value.cells, List.toList_toArray, List.append_nil, List.cons_append, List.nil_append] at H))
    (repeat ((try conv => whnf); first | refine Join_dup ?_ | (refine Br_gate ?_; first | with_reducible refine Br_not ?_ | refine xB ?_ | refine xC ?_) | (refine Ld_gate ?_; refine xL ?_) | (refine LdN_gate ?_; refine xM ?_) | (refine St_gate ?_; refine xS ?_; clear H; intro w H) | (refine StN_gate ?_; refine xN ?_; clear H; intro w H) | (refine Kept_gate ?_; refine xK ?_) | (refine Ar_gate ?_; first | (first | with_reducible refine Ar_halfU (by omega) ?_) | refine xA ?_) | (first | with_reducible refine Eqv_flip (by omega) ?_ | with_reducible refine Eqv_odd ?_ | refine Eqv_in ?_) | refine Do_ptr_eq_nil tok rfl ?_ | refine Do_ptr_ne_nil tok rfl ?_ | refine Do_nil_eq_nil tok rfl ?_ | refine Nn_in (by omega) ?_ | refine Nz_in (by omega) ?_))
    (refine Nw_sep H ?_; clear H; intro b2 w H; (try simp only [Value.cells, List.toList_toArray, List.append_nil, List.cons_append, List.nil_append] at H))
    (repeat ((try conv => whnf); first | refine Join_dup ?_ | (refine Br_gate ?_; first | with_reducible refine Br_not ?_ | refine xB ?_ | refine xC ?_) | (refine Ld_gate ?_; refine xL ?_) | (refine LdN_gate ?_; refine xM ?_) | (refine St_gate ?_; refine xS ?_; clear H; intro w H) | (refine StN_gate ?_; refine xN ?_; clear H; intro w H) | (refine Kept_gate ?_; refine xK ?_) | (refine Ar_gate ?_; first | (first | with_reducible refine Ar_halfU (by omega) ?_) | refine xA ?_) | (first | with_reducible refine Eqv_flip (by omega) ?_ | with_reducible refine Eqv_odd ?_ | refine Eqv_in ?_) | refine Do_ptr_eq_nil tok rfl ?_ | refine Do_ptr_ne_nil tok rfl ?_ | refine Do_nil_eq_nil tok rfl ?_ | refine Nn_in (by omega) ?_ | refine Nz_in (by omega) ?_))
    replace H := H.top 2 rfl (by simp only [List.eraseIdx_cons_succ, List.eraseIdx_cons_zero]; rfl)
    refine Call_of (kAdd H (cs := [(some ⟨b1, 0, none⟩, 1, [-x])]) (fun h => h.srcCM 1 1 (List.mem_append_right _ (.head _)) rfl (by decide)) (fun y hy => by
      rw [List.mem_singleton] at hy; subst hy
      exact fun h => h.srcCM 1 1 (List.mem_append_right _ (.tail _ (.head _))) rfl (by decide)) (fun y hy => by rw [List.mem_singleton] at hy; subst hy; show 1 ≤ 1000000; decide) (by simp; omega)) ?_
    clear H
    rintro _ w ⟨rfl, H⟩
    (repeat ((try conv => whnf); first | refine Join_dup ?_ | (refine Br_gate ?_; first | with_reducible refine Br_not ?_ | refine xB ?_ | refine xC ?_) | (refine Ld_gate ?_; refine xL ?_) | (refine LdN_gate ?_; refine xM ?_) | (refine St_gate ?_; refine xS ?_; clear H; intro w H) | (refine StN_gate ?_; refine xN ?_; clear H; intro w H) | (refine Kept_gate ?_; refine xK ?_) | (refine Ar_gate ?_; first | (first | with_reducible refine Ar_halfU (by omega) ?_) | refine xA ?_) | (first | with_reducible refine Eqv_flip (by omega) ?_ | with_reducible refine Eqv_odd ?_ | refine Eqv_in ?_) | refine Do_ptr_eq_nil tok rfl ?_ | refine Do_ptr_ne_nil tok rfl ?_ | refine Do_nil_eq_nil tok rfl ?_ | refine Nn_in (by omega) ?_ | refine Nz_in (by omega) ?_))
    exact Ret_in ⟨rfl, (H.drop 1 rfl rfl).drop 1 rfl rfl⟩
  obtain ⟨mb2, H⟩ := knitOpen H
  (repeat ((try conv => whnf); first | refine Join_dup ?_ | (refine Br_gate ?_; first | with_reducible refine Br_not ?_ | refine xB ?_ | refine xC ?_) | (refine Ld_gate ?_; refine xL ?_) | (refine LdN_gate ?_; refine xM ?_) | (refine St_gate ?_; refine xS ?_; clear H; intro w H) | (refine StN_gate ?_; refine xN ?_; clear H; intro w H) | (refine Kept_gate ?_; refine xK ?_) | (refine Ar_gate ?_; first | (first | with_reducible refine Ar_halfU (by omega) ?_) | refine xA ?_) | (first | with_reducible refine Eqv_flip (by omega) ?_ | with_reducible refine Eqv_odd ?_ | refine Eqv_in ?_) | refine Do_ptr_eq_nil tok rfl ?_ | refine Do_ptr_ne_nil tok rfl ?_ | refine Do_nil_eq_nil tok rfl ?_ | refine Nn_in (by omega) ?_ | refine Nz_in (by omega) ?_))
  refine Call_of (gParts H (.tail _ (.tail _ (.tail _ hg))) (i := (g : Int))) ?_
  clear H
  rintro _ w ⟨rfl, H⟩
  replace H := knitClose H
  cases hp2 : (partsP ps (g : Int)).2.2 with
  | false =>
    have hcl : clsOf ps (D ++ [g]) g = [] := by unfold clsOf; rw [if_neg h0, hp2]; rfl
    rw [hcl, List.append_nil]
    (repeat ((try conv => whnf); first | refine Join_dup ?_ | (refine Br_gate ?_; first | with_reducible refine Br_not ?_ | refine xB ?_ | refine xC ?_) | (refine Ld_gate ?_; refine xL ?_) | (refine LdN_gate ?_; refine xM ?_) | (refine St_gate ?_; refine xS ?_; clear H; intro w H) | (refine StN_gate ?_; refine xN ?_; clear H; intro w H) | (refine Kept_gate ?_; refine xK ?_) | (refine Ar_gate ?_; first | (first | with_reducible refine Ar_halfU (by omega) ?_) | refine xA ?_) | (first | with_reducible refine Eqv_flip (by omega) ?_ | with_reducible refine Eqv_odd ?_ | refine Eqv_in ?_) | refine Do_ptr_eq_nil tok rfl ?_ | refine Do_ptr_ne_nil tok rfl ?_ | refine Do_nil_eq_nil tok rfl ?_ | refine Nn_in (by omega) ?_ | refine Nz_in (by omega) ?_))
    exact Ret_in ⟨rfl, H⟩
  | true =>
  obtain ⟨m1, m2⟩ := hp hp2
  obtain ⟨q, hq, hq0, e1, e2⟩ := parts_some hp2
  rcases hgok.g.ok g q hq with h' | ⟨o1, o2, o3, o4⟩
  · exact (hq0 h').elim
  rw [e1] at m1
  rw [e2] at m2
  have hcl : clsOf ps (D ++ [g]) g = [[-((D.length : Int) + 1), litOf (D ++ [g]) q.1], [-((D.length : Int) + 1), litOf (D ++ [g]) q.2], [(D.length : Int) + 1, -litOf (D ++ [g]) q.1, -litOf (D ++ [g]) q.2]] := by
    unfold clsOf; rw [if_neg h0, if_pos hp2, hvn, e1, e2]; rfl
  rw [hcl, e1, e2]
  have hb : ∀ a, a / 2 ∈ D → -(D.length : Int) ≤ litOf (D ++ [g]) a ∧ litOf (D ++ [g]) a ≤ D.length := by
    intro a ha
    rw [litOf_old _ ha]
    have := varOf_le D (a / 2)
    unfold litOf
    split <;> omega
  have b1 := hb _ m1
  have b2 := hb _ m2
  obtain ⟨x, hx⟩ : ∃ x : Int, x = (D.length : Int) + 1 := ⟨_, rfl⟩
  rw [← hx]
  (repeat ((try conv => whnf); first | refine Join_dup ?_ | (refine Br_gate ?_; first | with_reducible refine Br_not ?_ | refine xB ?_ | refine xC ?_) | (refine Ld_gate ?_; refine xL ?_) | (refine LdN_gate ?_; refine xM ?_) | (refine St_gate ?_; refine xS ?_; clear H; intro w H) | (refine StN_gate ?_; refine xN ?_; clear H; intro w H) | (refine Kept_gate ?_; refine xK ?_) | (refine Ar_gate ?_; first | (first | with_reducible refine Ar_halfU (by omega) ?_) | refine xA ?_) | (first | with_reducible refine Eqv_flip (by omega) ?_ | with_reducible refine Eqv_odd ?_ | refine Eqv_in ?_) | refine Do_ptr_eq_nil tok rfl ?_ | refine Do_ptr_ne_nil tok rfl ?_ | refine Do_nil_eq_nil tok rfl ?_ | refine Nn_in (by omega) ?_ | refine Nz_in (by omega) ?_))
  refine Call_of (kLit H (.head _) (by omega) (by simp; omega)) ?_
  rintro _ _ ⟨rfl, rfl⟩
  (repeat ((try conv => whnf); first | refine Join_dup ?_ | (refine Br_gate ?_; first | with_reducible refine Br_not ?_ | refine xB ?_ | refine xC ?_) | (refine Ld_gate ?_; refine xL ?_) | (refine LdN_gate ?_; refine xM ?_) | (refine St_gate ?_; refine xS ?_; clear H; intro w H) | (refine StN_gate ?_; refine xN ?_; clear H; intro w H) | (refine Kept_gate ?_; refine xK ?_) | (refine Ar_gate ?_; first | (first | with_reducible refine Ar_halfU (by omega) ?_) | refine xA ?_) | (first | with_reducible refine Eqv_flip (by omega) ?_ | with_reducible refine Eqv_odd ?_ | refine Eqv_in ?_) | refine Do_ptr_eq_nil tok rfl ?_ | refine Do_ptr_ne_nil tok rfl ?_ | refine Do_nil_eq_nil tok rfl ?_ | refine Nn_in (by omega) ?_ | refine Nz_in (by omega) ?_))
  refine Call_of (kLit H (.head _) (by omega) (by simp; omega)) ?_
  rintro _ _ ⟨rfl, rfl⟩
  generalize litOf (D ++ [g]) q.1 = y1 at *
  generalize litOf (D ++ [g]) q.2 = y2 at *
  (repeat ((try conv => whnf); first | refine Join_dup ?_ | (refine Br_gate ?_; first | with_reducible refine Br_not ?_ | refine xB ?_ | refine xC ?_) | (refine Ld_gate ?_; refine xL ?_) | (refine LdN_gate ?_; refine xM ?_) | (refine St_gate ?_; refine xS ?_; clear H; intro w H) | (refine StN_gate ?_; refine xN ?_; clear H; intro w H) | (refine Kept_gate ?_; refine xK ?_) | (refine Ar_gate ?_; first | (first | with_reducible refine Ar_halfU (by omega) ?_) | refine xA ?_) | (first | with_reducible refine Eqv_flip (by omega) ?_ | with_reducible refine Eqv_odd ?_ | refine Eqv_in ?_) | refine Do_ptr_eq_nil tok rfl ?_ | refine Do_ptr_ne_nil tok rfl ?_ | refine Do_nil_eq_nil tok rfl ?_ | refine Nn_in (by omega) ?_ | refine Nz_in (by omega) ?_))
  rw [Int.zero_sub]
  (repeat ((try conv => whnf); first | refine Join_dup ?_ | (refine Br_gate ?_; first | with_reducible refine Br_not ?_ | refine xB ?_ | refine xC ?_) | (refine Ld_gate ?_; refine xL ?_) | (refine LdN_gate ?_; refine xM ?_) | (refine St_gate ?_; refine xS ?_; clear H; intro w H) | (refine StN_gate ?_; refine xN ?_; clear H; intro w H) | (refine Kept_gate ?_; refine xK ?_) | (refine Ar_gate ?_; first | (first | with_reducible refine Ar_halfU (by omega) ?_) | refine xA ?_) | (first | with_reducible refine Eqv_flip (by omega) ?_ | with_reducible refine Eqv_odd ?_ | refine Eqv_in ?_) | refine Do_ptr_eq_nil tok rfl ?_ | refine Do_ptr_ne_nil tok rfl ?_ | refine Do_nil_eq_nil tok rfl ?_ | refine Nn_in (by omega) ?_ | refine Nz_in (by omega) ?_))
  (refine Nw_sep H ?_; clear H; intro c1 w H; (try simp only [Value.cells, List.toList_toArray, List.append_nil, List.cons_append, List.nil_append] at H))
  (repeat ((try conv => whnf); first | refine Join_dup ?_ | (refine Br_gate ?_; first | with_reducible refine Br_not ?_ | refine xB ?_ | refine xC ?_) | (refine Ld_gate ?_; refine xL ?_) | (refine LdN_gate ?_; refine xM ?_) | (refine St_gate ?_; refine xS ?_; clear H; intro w H) | (refine StN_gate ?_; refine xN ?_; clear H; intro w H) | (refine Kept_gate ?_; refine xK ?_) | (refine Ar_gate ?_; first | (first | with_reducible refine Ar_halfU (by omega) ?_) | refine xA ?_) | (first | with_reducible refine Eqv_flip (by omega) ?_ | with_reducible refine Eqv_odd ?_ | refine Eqv_in ?_) | refine Do_ptr_eq_nil tok rfl ?_ | refine Do_ptr_ne_nil tok rfl ?_ | refine Do_nil_eq_nil tok rfl ?_ | refine Nn_in (by omega) ?_ | refine Nz_in (by omega) ?_))
  rw [Int.zero_sub]
  (repeat ((try conv => whnf); first | refine Join_dup ?_ | (refine Br_gate ?_; first | with_reducible refine Br_not ?_ | refine xB ?_ | refine xC ?_) | (refine Ld_gate ?_; refine xL ?_) | (refine LdN_gate ?_; refine xM ?_) | (refine St_gate ?_; refine xS ?_; clear H; intro w H) | (refine StN_gate ?_; refine xN ?_; clear H; intro w H) | (refine Kept_gate ?_; refine xK ?_) | (refine Ar_gate ?_; first | (first | with_reducible refine Ar_halfU (by omega) ?_) | refine xA ?_) | (first | with_reducible refine Eqv_flip (by omega) ?_ | with_reducible refine Eqv_odd ?_ | refine Eqv_in ?_) | refine Do_ptr_eq_nil tok rfl ?_ | refine Do_ptr_ne_nil tok rfl ?_ | refine Do_nil_eq_nil tok rfl ?_ | refine Nn_in (by omega) ?_ | refine Nz_in (by omega) ?_))
  (refine Nw_sep H ?_; clear H; intro c2 w H; (try simp only [Value.cells, List.toList_toArray, List.append_nil, List.cons_append, List.nil_append] at H))
  (repeat ((try conv => whnf); first | refine Join_dup ?_ | (refine Br_gate ?_; first | with_reducible refine Br_not ?_ | refine xB ?_ | refine xC ?_) | (refine Ld_gate ?_; refine xL ?_) | (refine LdN_gate ?_; refine xM ?_) | (refine St_gate ?_; refine xS ?_; clear H; intro w H) | (refine StN_gate ?_; refine xN ?_; clear H; intro w H) | (refine Kept_gate ?_; refine xK ?_) | (refine Ar_gate ?_; first | (first | with_reducible refine Ar_halfU (by omega) ?_) | refine xA ?_) | (first | with_reducible refine Eqv_flip (by omega) ?_ | with_reducible refine Eqv_odd ?_ | refine Eqv_in ?_) | refine Do_ptr_eq_nil tok rfl ?_ | refine Do_ptr_ne_nil tok rfl ?_ | refine Do_nil_eq_nil tok rfl ?_ | refine Nn_in (by omega) ?_ | refine Nz_in (by omega) ?_))
  rw [Int.zero_sub]
  (repeat ((try conv => whnf); first | refine Join_dup ?_ | (refine Br_gate ?_; first | with_reducible refine Br_not ?_ | refine xB ?_ | refine xC ?_) | (refine Ld_gate ?_; refine xL ?_) | (refine LdN_gate ?_; refine xM ?_) | (refine St_gate ?_; refine xS ?_; clear H; intro w H) | (refine StN_gate ?_; refine xN ?_; clear H; intro w H) | (refine Kept_gate ?_; refine xK ?_) | (refine Ar_gate ?_; first | (first | with_reducible refine Ar_halfU (by omega) ?_) | refine xA ?_) | (first | with_reducible refine Eqv_flip (by omega) ?_ | with_reducible refine Eqv_odd ?_ | refine Eqv_in ?_) | refine Do_ptr_eq_nil tok rfl ?_ | refine Do_ptr_ne_nil tok rfl ?_ | refine Do_nil_eq_nil tok rfl ?_ | refine Nn_in (by omega) ?_ | refine Nz_in (by omega) ?_))
  rw [Int.zero_sub]
  (repeat ((try conv => whnf); first | refine Join_dup ?_ | (refine Br_gate ?_; first | with_reducible refine Br_not ?_ | refine xB ?_ | refine xC ?_) | (refine Ld_gate ?_; refine xL ?_) | (refine LdN_gate ?_; refine xM ?_) | (refine St_gate ?_; refine xS ?_; clear H; intro w H) | (refine StN_gate ?_; refine xN ?_; clear H; intro w H) | (refine Kept_gate ?_; refine xK ?_) | (refine Ar_gate ?_; first | (first | with_reducible refine Ar_halfU (by omega) ?_) | refine xA ?_) | (first | with_reducible refine Eqv_flip (by omega) ?_ | with_reducible refine Eqv_odd ?_ | refine Eqv_in ?_) | refine Do_ptr_eq_nil tok rfl ?_ | refine Do_ptr_ne_nil tok rfl ?_ | refine Do_nil_eq_nil tok rfl ?_ | refine Nn_in (by omega) ?_ | refine Nz_in (by omega) ?_))
  (refine Nw_sep H ?_; clear H; intro c3 w H; (try simp only [Value.cells, List.toList_toArray, List.append_nil, List.cons_append, List.nil_append] at H))
  (repeat ((try conv => whnf); first | refine Join_dup ?_ | (refine Br_gate ?_; first | with_reducible refine Br_not ?_ | refine xB ?_ | refine xC ?_) | (refine Ld_gate ?_; refine xL ?_) | (refine LdN_gate ?_; refine xM ?_) | (refine St_gate ?_; refine xS ?_; clear H; intro w H) | (refine StN_gate ?_; refine xN ?_; clear H; intro w H) | (refine Kept_gate ?_; refine xK ?_) | (refine Ar_gate ?_; first | (first | with_reducible refine Ar_halfU (by omega) ?_) | refine xA ?_) | (first | with_reducible refine Eqv_flip (by omega) ?_ | with_reducible refine Eqv_odd ?_ | refine Eqv_in ?_) | refine Do_ptr_eq_nil tok rfl ?_ | refine Do_ptr_ne_nil tok rfl ?_ | refine Do_nil_eq_nil tok rfl ?_ | refine Nn_in (by omega) ?_ | refine Nz_in (by omega) ?_))
  (refine Nw_sep H ?_; clear H; intro c4 w H; (try simp only [Value.cells, List.toList_toArray, List.append_nil, List.cons_append, List.nil_append] at H))
  (repeat ((try conv => whnf); first | refine Join_dup ?_ | (refine Br_gate ?_; first | with_reducible refine Br_not ?_ | refine xB ?_ | refine xC ?_) | (refine Ld_gate ?_; refine xL ?_) | (refine LdN_gate ?_; refine xM ?_) | (refine St_gate ?_; refine xS ?_; clear H; intro w H) | (refine StN_gate ?_; refine xN ?_; clear H; intro w H) | (refine Kept_gate ?_; refine xK ?_) | (refine Ar_gate ?_; first | (first | with_reducible refine Ar_halfU (by omega) ?_) | refine xA ?_) | (first | with_reducible refine Eqv_flip (by omega) ?_ | with_reducible refine Eqv_odd ?_ | refine Eqv_in ?_) | refine Do_ptr_eq_nil tok rfl ?_ | refine Do_ptr_ne_nil tok rfl ?_ | refine Do_nil_eq_nil tok rfl ?_ | refine Nn_in (by omega) ?_ | refine Nz_in (by omega) ?_))
  replace H := H.top 4 rfl (by simp only [List.eraseIdx_cons_succ, List.eraseIdx_cons_zero]; rfl)
  refine Call_of (kAdd H (cs := [(some ⟨c1, 0, none⟩, 2, [-x, y1]), (some ⟨c2, 0, none⟩, 2, [-x, y2]), (some ⟨c3, 0, none⟩, 3, [x, -y1, -y2])]) (fun h => h.srcCM 3 1 (List.mem_append_right _ (.head _)) rfl (by decide)) (fun y hy => by
    simp only [List.mem_cons, List.not_mem_nil, or_false] at hy
    rcases hy with rfl | rfl | rfl
    · exact fun h => h.srcCM 2 1 (List.mem_append_right _ (.tail _ (.tail _ (.tail _ (.head _))))) rfl (by decide)
    · exact fun h => h.srcCM 2 1 (List.mem_append_right _ (.tail _ (.tail _ (.head _)))) rfl (by decide)
    · exact fun h => h.srcCM 3 1 (List.mem_append_right _ (.tail _ (.head _))) rfl (by decide)) (fun y hy => by
    simp only [List.mem_cons, List.not_mem_nil, or_false] at hy
    rcases hy with rfl | rfl | rfl <;> (simp only [List.length_cons, List.length_nil]; omega)) (by simp; omega)) ?_
  clear H
  rintro _ w ⟨rfl, H⟩
  (repeat ((try conv => whnf); first | refine Join_dup ?_ | (refine Br_gate ?_; first | with_reducible refine Br_not ?_ | refine xB ?_ | refine xC ?_) | (refine Ld_gate ?_; refine xL ?_) | (refine LdN_gate ?_; refine xM ?_) | (refine St_gate ?_; refine xS ?_; clear H; intro w H) | (refine StN_gate ?_; refine xN ?_; clear H; intro w H) | (refine Kept_gate ?_; refine xK ?_) | (refine Ar_gate ?_; first | (first | with_reducible refine Ar_halfU (by omega) ?_) | refine xA ?_) | (first | with_reducible refine Eqv_flip (by omega) ?_ | with_reducible refine Eqv_odd ?_ | refine Eqv_in ?_) | refine Do_ptr_eq_nil tok rfl ?_ | refine Do_ptr_ne_nil tok rfl ?_ | refine Do_nil_eq_nil tok rfl ?_ | refine Nn_in (by omega) ?_ | refine Nz_in (by omega) ?_))
  exact Ret_in ⟨rfl, (((H.drop 1 rfl rfl).drop 1 rfl rfl).drop 1 rfl rfl).drop 1 rfl rfl⟩
end
end Go.Proofs.Ytpllmfoaahaciaa
