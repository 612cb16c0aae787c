/- An edge's literal. -/
import Derived.Test.YtpllmfoaahaciaaKnitX
namespace Go.Knit
open Go.Gate Go.Proofs.Ytpllmfoaahaciaa
theorem KOk.more {ps : List (Nat × Nat)} {D : List Nat} {C : List (List Int)} (h : KOk ps D C) {g : Nat} (hg : g < ps.length) (hp : (partsP ps g).2.2 = true → (partsP ps g).1 / 2 ∈ D ∧ (partsP ps g).2.1 / 2 ∈ D) (hm : g ∉ D) : D.length < ps.length := by
  have := (h.defd hg hp).few
  unfold defP at this
  rw [if_neg hm] at this
  simp only [List.length_append, List.length_singleton] at this
  omega
theorem litP_old {ps : List (Nat × Nat)} {s : List Nat × List (List Int)} {a : Nat} (h : a / 2 ∈ s.1) : litP ps s a = s := by unfold litP; rw [if_pos h]
end Go.Knit
namespace Go.Proofs.Ytpllmfoaahaciaa
open Go Go.Vc Go.Gate Go.Knit
set_option linter.unusedVariables false
set_option linter.unusedSimpArgs false
set_option maxHeartbeats 4000000
set_option maxRecDepth 100000

section
variable {w0 w : World} {l r : List Res} {k gb sb n : Nat} {D : List Nat} {C : List (List Int)} {most : Int}

theorem kEdge (H : Sep w0 w (knitR k gb sb D C most :: r)) {ps : List (Nat × Nat)} {ins : List Nat} (hg : gR gb ps ins ∈ r) (hk : KOk ps D C) {a : Nat} (ha : a / 2 < ps.length) (hmost : (ps.length : Int) ≤ most) :
    Does Try.prog 10 #[.pointer (some ⟨k, 0, none⟩), eV a] w fun v w' => v = .tuple #[lV (litOf (litP ps (D, C) a).1 a), iI 0] ∧ Sep w0 w' (knitR k gb sb (litP ps (D, C) a).1 (litP ps (D, C) a).2 most :: r) := by
  have hgok := graphOk H (.tail _ hg)
  have hmx := hgok.max
  have hfew := hk.few
  have hlp : litP ps (D, C) a = if a / 2 ∈ D then (D, C) else (rowOf ps a).foldl (defP ps) (D, C) := rfl
  have hlok := litP_ok hgok.g hk ha
  refine Does_intro tok (Try.call10 _ _) Try.func10 rfl (by rfl) ?_
  (repeat ((try conv => whnf); first | refine Join_dup ?_ | (refine Br_gate ?_; first | with_reducible refine Br_not ?_ | refine xB ?_ | refine xC ?_) | (refine Ld_gate ?_; refine xL ?_) | (refine LdN_gate ?_; refine xM ?_) | (refine St_gate ?_; refine xS ?_; clear H; intro w H) | (refine StN_gate ?_; refine xN ?_; clear H; intro w H) | (refine Kept_gate ?_; refine xK ?_) | (refine Ar_gate ?_; first | (first | with_reducible refine Ar_halfU (by omega) ?_) | refine xA ?_) | (first | with_reducible refine Eqv_flip (by omega) ?_ | with_reducible refine Eqv_odd ?_ | refine Eqv_in ?_) | refine Do_ptr_eq_nil tok rfl ?_ | refine Do_ptr_ne_nil tok rfl ?_ | refine Do_nil_eq_nil tok rfl ?_ | refine Nn_in (by omega) ?_ | refine Nz_in (by omega) ?_))
  refine Call_of (kVar H (.head _) (g := a / 2)) ?_
  rintro _ _ ⟨rfl, rfl⟩
  by_cases hm : a / 2 ∈ D
  · have := varOf_pos.2 hm
    rw [hlp, if_pos hm]
    (repeat ((try conv => whnf); first | refine Join_dup ?_ | (refine Br_gate ?_; first | with_reducible refine Br_not ?_ | refine xB ?_ | refine xC ?_) | (refine Ld_gate ?_; refine xL ?_) | (refine LdN_gate ?_; refine xM ?_) | (refine St_gate ?_; refine xS ?_; clear H; intro w H) | (refine StN_gate ?_; refine xN ?_; clear H; intro w H) | (refine Kept_gate ?_; refine xK ?_) | (refine Ar_gate ?_; first | (first | with_reducible refine Ar_halfU (by omega) ?_) | refine xA ?_) | (first | with_reducible refine Eqv_flip (by omega) ?_ | with_reducible refine Eqv_odd ?_ | refine Eqv_in ?_) | refine Do_ptr_eq_nil tok rfl ?_ | refine Do_ptr_ne_nil tok rfl ?_ | refine Do_nil_eq_nil tok rfl ?_ | refine Nn_in (by omega) ?_ | refine Nz_in (by omega) ?_))
    refine Call_of (kLit H (.head _) (by omega) (by omega)) ?_
    rintro _ _ ⟨rfl, rfl⟩
    (repeat ((try conv => whnf); first | refine Join_dup ?_ | (refine Br_gate ?_; first | with_reducible refine Br_not ?_ | refine xB ?_ | refine xC ?_) | (refine Ld_gate ?_; refine xL ?_) | (refine LdN_gate ?_; refine xM ?_) | (refine St_gate ?_; refine xS ?_; clear H; intro w H) | (refine StN_gate ?_; refine xN ?_; clear H; intro w H) | (refine Kept_gate ?_; refine xK ?_) | (refine Ar_gate ?_; first | (first | with_reducible refine Ar_halfU (by omega) ?_) | refine xA ?_) | (first | with_reducible refine Eqv_flip (by omega) ?_ | with_reducible refine Eqv_odd ?_ | refine Eqv_in ?_) | refine Do_ptr_eq_nil tok rfl ?_ | refine Do_ptr_ne_nil tok rfl ?_ | refine Do_nil_eq_nil tok rfl ?_ | refine Nn_in (by omega) ?_ | refine Nz_in (by omega) ?_))
    exact Ret_in ⟨rfl, H⟩
  rw [hlp, if_neg hm] at hlok ⊢
  have hrow := rowOf_row hgok.g a
  rw [varOf_not hm]
  obtain ⟨mb, H⟩ := knitOpen H
  (repeat ((try conv => whnf); first | refine Join_dup ?_ | (refine Br_gate ?_; first | with_reducible refine Br_not ?_ | refine xB ?_ | refine xC ?_) | (refine Ld_gate ?_; refine xL ?_) | (refine LdN_gate ?_; refine xM ?_) | (refine St_gate ?_; refine xS ?_; clear H; intro w H) | (refine StN_gate ?_; refine xN ?_; clear H; intro w H) | (refine Kept_gate ?_; refine xK ?_) | (refine Ar_gate ?_; first | (first | with_reducible refine Ar_halfU (by omega) ?_) | refine xA ?_) | (first | with_reducible refine Eqv_flip (by omega) ?_ | with_reducible refine Eqv_odd ?_ | refine Eqv_in ?_) | refine Do_ptr_eq_nil tok rfl ?_ | refine Do_ptr_ne_nil tok rfl ?_ | refine Do_nil_eq_nil tok rfl ?_ | refine Nn_in (by omega) ?_ | refine Nz_in (by omega) ?_))
  (refine Nw_sep H ?_; clear H; intro cb w H; (try simp only [Value.cells, List.toList_toArray, List.append_nil, List.cons_append, List.nil_append] at H))
  (repeat ((try conv => whnf); first | refine Join_dup ?_ | (refine Br_gate ?_; first | with_reducible refine Br_not ?_ | refine xB ?_ | refine xC ?_) | (refine Ld_gate ?_; refine xL ?_) | (refine LdN_gate ?_; refine xM ?_) | (refine St_gate ?_; refine xS ?_; clear H; intro w H) | (refine StN_gate ?_; refine xN ?_; clear H; intro w H) | (refine Kept_gate ?_; refine xK ?_) | (refine Ar_gate ?_; first | (first | with_reducible refine Ar_halfU (by omega) ?_) | refine xA ?_) | (first | with_reducible refine Eqv_flip (by omega) ?_ | with_reducible refine Eqv_odd ?_ | refine Eqv_in ?_) | refine Do_ptr_eq_nil tok rfl ?_ | refine Do_ptr_ne_nil tok rfl ?_ | refine Do_nil_eq_nil tok rfl ?_ | refine Nn_in (by omega) ?_ | refine Nz_in (by omega) ?_))
  refine Call_of (gCone H (xs := [a]) (.tail _ (.tail _ (.tail _ (.tail _ hg)))) (fun h => h.srcCM 1 1 (List.mem_append_right _ (.head _)) rfl (by decide)) (by simpa using ha) (by simp)) ?_
  clear H
  rintro _ w ⟨ca, cc, rfl, H⟩
  have hcl : (coneP ps [a]).length ≤ ps.length := by
    have := (coneTo_len (ps := ps) (xs := [a]) ps.length).2
    unfold coneP; rw [List.length_reverse]; exact this
  replace H := H.top 4 rfl (by simp only [List.eraseIdx_cons_succ, List.eraseIdx_cons_zero]; rfl)
  replace H := H.top 4 rfl (by simp only [List.eraseIdx_cons_succ, List.eraseIdx_cons_zero]; rfl)
  replace H := H.top 4 rfl (by simp only [List.eraseIdx_cons_succ, List.eraseIdx_cons_zero]; rfl)
  replace H := knitClose H
  rcases Nat.eq_zero_or_pos (a / 2) with hz | hz
  case' inl =>
    have er : rowOf ps a = coneP ps [a] ++ [0] := by unfold rowOf; rw [if_pos hz]
    have e1 : (coneP ps [a]).map (fun i : Nat => Value.int .i64 (i : Int)) ++ [.int .i64 0] = (rowOf ps a).map fun i : Nat => Value.int .i64 (i : Int) := by rw [er]; simp
    have e2 : (coneP ps [a]).length + 1 = (rowOf ps a).length := by rw [er]; simp
    (repeat ((try conv => whnf); first | refine Join_dup ?_ | (refine Br_gate ?_; first | with_reducible refine Br_not ?_ | refine xB ?_ | refine xC ?_) | (refine Ld_gate ?_; refine xL ?_) | (refine LdN_gate ?_; refine xM ?_) | (refine St_gate ?_; refine xS ?_; clear H; intro w H) | (refine StN_gate ?_; refine xN ?_; clear H; intro w H) | (refine Kept_gate ?_; refine xK ?_) | (refine Ar_gate ?_; first | (first | with_reducible refine Ar_halfU (by omega) ?_) | refine xA ?_) | (first | with_reducible refine Eqv_flip (by omega) ?_ | with_reducible refine Eqv_odd ?_ | refine Eqv_in ?_) | refine Do_ptr_eq_nil tok rfl ?_ | refine Do_ptr_ne_nil tok rfl ?_ | refine Do_nil_eq_nil tok rfl ?_ | refine Nn_in (by omega) ?_ | refine Nz_in (by omega) ?_))
    (refine Nw_sep H ?_; clear H; intro zb w H; (try simp only [Value.cells, List.toList_toArray, List.append_nil, List.cons_append, List.nil_append] at H))
    (repeat ((try conv => whnf); first | refine Join_dup ?_ | (refine Br_gate ?_; first | with_reducible refine Br_not ?_ | refine xB ?_ | refine xC ?_) | (refine Ld_gate ?_; refine xL ?_) | (refine LdN_gate ?_; refine xM ?_) | (refine St_gate ?_; refine xS ?_; clear H; intro w H) | (refine StN_gate ?_; refine xN ?_; clear H; intro w H) | (refine Kept_gate ?_; refine xK ?_) | (refine Ar_gate ?_; first | (first | with_reducible refine Ar_halfU (by omega) ?_) | refine xA ?_) | (first | with_reducible refine Eqv_flip (by omega) ?_ | with_reducible refine Eqv_odd ?_ | refine Eqv_in ?_) | refine Do_ptr_eq_nil tok rfl ?_ | refine Do_ptr_ne_nil tok rfl ?_ | refine Do_nil_eq_nil tok rfl ?_ | refine Nn_in (by omega) ?_ | refine Nz_in (by omega) ?_))
    (refine DoN_gate ?_; refine append_one tok H rfl rfl rfl rfl rfl (by decide) (by repeat first | exact List.Mem.head _ | refine List.Mem.tail _ ?_) (m := 1) rfl (by simp [oneCell]) (by omega) (by unfold maxLen; omega) ?_; clear H; intro ca2 cc2 w H; replace H := H _ (by repeat first | exact Upd.head | apply Upd.tail))
    (repeat ((try conv => whnf); first | refine Join_dup ?_ | (refine Br_gate ?_; first | with_reducible refine Br_not ?_ | refine xB ?_ | refine xC ?_) | (refine Ld_gate ?_; refine xL ?_) | (refine LdN_gate ?_; refine xM ?_) | (refine St_gate ?_; refine xS ?_; clear H; intro w H) | (refine StN_gate ?_; refine xN ?_; clear H; intro w H) | (refine Kept_gate ?_; refine xK ?_) | (refine Ar_gate ?_; first | (first | with_reducible refine Ar_halfU (by omega) ?_) | refine xA ?_) | (first | with_reducible refine Eqv_flip (by omega) ?_ | with_reducible refine Eqv_odd ?_ | refine Eqv_in ?_) | refine Do_ptr_eq_nil tok rfl ?_ | refine Do_ptr_ne_nil tok rfl ?_ | refine Do_nil_eq_nil tok rfl ?_ | refine Nn_in (by omega) ?_ | refine Nz_in (by omega) ?_))
    rw [e1, e2] at H
    rw [e2]
  case' inr =>
    have er : rowOf ps a = coneP ps [a] := by unfold rowOf; rw [if_neg (by omega)]
    (repeat ((try conv => whnf); first | refine Join_dup ?_ | (refine Br_gate ?_; first | with_reducible refine Br_not ?_ | refine xB ?_ | refine xC ?_) | (refine Ld_gate ?_; refine xL ?_) | (refine LdN_gate ?_; refine xM ?_) | (refine St_gate ?_; refine xS ?_; clear H; intro w H) | (refine StN_gate ?_; refine xN ?_; clear H; intro w H) | (refine Kept_gate ?_; refine xK ?_) | (refine Ar_gate ?_; first | (first | with_reducible refine Ar_halfU (by omega) ?_) | refine xA ?_) | (first | with_reducible refine Eqv_flip (by omega) ?_ | with_reducible refine Eqv_odd ?_ | refine Eqv_in ?_) | refine Do_ptr_eq_nil tok rfl ?_ | refine Do_ptr_ne_nil tok rfl ?_ | refine Do_nil_eq_nil tok rfl ?_ | refine Nn_in (by omega) ?_ | refine Nz_in (by omega) ?_))
    rw [← er] at H ⊢
  all_goals
    have hrl : (rowOf ps a).length ≤ ps.length + 1 := by unfold rowOf; split <;> (try rw [List.length_append, List.length_singleton]) <;> omega
    generalize hL : rowOf ps a = L at *
    refine Loop_intro (fun i : Nat => [(40, .int .i64 (i : Int))]) (fun i w => i ≤ L.length ∧ Sep w0 w (knitR k gb sb ((L.take i).foldl (defP ps) (D, C)).1 ((L.take i).foldl (defP ps) (D, C)).2 most :: ownR _ L.length _ 3 1 (L.map fun i : Nat => .int .i64 (i : Int)) :: cellsR cb 25 [eV a] :: r)) (fun i => L.length - i) 0 ⟨rfl, trivial⟩ ⟨Nat.zero_le _, H⟩ ?_
    clear H
    rintro i w ⟨hi, H⟩
    simp only [] at hi H ⊢
    have hki := hrow.take hk i hi
    refine Br_dec (fun k1 => ?_) (fun k1 => ?_)
    · have hlt : i < L.length := by omega
      obtain ⟨lb, hlb⟩ := (H.ownM (hm := .tail _ (.head _))).some (by omega)
      subst hlb
      have hx : L[i]? = some L[i] := List.getElem?_eq_getElem hlt
      have hxl := hrow.lt _ (List.getElem_mem hlt)
      have hpp : (partsP ps L[i]).2.2 = true → (partsP ps L[i]).1 / 2 ∈ ((L.take i).foldl (defP ps) (D, C)).1 ∧ (partsP ps L[i]).2.1 / 2 ∈ ((L.take i).foldl (defP ps) (D, C)).1 := fun hp => by
        obtain ⟨h1, h2⟩ := hrow.parts i _ hx hp
        exact ⟨fold_in ps _ _ _ h1, fold_in ps _ _ _ h2⟩
      have hnx : (L.take (i + 1)).foldl (defP ps) (D, C) = defP ps ((L.take i).foldl (defP ps) (D, C)) L[i] := by rw [List.take_add_one, hx, List.foldl_append]; rfl
      generalize L[i] = g at *
      generalize (L.take i).foldl (defP ps) (D, C) = st at *
      obtain ⟨D1, C1⟩ := st
      simp only [] at H hki hpp hnx ⊢
      refine Ix_in i rfl hlt ?_
      refine Ld_mO H (by repeat first | exact List.Mem.head _ | refine List.Mem.tail _ ?_) (v := .int .i64 (g : Int)) (by rw [List.getElem?_map, hx]; rfl) ?_
      (repeat ((try conv => whnf); first | refine Join_dup ?_ | (refine Br_gate ?_; first | with_reducible refine Br_not ?_ | refine xB ?_ | refine xC ?_) | (refine Ld_gate ?_; refine xL ?_) | (refine LdN_gate ?_; refine xM ?_) | (refine St_gate ?_; refine xS ?_; clear H; intro w H) | (refine StN_gate ?_; refine xN ?_; clear H; intro w H) | (refine Kept_gate ?_; refine xK ?_) | (refine Ar_gate ?_; first | (first | with_reducible refine Ar_halfU (by omega) ?_) | refine xA ?_) | (first | with_reducible refine Eqv_flip (by omega) ?_ | with_reducible refine Eqv_odd ?_ | refine Eqv_in ?_) | refine Do_ptr_eq_nil tok rfl ?_ | refine Do_ptr_ne_nil tok rfl ?_ | refine Do_nil_eq_nil tok rfl ?_ | refine Nn_in (by omega) ?_ | refine Nz_in (by omega) ?_))
      refine Call_of (kDefine H (.tail _ (.tail _ hg)) hki hxl hpp (fun hn => by have := hki.more hxl hpp hn; omega)) ?_
      clear H
      rintro _ w ⟨rfl, H⟩
      rw [← hnx] at H
      (repeat ((try conv => whnf); first | refine Join_dup ?_ | (refine Br_gate ?_; first | with_reducible refine Br_not ?_ | refine xB ?_ | refine xC ?_) | (refine Ld_gate ?_; refine xL ?_) | (refine LdN_gate ?_; refine xM ?_) | (refine St_gate ?_; refine xS ?_; clear H; intro w H) | (refine StN_gate ?_; refine xN ?_; clear H; intro w H) | (refine Kept_gate ?_; refine xK ?_) | (refine Ar_gate ?_; first | (first | with_reducible refine Ar_halfU (by omega) ?_) | refine xA ?_) | (first | with_reducible refine Eqv_flip (by omega) ?_ | with_reducible refine Eqv_odd ?_ | refine Eqv_in ?_) | refine Do_ptr_eq_nil tok rfl ?_ | refine Do_ptr_ne_nil tok rfl ?_ | refine Do_nil_eq_nil tok rfl ?_ | refine Nn_in (by omega) ?_ | refine Nz_in (by omega) ?_))
      exact ⟨i + 1, ⟨congrArg some (vint (by omega)), trivial⟩, ⟨by omega, H⟩, by omega⟩
    · obtain rfl : i = L.length := by omega
      rw [List.take_length] at H hki
      have hf := hki.few
      (repeat ((try conv => whnf); first | refine Join_dup ?_ | (refine Br_gate ?_; first | with_reducible refine Br_not ?_ | refine xB ?_ | refine xC ?_) | (refine Ld_gate ?_; refine xL ?_) | (refine LdN_gate ?_; refine xM ?_) | (refine St_gate ?_; refine xS ?_; clear H; intro w H) | (refine StN_gate ?_; refine xN ?_; clear H; intro w H) | (refine Kept_gate ?_; refine xK ?_) | (refine Ar_gate ?_; first | (first | with_reducible refine Ar_halfU (by omega) ?_) | refine xA ?_) | (first | with_reducible refine Eqv_flip (by omega) ?_ | with_reducible refine Eqv_odd ?_ | refine Eqv_in ?_) | refine Do_ptr_eq_nil tok rfl ?_ | refine Do_ptr_ne_nil tok rfl ?_ | refine Do_nil_eq_nil tok rfl ?_ | refine Nn_in (by omega) ?_ | refine Nz_in (by omega) ?_))
      refine Call_of (kLit H (.head _) (by omega) (by omega)) ?_
      rintro _ _ ⟨rfl, rfl⟩
      (repeat ((try conv => whnf); first | refine Join_dup ?_ | (refine Br_gate ?_; first | with_reducible refine Br_not ?_ | refine xB ?_ | refine xC ?_) | (refine Ld_gate ?_; refine xL ?_) | (refine LdN_gate ?_; refine xM ?_) | (refine St_gate ?_; refine xS ?_; clear H; intro w H) | (refine StN_gate ?_; refine xN ?_; clear H; intro w H) | (refine Kept_gate ?_; refine xK ?_) | (refine Ar_gate ?_; first | (first | with_reducible refine Ar_halfU (by omega) ?_) | refine xA ?_) | (first | with_reducible refine Eqv_flip (by omega) ?_ | with_reducible refine Eqv_odd ?_ | refine Eqv_in ?_) | refine Do_ptr_eq_nil tok rfl ?_ | refine Do_ptr_ne_nil tok rfl ?_ | refine Do_nil_eq_nil tok rfl ?_ | refine Nn_in (by omega) ?_ | refine Nz_in (by omega) ?_))
      exact Ret_in ⟨rfl, (H.drop 1 rfl rfl).drop 1 rfl rfl⟩
end
end Go.Proofs.Ytpllmfoaahaciaa
