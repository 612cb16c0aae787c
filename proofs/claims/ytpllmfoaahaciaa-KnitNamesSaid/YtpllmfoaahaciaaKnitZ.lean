/- A knit is made; its other answers. -/
import Derived.Test.YtpllmfoaahaciaaKnitY
namespace Go.Proofs.Ytpllmfoaahaciaa
open Go Go.Vc Go.Gate Go.Knit
set_option linter.unusedVariables false
set_option linter.unusedSimpArgs false
set_option maxHeartbeats 4000000
set_option maxRecDepth 100000

theorem Nw_mapL {α : Type} {enc : α → Value} {w0 w : World} {l : List Res} (H : Sep w0 w l) {K : Nat → World → Prop} (hk : ∀ b w', Sep w0 w' (mapLR b enc (fun _ => none) 0 :: l) → K b w') : Nw w (.map #[] 0) K :=
  ⟨hk _ _ ((H.newObj rfl).head fun S h => ⟨h.b_in, by obtain ⟨o, h1, h2, rfl⟩ := h.obj; exact ⟨_, h1, h2, _, _, rfl, IsMap.nil, rfl⟩⟩)⟩

section
variable {w0 w : World} {l r : List Res} {k gb sb n : Nat} {D : List Nat} {C : List (List Int)} {most : Int}

theorem kNew (H : Sep w0 w (cellsR sb 36 [iI 0, .slice none 0 0, iI most] :: r)) : Does Try.prog 8 #[.pointer (some ⟨gb, 0, none⟩), .iface 31 (.pointer (some ⟨sb, 0, none⟩))] w fun v w' => ∃ k, v = .pointer (some ⟨k, 0, none⟩) ∧ Sep w0 w' (knitR k gb sb [] [] most :: r) := by
  refine Does_intro tok (Try.call8 _ _) Try.func8 rfl (by rfl) ?_
  (repeat ((try conv => whnf); first | refine Join_dup ?_ | (refine Br_gate ?_; first | with_reducible refine Br_not ?_ | refine xB ?_ | refine xC ?_) | (refine Ld_gate ?_; refine xL ?_) | (refine LdN_gate ?_; refine xM ?_) | (refine St_gate ?_; refine xS ?_; clear H; intro w H) | (refine StN_gate ?_; refine xN ?_; clear H; intro w H) | (refine Kept_gate ?_; refine xK ?_) | (refine Ar_gate ?_; first | (first | with_reducible refine Ar_halfU (by omega) ?_) | refine xA ?_) | (first | with_reducible refine Eqv_flip (by omega) ?_ | with_reducible refine Eqv_odd ?_ | refine Eqv_in ?_) | refine Do_ptr_eq_nil tok rfl ?_ | refine Do_ptr_ne_nil tok rfl ?_ | refine Do_nil_eq_nil tok rfl ?_ | refine Nn_in (by omega) ?_ | refine Nz_in (by omega) ?_))
  refine Nw_mapL (enc := iI) H fun mb w H => ?_
  (repeat ((try conv => whnf); first | refine Join_dup ?_ | (refine Br_gate ?_; first | with_reducible refine Br_not ?_ | refine xB ?_ | refine xC ?_) | (refine Ld_gate ?_; refine xL ?_) | (refine LdN_gate ?_; refine xM ?_) | (refine St_gate ?_; refine xS ?_; clear H; intro w H) | (refine StN_gate ?_; refine xN ?_; clear H; intro w H) | (refine Kept_gate ?_; refine xK ?_) | (refine Ar_gate ?_; first | (first | with_reducible refine Ar_halfU (by omega) ?_) | refine xA ?_) | (first | with_reducible refine Eqv_flip (by omega) ?_ | with_reducible refine Eqv_odd ?_ | refine Eqv_in ?_) | refine Do_ptr_eq_nil tok rfl ?_ | refine Do_ptr_ne_nil tok rfl ?_ | refine Do_nil_eq_nil tok rfl ?_ | refine Nn_in (by omega) ?_ | refine Nz_in (by omega) ?_))
  (refine Nw_sep H ?_; clear H; intro kb w H; (try simp only [Value.cells, List.toList_toArray, List.append_nil, List.cons_append, List.nil_append] at H))
  (repeat ((try conv => whnf); first | refine Join_dup ?_ | (refine Br_gate ?_; first | with_reducible refine Br_not ?_ | refine xB ?_ | refine xC ?_) | (refine Ld_gate ?_; refine xL ?_) | (refine LdN_gate ?_; refine xM ?_) | (refine St_gate ?_; refine xS ?_; clear H; intro w H) | (refine StN_gate ?_; refine xN ?_; clear H; intro w H) | (refine Kept_gate ?_; refine xK ?_) | (refine Ar_gate ?_; first | (first | with_reducible refine Ar_halfU (by omega) ?_) | refine xA ?_) | (first | with_reducible refine Eqv_flip (by omega) ?_ | with_reducible refine Eqv_odd ?_ | refine Eqv_in ?_) | refine Do_ptr_eq_nil tok rfl ?_ | refine Do_ptr_ne_nil tok rfl ?_ | refine Do_nil_eq_nil tok rfl ?_ | refine Nn_in (by omega) ?_ | refine Nz_in (by omega) ?_))
  rw [← kmap_nil] at H
  refine Ret_in ⟨kb, rfl, knitClose (mb := mb) ?_⟩
  replace H := H.top 2 rfl (by simp only [List.eraseIdx_cons_succ, List.eraseIdx_cons_zero]; rfl)
  replace H := Sep.big_nil (f := fun (_ : Nat) (x : Cl) => clR x) (Own.nilR H 49 1)
  replace H := H.top 1 rfl (by simp only [List.eraseIdx_cons_succ, List.eraseIdx_cons_zero]; rfl)
  replace H := H.top 2 rfl (by simp only [List.eraseIdx_cons_succ, List.eraseIdx_cons_zero]; rfl)
  replace H := sinkClose (n := 0) (C := []) (R := []) rfl H
  replace H := H.top 2 rfl (by simp only [List.eraseIdx_cons_succ, List.eraseIdx_cons_zero]; rfl)
  replace H := H.top 2 rfl (by simp only [List.eraseIdx_cons_succ, List.eraseIdx_cons_zero]; rfl)
  exact H

theorem DoN_lenMap {α : Type} {enc : α → Value} {m : α → Option Value} {t ty kt el b n : Nat} {cb : Array Bool} (H : Sep w0 w l) (hm : mapLR b enc m n ∈ l) (hd : Tab.d tab t = some (.map kt el)) {K : Value → World → Prop} (hK : K (.int .i64 (n : Int)) w) :
    DoN Try.prog (builtin .len #[t] ty cb #[.map (some b)]) w K := by
  obtain ⟨o, ho, _, es, clock, rfl, hI, hsz⟩ := H.objM hm
  have hu := tok.und hd
  have hg : (getObj b).run Try.prog w = .ok (.map es clock) w := by simp [getObj, Sem.run, ho]
  refine ⟨.inl ⟨_, _, ?_, hK⟩⟩
  show (do pure (Next.value (← Builtin.len_ #[t] ty #[.map (some b)])) : Sem Next).run Try.prog w = _
  rw [Sem.run_bind]
  have : (Builtin.len_ #[t] ty #[.map (some b)]).run Try.prog w = .ok (.int .i64 (n : Int)) w := by
    simp [Builtin.len_, hu, hg, hsz, goInt]
  rw [this, Result.andThen_ok, Sem.run_pure]

theorem kKnown (H : Sep w0 w l) (hm : knitR k gb sb D C most ∈ l) (hD : D.length ≤ 1000000000) : Does Try.prog 14 #[.pointer (some ⟨k, 0, none⟩)] w fun v w' => v = iI D.length ∧ w = w' := by
  obtain ⟨r, hp⟩ := mem_cut hm
  obtain ⟨mb, H⟩ := knitOpen (H.perm hp)
  refine Does_intro tok (Try.call14 _ _) Try.func14 rfl (by rfl) ?_
  (repeat ((try conv => whnf); first | refine Join_dup ?_ | (refine Br_gate ?_; first | with_reducible refine Br_not ?_ | refine xB ?_ | refine xC ?_) | (refine Ld_gate ?_; refine xL ?_) | (refine LdN_gate ?_; refine xM ?_) | (refine St_gate ?_; refine xS ?_; clear H; intro w H) | (refine StN_gate ?_; refine xN ?_; clear H; intro w H) | (refine Kept_gate ?_; refine xK ?_) | (refine Ar_gate ?_; first | (first | with_reducible refine Ar_halfU (by omega) ?_) | refine xA ?_) | (first | with_reducible refine Eqv_flip (by omega) ?_ | with_reducible refine Eqv_odd ?_ | refine Eqv_in ?_) | refine Do_ptr_eq_nil tok rfl ?_ | refine Do_ptr_ne_nil tok rfl ?_ | refine Do_nil_eq_nil tok rfl ?_ | refine Nn_in (by omega) ?_ | refine Nz_in (by omega) ?_))
  refine DoN_lenMap H (by repeat first | exact List.Mem.head _ | refine List.Mem.tail _ ?_) rfl ?_
  (repeat ((try conv => whnf); first | refine Join_dup ?_ | (refine Br_gate ?_; first | with_reducible refine Br_not ?_ | refine xB ?_ | refine xC ?_) | (refine Ld_gate ?_; refine xL ?_) | (refine LdN_gate ?_; refine xM ?_) | (refine St_gate ?_; refine xS ?_; clear H; intro w H) | (refine StN_gate ?_; refine xN ?_; clear H; intro w H) | (refine Kept_gate ?_; refine xK ?_) | (refine Ar_gate ?_; first | (first | with_reducible refine Ar_halfU (by omega) ?_) | refine xA ?_) | (first | with_reducible refine Eqv_flip (by omega) ?_ | with_reducible refine Eqv_odd ?_ | refine Eqv_in ?_) | refine Do_ptr_eq_nil tok rfl ?_ | refine Do_ptr_ne_nil tok rfl ?_ | refine Do_nil_eq_nil tok rfl ?_ | refine Nn_in (by omega) ?_ | refine Nz_in (by omega) ?_))
  exact Ret_in ⟨rfl, rfl⟩

theorem kValue (H : Sep w0 w l) (hm : knitR k gb sb D C most ∈ l) {M : List Bool} {a : Option Addr} {c : Nat} (hs : Src w a M.length 1 (M.map bV)) {e i : Nat} (he : e ≤ 4294967295) (hi : varOf D (e / 2) = i + 1) (hM : i < M.length) (hMl : M.length ≤ 1000000000) :
    Does Try.prog 12 #[.pointer (some ⟨k, 0, none⟩), .slice a M.length c, eV e] w fun v w' => v = .tuple #[.bool (M[i]?.getD false != decide (e % 2 = 1)), .bool true] ∧ w = w' := by
  obtain ⟨r, hp⟩ := mem_cut hm
  obtain ⟨mb, H⟩ := knitOpen (H.perm hp)
  refine Does_intro tok (Try.call12 _ _) Try.func12 rfl (by rfl) ?_
  (repeat ((try conv => whnf); first | refine Join_dup ?_ | (refine Br_gate ?_; first | with_reducible refine Br_not ?_ | refine xB ?_ | refine xC ?_) | (refine Ld_gate ?_; refine xL ?_) | (refine LdN_gate ?_; refine xM ?_) | (refine St_gate ?_; refine xS ?_; clear H; intro w H) | (refine StN_gate ?_; refine xN ?_; clear H; intro w H) | (refine Kept_gate ?_; refine xK ?_) | (refine Ar_gate ?_; first | (first | with_reducible refine Ar_halfU (by omega) ?_) | refine xA ?_) | (first | with_reducible refine Eqv_flip (by omega) ?_ | with_reducible refine Eqv_odd ?_ | refine Eqv_in ?_) | refine Do_ptr_eq_nil tok rfl ?_ | refine Do_ptr_ne_nil tok rfl ?_ | refine Do_nil_eq_nil tok rfl ?_ | refine Nn_in (by omega) ?_ | refine Nz_in (by omega) ?_))
  refine Do_lookupL tok keyI H (by repeat first | exact List.Mem.head _ | refine List.Mem.tail _ ?_) rfl rfl ((e / 2 : Nat) : Int) ?_
  simp only [Bool.false_eq_true, if_false]
  rw [kmap_get, hi]
  obtain ⟨b1, o1, rfl⟩ := hs.addr (by rw [List.length_map]; omega)
  (repeat ((try conv => whnf); first | refine Join_dup ?_ | (refine Br_gate ?_; first | with_reducible refine Br_not ?_ | refine xB ?_ | refine xC ?_) | (refine Ld_gate ?_; refine xL ?_) | (refine LdN_gate ?_; refine xM ?_) | (refine St_gate ?_; refine xS ?_; clear H; intro w H) | (refine StN_gate ?_; refine xN ?_; clear H; intro w H) | (refine Kept_gate ?_; refine xK ?_) | (refine Ar_gate ?_; first | (first | with_reducible refine Ar_halfU (by omega) ?_) | refine xA ?_) | (first | with_reducible refine Eqv_flip (by omega) ?_ | with_reducible refine Eqv_odd ?_ | refine Eqv_in ?_) | refine Do_ptr_eq_nil tok rfl ?_ | refine Do_ptr_ne_nil tok rfl ?_ | refine Do_nil_eq_nil tok rfl ?_ | refine Nn_in (by omega) ?_ | refine Nz_in (by omega) ?_))
  refine Ix_in i (by omega) hM ?_
  (repeat ((try conv => whnf); first | refine Join_dup ?_ | (refine Br_gate ?_; first | with_reducible refine Br_not ?_ | refine xB ?_ | refine xC ?_) | (refine Ld_gate ?_; refine xL ?_) | (refine LdN_gate ?_; refine xM ?_) | (refine St_gate ?_; refine xS ?_; clear H; intro w H) | (refine StN_gate ?_; refine xN ?_; clear H; intro w H) | (refine Kept_gate ?_; refine xK ?_) | (refine Ar_gate ?_; first | (first | with_reducible refine Ar_halfU (by omega) ?_) | refine xA ?_) | (first | with_reducible refine Eqv_flip (by omega) ?_ | with_reducible refine Eqv_odd ?_ | refine Eqv_in ?_) | refine Do_ptr_eq_nil tok rfl ?_ | refine Do_ptr_ne_nil tok rfl ?_ | refine Do_nil_eq_nil tok rfl ?_ | refine Nn_in (by omega) ?_ | refine Nz_in (by omega) ?_))
  refine Ld_src (j := i) hs (v := bV (M[i]?.getD false)) (by rw [List.getElem?_map, List.getElem?_eq_getElem hM]; rfl) ?_
  (repeat ((try conv => whnf); first | refine Join_dup ?_ | (refine Br_gate ?_; first | with_reducible refine Br_not ?_ | refine xB ?_ | refine xC ?_) | (refine Ld_gate ?_; refine xL ?_) | (refine LdN_gate ?_; refine xM ?_) | (refine St_gate ?_; refine xS ?_; clear H; intro w H) | (refine StN_gate ?_; refine xN ?_; clear H; intro w H) | (refine Kept_gate ?_; refine xK ?_) | (refine Ar_gate ?_; first | (first | with_reducible refine Ar_halfU (by omega) ?_) | refine xA ?_) | (first | with_reducible refine Eqv_flip (by omega) ?_ | with_reducible refine Eqv_odd ?_ | refine Eqv_in ?_) | refine Do_ptr_eq_nil tok rfl ?_ | refine Do_ptr_ne_nil tok rfl ?_ | refine Do_nil_eq_nil tok rfl ?_ | refine Nn_in (by omega) ?_ | refine Nz_in (by omega) ?_))
  refine Do_bool_ne tok rfl ?_
  (repeat ((try conv => whnf); first | refine Join_dup ?_ | (refine Br_gate ?_; first | with_reducible refine Br_not ?_ | refine xB ?_ | refine xC ?_) | (refine Ld_gate ?_; refine xL ?_) | (refine LdN_gate ?_; refine xM ?_) | (refine St_gate ?_; refine xS ?_; clear H; intro w H) | (refine StN_gate ?_; refine xN ?_; clear H; intro w H) | (refine Kept_gate ?_; refine xK ?_) | (refine Ar_gate ?_; first | (first | with_reducible refine Ar_halfU (by omega) ?_) | refine xA ?_) | (first | with_reducible refine Eqv_flip (by omega) ?_ | with_reducible refine Eqv_odd ?_ | refine Eqv_in ?_) | refine Do_ptr_eq_nil tok rfl ?_ | refine Do_ptr_ne_nil tok rfl ?_ | refine Do_nil_eq_nil tok rfl ?_ | refine Nn_in (by omega) ?_ | refine Nz_in (by omega) ?_))
  refine Ret_in ⟨?_, rfl⟩
  have e : (((e % 2 : Nat) : Int) == 1) = decide (e % 2 = 1) := by rw [Bool.eq_iff_iff, beq_iff_eq, decide_eq_true_iff]; omega
  rw [e]
  have e2 : ∀ a b : Bool, (!(a == b)) = (a != b) := fun a b => rfl
  rfl

theorem kValue_no (H : Sep w0 w l) (hm : knitR k gb sb D C most ∈ l) {m c : Nat} {a : Option Addr} {e : Nat} (he : e ≤ 4294967295) (hi : varOf D (e / 2) = 0) :
    Does Try.prog 12 #[.pointer (some ⟨k, 0, none⟩), .slice a m c, eV e] w fun v w' => v = .tuple #[.bool false, .bool false] ∧ w = w' := by
  obtain ⟨r, hp⟩ := mem_cut hm
  obtain ⟨mb, H⟩ := knitOpen (H.perm hp)
  refine Does_intro tok (Try.call12 _ _) Try.func12 rfl (by rfl) ?_
  (repeat ((try conv => whnf); first | refine Join_dup ?_ | (refine Br_gate ?_; first | with_reducible refine Br_not ?_ | refine xB ?_ | refine xC ?_) | (refine Ld_gate ?_; refine xL ?_) | (refine LdN_gate ?_; refine xM ?_) | (refine St_gate ?_; refine xS ?_; clear H; intro w H) | (refine StN_gate ?_; refine xN ?_; clear H; intro w H) | (refine Kept_gate ?_; refine xK ?_) | (refine Ar_gate ?_; first | (first | with_reducible refine Ar_halfU (by omega) ?_) | refine xA ?_) | (first | with_reducible refine Eqv_flip (by omega) ?_ | with_reducible refine Eqv_odd ?_ | refine Eqv_in ?_) | refine Do_ptr_eq_nil tok rfl ?_ | refine Do_ptr_ne_nil tok rfl ?_ | refine Do_nil_eq_nil tok rfl ?_ | refine Nn_in (by omega) ?_ | refine Nz_in (by omega) ?_))
  refine Do_lookupL tok keyI H (by repeat first | exact List.Mem.head _ | refine List.Mem.tail _ ?_) rfl rfl ((e / 2 : Nat) : Int) ?_
  simp only [Bool.false_eq_true, if_false]
  rw [kmap_get, hi]
  (repeat ((try conv => whnf); first | refine Join_dup ?_ | (refine Br_gate ?_; first | with_reducible refine Br_not ?_ | refine xB ?_ | refine xC ?_) | (refine Ld_gate ?_; refine xL ?_) | (refine LdN_gate ?_; refine xM ?_) | (refine St_gate ?_; refine xS ?_; clear H; intro w H) | (refine StN_gate ?_; refine xN ?_; clear H; intro w H) | (refine Kept_gate ?_; refine xK ?_) | (refine Ar_gate ?_; first | (first | with_reducible refine Ar_halfU (by omega) ?_) | refine xA ?_) | (first | with_reducible refine Eqv_flip (by omega) ?_ | with_reducible refine Eqv_odd ?_ | refine Eqv_in ?_) | refine Do_ptr_eq_nil tok rfl ?_ | refine Do_ptr_ne_nil tok rfl ?_ | refine Do_nil_eq_nil tok rfl ?_ | refine Nn_in (by omega) ?_ | refine Nz_in (by omega) ?_))
  exact Ret_in ⟨rfl, rfl⟩
end
end Go.Proofs.Ytpllmfoaahaciaa
