/- What is refused; graphs of acts; the chapter's example. -/
import Derived.Test.YtpllmfoaahaciaaKnitR
namespace Go.Knit
open Go.Gate Go.Proofs.Ytpllmfoaahaciaa
/-- An act: what is made of which two edges. -/
structure KAct where
  kind : Int
  a : Int
  b : Int
def argA (es : List Nat) (p : Int) : Nat := es.getD (clamp es.length p) 0
def makeK (ps : List (Nat × Nat)) (es : List Nat) (x : KAct) : List (Nat × Nat) × Nat :=
  if x.kind = 0 then andP ps 1 [argA es x.a, flip (argA es x.b)] else if x.kind = 1 then orP ps [argA es x.a, argA es x.b] else sameP ps (argA es x.a) (argA es x.b)
structure Mk (n i : Nat) (ps : List (Nat × Nat)) (es : List Nat) : Prop where
  g : GOk ps
  el : es.length = n + 2 + i
  pl : n < ps.length ∧ ps.length ≤ n + 1 + 6 * i
  there : ∀ e ∈ es, e / 2 < ps.length
theorem argA_in {es : List Nat} {p : Int} (h : 0 < es.length) : argA es p ∈ es := by
  have := clamp_lt (p := p) h
  unfold argA
  rw [List.getD_eq_getElem?_getD, List.getElem?_eq_getElem this]
  exact List.getElem_mem _
theorem Mk.arg {n i : Nat} {ps : List (Nat × Nat)} {es : List Nat} (h : Mk n i ps es) (p : Int) : argA es p / 2 < ps.length := h.there _ (argA_in (by have := h.el; omega))
theorem Mk.start {n : Nat} : Mk n 0 (psN n) ([0, 1] ++ insN n) := by
  refine ⟨GOk_psN n, by simp [insN], by rw [psN_len]; omega, fun e he => ?_⟩
  rw [psN_len]
  simp only [insN, List.mem_append, List.mem_cons, List.not_mem_nil, or_false, List.mem_map, List.mem_range] at he
  rcases he with (rfl | rfl) | ⟨j, hj, rfl⟩
  · omega
  · omega
  · omega
theorem Mk.made {n i : Nat} {ps : List (Nat × Nat)} {es : List Nat} (h : Mk n i ps es) (x : KAct) (hi : n ≤ 5 ∧ i ≤ 30) : Grows ps (makeK ps es x).1 6 ∧ (makeK ps es x).2 / 2 < (makeK ps es x).1.length := by
  have h1 := h.pl
  have ha := h.arg x.a
  have hb := h.arg x.b
  unfold makeK
  split
  · have m := and_made1 (xs := [argA es x.a, flip (argA es x.b)]) h.g (fun a hx => by
      simp only [List.mem_cons, List.not_mem_nil, or_false] at hx
      rcases hx with rfl | rfl
      · exact ha
      · rw [flip_div]; exact hb) (by simp only [List.length_cons, List.length_nil]; omega)
    exact ⟨m.grows.mono (by simp), m.there⟩
  · split
    · have m := or_made (xs := [argA es x.a, argA es x.b]) h.g (fun a hx => by
        simp only [List.mem_cons, List.not_mem_nil, or_false] at hx
        rcases hx with rfl | rfl
        · exact ha
        · exact hb) (by simp only [List.length_cons, List.length_nil]; omega)
      exact ⟨m.grows.mono (by simp), m.there⟩
    · have m := same_made h.g ha hb (by omega)
      exact ⟨m.grows, m.there⟩
theorem Mk.next {n i : Nat} {ps : List (Nat × Nat)} {es : List Nat} (h : Mk n i ps es) (x : KAct) (hi : n ≤ 5 ∧ i ≤ 30) : Mk n (i + 1) (makeK ps es x).1 (es ++ [(makeK ps es x).2]) := by
  obtain ⟨m1, m2⟩ := h.made x hi
  have h1 := h.pl
  have h2 := m1.len
  refine ⟨m1.g, by rw [List.length_append, h.el]; rfl, by omega, fun e he => ?_⟩
  rw [List.mem_append, List.mem_singleton] at he
  rcases he with he | rfl
  · have := h.there e he; omega
  · exact m2
end Go.Knit
namespace Go.Proofs.Ytpllmfoaahaciaa
open Go Go.Vc Go.Gate Go.Knit
set_option linter.unusedVariables false
set_option linter.unusedSimpArgs false
set_option maxHeartbeats 4000000
set_option maxRecDepth 100000

theorem clamp_int {n : Nat} {p : Int} (h : 0 < n) : max 0 (min p ((n : Int) - 1)) = (clamp n p : Nat) := by unfold clamp; omega
theorem argA_get {es : List Nat} {p : Int} (h : 0 < es.length) : (es.map eV)[clamp es.length p]? = some (eV (argA es p)) := by
  have := clamp_lt (p := p) h
  unfold argA
  rw [List.getElem?_map, List.getElem?_eq_getElem this, List.getD_eq_getElem?_getD, List.getElem?_eq_getElem this]; rfl
def act3 (x : KAct) : List Value := [iI x.kind, iI x.a, iI x.b]
theorem act3_len (x : KAct) : (act3 x).length = 3 := rfl

section
variable {w0 w W : World} {l r : List Res} {k gb sb n : Nat} {D : List Nat} {C : List (List Int)} {most : Int} {ps : List (Nat × Nat)} {ins : List Nat}

theorem kOpenS (H : Sep w0 w (knitR k gb sb D C most :: r)) : ∃ mb a c R, FSrc w a C R ∧ Sep w0 w (cellsR sb 36 [iI D.length, .slice a C.length c, iI most] :: ownR a C.length c 49 1 (R.map clV) :: bigR (fun _ x => clR x) R ::
    cellsR k 72 [.pointer (some ⟨gb, 0, none⟩), .iface 31 (.pointer (some ⟨sb, 0, none⟩)), .map (some mb)] :: mapLR mb iI (kmap D) D.length :: r) := by
  obtain ⟨mb, H⟩ := knitOpen H
  replace H := H.top 2 rfl (by simp only [List.eraseIdx_cons_succ, List.eraseIdx_cons_zero]; rfl)
  obtain ⟨a, c, R, h1, H⟩ := FSrc.open H
  exact ⟨mb, a, c, R, h1, H⟩
theorem kCloseS {mb : Nat} {a : Option Addr} {c : Nat} {R : List Cl} (hR : R.map (fun x : Cl => x.2.2) = C) (H : Sep w0 w (cellsR sb 36 [iI D.length, .slice a C.length c, iI most] :: ownR a C.length c 49 1 (R.map clV) :: bigR (fun _ x => clR x) R ::
    cellsR k 72 [.pointer (some ⟨gb, 0, none⟩), .iface 31 (.pointer (some ⟨sb, 0, none⟩)), .map (some mb)] :: mapLR mb iI (kmap D) D.length :: r)) : Sep w0 w (knitR k gb sb D C most :: r) := by
  replace H := sinkClose hR H
  replace H := H.top 2 rfl (by simp only [List.eraseIdx_cons_succ, List.eraseIdx_cons_zero]; rfl)
  replace H := H.top 2 rfl (by simp only [List.eraseIdx_cons_succ, List.eraseIdx_cons_zero]; rfl)
  exact knitClose H

theorem kEdge_no (H : Sep w0 w (knitR k gb sb D C most :: r)) (hg : gR gb ps ins ∈ r) (hk : KOk ps D C) {a : Nat} (ha : a ≤ 4294967295) (hn : ¬ a / 2 < ps.length) :
    Does Try.prog 10 #[.pointer (some ⟨k, 0, none⟩), eV a] w fun v w' => v = .tuple #[lV 0, iI 121] ∧ Sep w0 w' (knitR k gb sb D C most :: r) := by
  have hv : varOf D (a / 2) = 0 := varOf_not fun h => hn (hk.lt _ h)
  refine Does_intro tok (Try.call10 _ _) Try.func10 rfl (by rfl) ?_
  (repeat ((try conv => whnf); first | refine Join_dup ?_ | (refine Br_gate ?_; first | with_reducible refine Br_not ?_ | refine xB ?_ | refine xC ?_) | (refine Ld_gate ?_; refine xL ?_) | (refine LdN_gate ?_; refine xM ?_) | (refine St_gate ?_; refine xS ?_; clear H; intro w H) | (refine StN_gate ?_; refine xN ?_; clear H; intro w H) | (refine Kept_gate ?_; refine xK ?_) | (refine Ar_gate ?_; first | (first | with_reducible refine Ar_halfU (by omega) ?_) | refine xA ?_) | (first | with_reducible refine Eqv_flip (by omega) ?_ | with_reducible refine Eqv_odd ?_ | refine Eqv_in ?_) | refine Do_ptr_eq_nil tok rfl ?_ | refine Do_ptr_ne_nil tok rfl ?_ | refine Do_nil_eq_nil tok rfl ?_ | refine Nn_in (by omega) ?_ | refine Nz_in (by omega) ?_))
  refine Call_of (kVar H (.head _) (g := a / 2)) ?_
  rintro _ _ ⟨rfl, rfl⟩
  rw [hv]
  obtain ⟨mb, H⟩ := knitOpen H
  (repeat ((try conv => whnf); first | refine Join_dup ?_ | (refine Br_gate ?_; first | with_reducible refine Br_not ?_ | refine xB ?_ | refine xC ?_) | (refine Ld_gate ?_; refine xL ?_) | (refine LdN_gate ?_; refine xM ?_) | (refine St_gate ?_; refine xS ?_; clear H; intro w H) | (refine StN_gate ?_; refine xN ?_; clear H; intro w H) | (refine Kept_gate ?_; refine xK ?_) | (refine Ar_gate ?_; first | (first | with_reducible refine Ar_halfU (by omega) ?_) | refine xA ?_) | (first | with_reducible refine Eqv_flip (by omega) ?_ | with_reducible refine Eqv_odd ?_ | refine Eqv_in ?_) | refine Do_ptr_eq_nil tok rfl ?_ | refine Do_ptr_ne_nil tok rfl ?_ | refine Do_nil_eq_nil tok rfl ?_ | refine Nn_in (by omega) ?_ | refine Nz_in (by omega) ?_))
  (refine Nw_sep H ?_; clear H; intro cb w H; (try simp only [Value.cells, List.toList_toArray, List.append_nil, List.cons_append, List.nil_append] at H))
  (repeat ((try conv => whnf); first | refine Join_dup ?_ | (refine Br_gate ?_; first | with_reducible refine Br_not ?_ | refine xB ?_ | refine xC ?_) | (refine Ld_gate ?_; refine xL ?_) | (refine LdN_gate ?_; refine xM ?_) | (refine St_gate ?_; refine xS ?_; clear H; intro w H) | (refine StN_gate ?_; refine xN ?_; clear H; intro w H) | (refine Kept_gate ?_; refine xK ?_) | (refine Ar_gate ?_; first | (first | with_reducible refine Ar_halfU (by omega) ?_) | refine xA ?_) | (first | with_reducible refine Eqv_flip (by omega) ?_ | with_reducible refine Eqv_odd ?_ | refine Eqv_in ?_) | refine Do_ptr_eq_nil tok rfl ?_ | refine Do_ptr_ne_nil tok rfl ?_ | refine Do_nil_eq_nil tok rfl ?_ | refine Nn_in (by omega) ?_ | refine Nz_in (by omega) ?_))
  have hno : allIn ps [a] = false := by
    cases h : allIn ps [a] with
    | false => rfl
    | true => exact (hn (allIn_iff.1 h a (by simp))).elim
  refine Call_of (gCone_no H (xs := [a]) (.tail _ (.tail _ (.tail _ (.tail _ hg)))) (H.srcCM 1 1 (.head _) rfl (by decide)) hno (by simp [maxLen]) (by simpa using ha)) ?_
  clear H
  rintro _ w ⟨rfl, H⟩
  replace H := knitClose H.tail
  (repeat ((try conv => whnf); first | refine Join_dup ?_ | (refine Br_gate ?_; first | with_reducible refine Br_not ?_ | refine xB ?_ | refine xC ?_) | (refine Ld_gate ?_; refine xL ?_) | (refine LdN_gate ?_; refine xM ?_) | (refine St_gate ?_; refine xS ?_; clear H; intro w H) | (refine StN_gate ?_; refine xN ?_; clear H; intro w H) | (refine Kept_gate ?_; refine xK ?_) | (refine Ar_gate ?_; first | (first | with_reducible refine Ar_halfU (by omega) ?_) | refine xA ?_) | (first | with_reducible refine Eqv_flip (by omega) ?_ | with_reducible refine Eqv_odd ?_ | refine Eqv_in ?_) | refine Do_ptr_eq_nil tok rfl ?_ | refine Do_ptr_ne_nil tok rfl ?_ | refine Do_nil_eq_nil tok rfl ?_ | refine Nn_in (by omega) ?_ | refine Nz_in (by omega) ?_))
  exact Ret_in ⟨rfl, H⟩

theorem kDefine_no (H : Sep w0 w (knitR k gb sb D C most :: r)) {g : Nat} (hm : g ∉ D) (hmost : most ≤ (D.length : Int)) :
    Does Try.prog 25 #[.pointer (some ⟨k, 0, none⟩), iI g] w fun v w' => v = iI 121 ∧ Sep w0 w' (knitR k gb sb D C most :: r) := by
  obtain ⟨mb, H⟩ := knitOpen H
  refine Does_intro tok (Try.call25 _ _) Try.func25 rfl (by rfl) ?_
  (repeat ((try conv => whnf); first | refine Join_dup ?_ | (refine Br_gate ?_; first | with_reducible refine Br_not ?_ | refine xB ?_ | refine xC ?_) | (refine Ld_gate ?_; refine xL ?_) | (refine LdN_gate ?_; refine xM ?_) | (refine St_gate ?_; refine xS ?_; clear H; intro w H) | (refine StN_gate ?_; refine xN ?_; clear H; intro w H) | (refine Kept_gate ?_; refine xK ?_) | (refine Ar_gate ?_; first | (first | with_reducible refine Ar_halfU (by omega) ?_) | refine xA ?_) | (first | with_reducible refine Eqv_flip (by omega) ?_ | with_reducible refine Eqv_odd ?_ | refine Eqv_in ?_) | refine Do_ptr_eq_nil tok rfl ?_ | refine Do_ptr_ne_nil tok rfl ?_ | refine Do_nil_eq_nil tok rfl ?_ | refine Nn_in (by omega) ?_ | refine Nz_in (by omega) ?_))
  refine Do_lookupL tok keyI H (by repeat first | exact List.Mem.head _ | refine List.Mem.tail _ ?_) rfl rfl (g : Int) ?_
  simp only [Bool.false_eq_true, if_false]
  rw [kmap_get, varOf_not hm]
  (repeat ((try conv => whnf); first | refine Join_dup ?_ | (refine Br_gate ?_; first | with_reducible refine Br_not ?_ | refine xB ?_ | refine xC ?_) | (refine Ld_gate ?_; refine xL ?_) | (refine LdN_gate ?_; refine xM ?_) | (refine St_gate ?_; refine xS ?_; clear H; intro w H) | (refine StN_gate ?_; refine xN ?_; clear H; intro w H) | (refine Kept_gate ?_; refine xK ?_) | (refine Ar_gate ?_; first | (first | with_reducible refine Ar_halfU (by omega) ?_) | refine xA ?_) | (first | with_reducible refine Eqv_flip (by omega) ?_ | with_reducible refine Eqv_odd ?_ | refine Eqv_in ?_) | refine Do_ptr_eq_nil tok rfl ?_ | refine Do_ptr_ne_nil tok rfl ?_ | refine Do_nil_eq_nil tok rfl ?_ | refine Nn_in (by omega) ?_ | refine Nz_in (by omega) ?_))
  replace H := H.top 2 rfl (by simp only [List.eraseIdx_cons_succ, List.eraseIdx_cons_zero]; rfl)
  refine DoN_method (iVar _ _ _) (sVar_no H hmost) ?_
  clear H
  rintro _ w ⟨rfl, H⟩
  replace H := H.top 2 rfl (by simp only [List.eraseIdx_cons_succ, List.eraseIdx_cons_zero]; rfl)
  replace H := H.top 2 rfl (by simp only [List.eraseIdx_cons_succ, List.eraseIdx_cons_zero]; rfl)
  replace H := knitClose H
  (repeat ((try conv => whnf); first | refine Join_dup ?_ | (refine Br_gate ?_; first | with_reducible refine Br_not ?_ | refine xB ?_ | refine xC ?_) | (refine Ld_gate ?_; refine xL ?_) | (refine LdN_gate ?_; refine xM ?_) | (refine St_gate ?_; refine xS ?_; clear H; intro w H) | (refine StN_gate ?_; refine xN ?_; clear H; intro w H) | (refine Kept_gate ?_; refine xK ?_) | (refine Ar_gate ?_; first | (first | with_reducible refine Ar_halfU (by omega) ?_) | refine xA ?_) | (first | with_reducible refine Eqv_flip (by omega) ?_ | with_reducible refine Eqv_odd ?_ | refine Eqv_in ?_) | refine Do_ptr_eq_nil tok rfl ?_ | refine Do_ptr_ne_nil tok rfl ?_ | refine Do_nil_eq_nil tok rfl ?_ | refine Nn_in (by omega) ?_ | refine Nz_in (by omega) ?_))
  exact Ret_in ⟨rfl, H⟩

theorem kEdge_full (H : Sep w0 w (knitR k gb sb [] C most :: r)) (hg : gR gb ps ins ∈ r) {a : Nat} (ha : a / 2 < ps.length) (h0 : 0 < a / 2) (hmost : most ≤ 0) :
    Does Try.prog 10 #[.pointer (some ⟨k, 0, none⟩), eV a] w fun v w' => v = .tuple #[lV 0, iI 121] ∧ Sep w0 w' (knitR k gb sb [] C most :: r) := by
  have hgok := graphOk H (.tail _ hg)
  have hmx := hgok.max
  have hv : varOf [] (a / 2) = 0 := rfl
  have hin := rowOf_in hgok.g ha
  refine Does_intro tok (Try.call10 _ _) Try.func10 rfl (by rfl) ?_
  (repeat ((try conv => whnf); first | refine Join_dup ?_ | (refine Br_gate ?_; first | with_reducible refine Br_not ?_ | refine xB ?_ | refine xC ?_) | (refine Ld_gate ?_; refine xL ?_) | (refine LdN_gate ?_; refine xM ?_) | (refine St_gate ?_; refine xS ?_; clear H; intro w H) | (refine StN_gate ?_; refine xN ?_; clear H; intro w H) | (refine Kept_gate ?_; refine xK ?_) | (refine Ar_gate ?_; first | (first | with_reducible refine Ar_halfU (by omega) ?_) | refine xA ?_) | (first | with_reducible refine Eqv_flip (by omega) ?_ | with_reducible refine Eqv_odd ?_ | refine Eqv_in ?_) | refine Do_ptr_eq_nil tok rfl ?_ | refine Do_ptr_ne_nil tok rfl ?_ | refine Do_nil_eq_nil tok rfl ?_ | refine Nn_in (by omega) ?_ | refine Nz_in (by omega) ?_))
  refine Call_of (kVar H (.head _) (g := a / 2)) ?_
  rintro _ _ ⟨rfl, rfl⟩
  rw [hv]
  obtain ⟨mb, H⟩ := knitOpen H
  (repeat ((try conv => whnf); first | refine Join_dup ?_ | (refine Br_gate ?_; first | with_reducible refine Br_not ?_ | refine xB ?_ | refine xC ?_) | (refine Ld_gate ?_; refine xL ?_) | (refine LdN_gate ?_; refine xM ?_) | (refine St_gate ?_; refine xS ?_; clear H; intro w H) | (refine StN_gate ?_; refine xN ?_; clear H; intro w H) | (refine Kept_gate ?_; refine xK ?_) | (refine Ar_gate ?_; first | (first | with_reducible refine Ar_halfU (by omega) ?_) | refine xA ?_) | (first | with_reducible refine Eqv_flip (by omega) ?_ | with_reducible refine Eqv_odd ?_ | refine Eqv_in ?_) | refine Do_ptr_eq_nil tok rfl ?_ | refine Do_ptr_ne_nil tok rfl ?_ | refine Do_nil_eq_nil tok rfl ?_ | refine Nn_in (by omega) ?_ | refine Nz_in (by omega) ?_))
  (refine Nw_sep H ?_; clear H; intro cb w H; (try simp only [Value.cells, List.toList_toArray, List.append_nil, List.cons_append, List.nil_append] at H))
  (repeat ((try conv => whnf); first | refine Join_dup ?_ | (refine Br_gate ?_; first | with_reducible refine Br_not ?_ | refine xB ?_ | refine xC ?_) | (refine Ld_gate ?_; refine xL ?_) | (refine LdN_gate ?_; refine xM ?_) | (refine St_gate ?_; refine xS ?_; clear H; intro w H) | (refine StN_gate ?_; refine xN ?_; clear H; intro w H) | (refine Kept_gate ?_; refine xK ?_) | (refine Ar_gate ?_; first | (first | with_reducible refine Ar_halfU (by omega) ?_) | refine xA ?_) | (first | with_reducible refine Eqv_flip (by omega) ?_ | with_reducible refine Eqv_odd ?_ | refine Eqv_in ?_) | refine Do_ptr_eq_nil tok rfl ?_ | refine Do_ptr_ne_nil tok rfl ?_ | refine Do_nil_eq_nil tok rfl ?_ | refine Nn_in (by omega) ?_ | refine Nz_in (by omega) ?_))
  refine Call_of (gCone H (xs := [a]) (.tail _ (.tail _ (.tail _ (.tail _ hg)))) (fun h => h.srcCM 1 1 (List.mem_append_right _ (.head _)) rfl (by decide)) (by simpa using ha) (by simp)) ?_
  clear H
  rintro _ w ⟨ca, cc, rfl, H⟩
  replace H := H.top 4 rfl (by simp only [List.eraseIdx_cons_succ, List.eraseIdx_cons_zero]; rfl)
  replace H := H.top 4 rfl (by simp only [List.eraseIdx_cons_succ, List.eraseIdx_cons_zero]; rfl)
  replace H := H.top 4 rfl (by simp only [List.eraseIdx_cons_succ, List.eraseIdx_cons_zero]; rfl)
  replace H := knitClose H
  have er : rowOf ps a = coneP ps [a] := by unfold rowOf; rw [if_neg (by omega)]
  rw [er] at hin
  (repeat ((try conv => whnf); first | refine Join_dup ?_ | (refine Br_gate ?_; first | with_reducible refine Br_not ?_ | refine xB ?_ | refine xC ?_) | (refine Ld_gate ?_; refine xL ?_) | (refine LdN_gate ?_; refine xM ?_) | (refine St_gate ?_; refine xS ?_; clear H; intro w H) | (refine StN_gate ?_; refine xN ?_; clear H; intro w H) | (refine Kept_gate ?_; refine xK ?_) | (refine Ar_gate ?_; first | (first | with_reducible refine Ar_halfU (by omega) ?_) | refine xA ?_) | (first | with_reducible refine Eqv_flip (by omega) ?_ | with_reducible refine Eqv_odd ?_ | refine Eqv_in ?_) | refine Do_ptr_eq_nil tok rfl ?_ | refine Do_ptr_ne_nil tok rfl ?_ | refine Do_nil_eq_nil tok rfl ?_ | refine Nn_in (by omega) ?_ | refine Nz_in (by omega) ?_))
  generalize hL : coneP ps [a] = L at *
  have hll : 0 < L.length := List.length_pos_of_mem hin
  refine Loop_intro (fun i : Nat => [(40, .int .i64 (i : Int))]) (fun i w => i = 0 ∧ Sep w0 w (knitR k gb sb [] C most :: ownR ca L.length cc 3 1 (L.map fun i : Nat => .int .i64 (i : Int)) :: cellsR cb 25 [eV a] :: r)) (fun i => L.length - i) 0 ⟨rfl, trivial⟩ ⟨rfl, H⟩ ?_
  clear H
  rintro i w ⟨rfl, H⟩
  simp only [] at H ⊢
  refine Br_dec (fun k1 => ?_) (fun k1 => by omega)
  obtain ⟨lb, hlb⟩ := (H.ownM (hm := .tail _ (.head _))).some (by omega)
  subst hlb
  have hx : L[0]? = some L[0] := List.getElem?_eq_getElem hll
  refine Ix_in 0 rfl hll ?_
  refine Ld_mO H (by repeat first | exact List.Mem.head _ | refine List.Mem.tail _ ?_) (v := .int .i64 (L[0] : Int)) (by rw [List.getElem?_map, hx]; rfl) ?_
  (repeat ((try conv => whnf); first | refine Join_dup ?_ | (refine Br_gate ?_; first | with_reducible refine Br_not ?_ | refine xB ?_ | refine xC ?_) | (refine Ld_gate ?_; refine xL ?_) | (refine LdN_gate ?_; refine xM ?_) | (refine St_gate ?_; refine xS ?_; clear H; intro w H) | (refine StN_gate ?_; refine xN ?_; clear H; intro w H) | (refine Kept_gate ?_; refine xK ?_) | (refine Ar_gate ?_; first | (first | with_reducible refine Ar_halfU (by omega) ?_) | refine xA ?_) | (first | with_reducible refine Eqv_flip (by omega) ?_ | with_reducible refine Eqv_odd ?_ | refine Eqv_in ?_) | refine Do_ptr_eq_nil tok rfl ?_ | refine Do_ptr_ne_nil tok rfl ?_ | refine Do_nil_eq_nil tok rfl ?_ | refine Nn_in (by omega) ?_ | refine Nz_in (by omega) ?_))
  refine Call_of (kDefine_no H (List.not_mem_nil) hmost) ?_
  clear H
  rintro _ w ⟨rfl, H⟩
  (repeat ((try conv => whnf); first | refine Join_dup ?_ | (refine Br_gate ?_; first | with_reducible refine Br_not ?_ | refine xB ?_ | refine xC ?_) | (refine Ld_gate ?_; refine xL ?_) | (refine LdN_gate ?_; refine xM ?_) | (refine St_gate ?_; refine xS ?_; clear H; intro w H) | (refine StN_gate ?_; refine xN ?_; clear H; intro w H) | (refine Kept_gate ?_; refine xK ?_) | (refine Ar_gate ?_; first | (first | with_reducible refine Ar_halfU (by omega) ?_) | refine xA ?_) | (first | with_reducible refine Eqv_flip (by omega) ?_ | with_reducible refine Eqv_odd ?_ | refine Eqv_in ?_) | refine Do_ptr_eq_nil tok rfl ?_ | refine Do_ptr_ne_nil tok rfl ?_ | refine Do_nil_eq_nil tok rfl ?_ | refine Nn_in (by omega) ?_ | refine Nz_in (by omega) ?_))
  exact Ret_in ⟨rfl, (H.drop 1 rfl rfl).drop 1 rfl rfl⟩

theorem kHold_no (H : Sep w0 w (knitR k gb sb D C most :: r)) (hg : gR gb ps ins ∈ r) {a c : Nat} (hs : cellsR a 25 [eV n] ∈ r) (hn : ¬ n / 2 < ps.length) (hn2 : n ≤ 4294967295) :
    Does Try.prog 11 #[.pointer (some ⟨k, 0, none⟩), .slice (some ⟨a, 0, none⟩) 1 c] w fun v w' => v = iI 121 ∧ Sep w0 w' (knitR k gb sb D C most :: r) := by
  have hgok := graphOk H (.tail _ hg)
  have hmx := hgok.max
  refine Does_intro tok (Try.call11 _ _) Try.func11 rfl (by rfl) ?_
  (repeat ((try conv => whnf); first | refine Join_dup ?_ | (refine Br_gate ?_; first | with_reducible refine Br_not ?_ | refine xB ?_ | refine xC ?_) | (refine Ld_gate ?_; refine xL ?_) | (refine LdN_gate ?_; refine xM ?_) | (refine St_gate ?_; refine xS ?_; clear H; intro w H) | (refine StN_gate ?_; refine xN ?_; clear H; intro w H) | (refine Kept_gate ?_; refine xK ?_) | (refine Ar_gate ?_; first | (first | with_reducible refine Ar_halfU (by omega) ?_) | refine xA ?_) | (first | with_reducible refine Eqv_flip (by omega) ?_ | with_reducible refine Eqv_odd ?_ | refine Eqv_in ?_) | refine Do_ptr_eq_nil tok rfl ?_ | refine Do_ptr_ne_nil tok rfl ?_ | refine Do_nil_eq_nil tok rfl ?_ | refine Nn_in (by omega) ?_ | refine Nz_in (by omega) ?_))
  refine Loop_intro (fun i : Nat => [(14, iI i)]) (fun i w => i = 0 ∧ Sep w0 w (knitR k gb sb D C most :: r)) (fun i => 1 - i) 0 ⟨rfl, trivial⟩ ⟨rfl, H⟩ ?_
  clear H
  rintro i w ⟨rfl, H⟩
  simp only [] at H ⊢
  refine Br_dec (fun k1 => ?_) (fun k1 => by omega)
  refine Ix_in 0 rfl (by decide) ?_
  refine Ld_src (j := 0) (H.srcCM 1 1 (.tail _ hs) rfl (by decide)) (v := eV n) rfl ?_
  obtain ⟨mb, H⟩ := knitOpen H
  (repeat ((try conv => whnf); first | refine Join_dup ?_ | (refine Br_gate ?_; first | with_reducible refine Br_not ?_ | refine xB ?_ | refine xC ?_) | (refine Ld_gate ?_; refine xL ?_) | (refine LdN_gate ?_; refine xM ?_) | (refine St_gate ?_; refine xS ?_; clear H; intro w H) | (refine StN_gate ?_; refine xN ?_; clear H; intro w H) | (refine Kept_gate ?_; refine xK ?_) | (refine Ar_gate ?_; first | (first | with_reducible refine Ar_halfU (by omega) ?_) | refine xA ?_) | (first | with_reducible refine Eqv_flip (by omega) ?_ | with_reducible refine Eqv_odd ?_ | refine Eqv_in ?_) | refine Do_ptr_eq_nil tok rfl ?_ | refine Do_ptr_ne_nil tok rfl ?_ | refine Do_nil_eq_nil tok rfl ?_ | refine Nn_in (by omega) ?_ | refine Nz_in (by omega) ?_))
  refine Call_of (gLen H (.tail _ (.tail _ (.tail _ hg)))) ?_
  rintro _ _ ⟨rfl, rfl⟩
  (repeat ((try conv => whnf); first | refine Join_dup ?_ | (refine Br_gate ?_; first | with_reducible refine Br_not ?_ | refine xB ?_ | refine xC ?_) | (refine Ld_gate ?_; refine xL ?_) | (refine LdN_gate ?_; refine xM ?_) | (refine St_gate ?_; refine xS ?_; clear H; intro w H) | (refine StN_gate ?_; refine xN ?_; clear H; intro w H) | (refine Kept_gate ?_; refine xK ?_) | (refine Ar_gate ?_; first | (first | with_reducible refine Ar_halfU (by omega) ?_) | refine xA ?_) | (first | with_reducible refine Eqv_flip (by omega) ?_ | with_reducible refine Eqv_odd ?_ | refine Eqv_in ?_) | refine Do_ptr_eq_nil tok rfl ?_ | refine Do_ptr_ne_nil tok rfl ?_ | refine Do_nil_eq_nil tok rfl ?_ | refine Nn_in (by omega) ?_ | refine Nz_in (by omega) ?_))
  exact Ret_in ⟨rfl, knitClose H⟩

theorem kBuild {x : Int} {A : List KAct} {a : Option Addr} {c : Nat} (hs : Src W a A.length 3 (A.flatMap act3)) (hm : A.length ≤ 9223372036854775807) :
    Does Try.prog 13 #[iI x, .slice a A.length c] W fun v w' => (v = .tuple #[.pointer none, .slice none 0 0] ∧ Sep W w' []) ∨
      ∃ n gb ps es ea ec, n ≤ 5 ∧ A.length ≤ 30 ∧ Mk n A.length ps es ∧ v = .tuple #[.pointer (some ⟨gb, 0, none⟩), .slice ea es.length ec] ∧ Sep W w' [ownR ea es.length ec 25 1 (es.map eV), gR gb ps (insN n)] := by
  have H := Sep.nil W
  refine Does_intro tok (Try.call13 _ _) Try.func13 rfl (by rfl) ?_
  by_cases h1 : x < 0 ∨ 5 < x ∨ 30 < A.length
  · rcases h1 with h1 | h1 | h1
    · (repeat ((try conv => whnf); first | refine Join_dup ?_ | (refine Br_gate ?_; first | with_reducible refine Br_not ?_ | refine xB ?_ | refine xC ?_) | (refine Ld_gate ?_; refine xL ?_) | (refine LdN_gate ?_; refine xM ?_) | (refine St_gate ?_; refine xS ?_; clear H; intro w H) | (refine StN_gate ?_; refine xN ?_; clear H; intro w H) | (refine Kept_gate ?_; refine xK ?_) | (refine Ar_gate ?_; first | (first | with_reducible refine Ar_halfU (by omega) ?_) | refine xA ?_) | (first | with_reducible refine Eqv_flip (by omega) ?_ | with_reducible refine Eqv_odd ?_ | refine Eqv_in ?_) | refine Do_ptr_eq_nil tok rfl ?_ | refine Do_ptr_ne_nil tok rfl ?_ | refine Do_nil_eq_nil tok rfl ?_ | refine Nn_in (by omega) ?_ | refine Nz_in (by omega) ?_))
      exact Ret_in (.inl ⟨rfl, H⟩)
    · (repeat ((try conv => whnf); first | refine Join_dup ?_ | (refine Br_gate ?_; first | with_reducible refine Br_not ?_ | refine xB ?_ | refine xC ?_) | (refine Ld_gate ?_; refine xL ?_) | (refine LdN_gate ?_; refine xM ?_) | (refine St_gate ?_; refine xS ?_; clear H; intro w H) | (refine StN_gate ?_; refine xN ?_; clear H; intro w H) | (refine Kept_gate ?_; refine xK ?_) | (refine Ar_gate ?_; first | (first | with_reducible refine Ar_halfU (by omega) ?_) | refine xA ?_) | (first | with_reducible refine Eqv_flip (by omega) ?_ | with_reducible refine Eqv_odd ?_ | refine Eqv_in ?_) | refine Do_ptr_eq_nil tok rfl ?_ | refine Do_ptr_ne_nil tok rfl ?_ | refine Do_nil_eq_nil tok rfl ?_ | refine Nn_in (by omega) ?_ | refine Nz_in (by omega) ?_))
      exact Ret_in (.inl ⟨rfl, H⟩)
    · by_cases h2 : x < 0
      · (repeat ((try conv => whnf); first | refine Join_dup ?_ | (refine Br_gate ?_; first | with_reducible refine Br_not ?_ | refine xB ?_ | refine xC ?_) | (refine Ld_gate ?_; refine xL ?_) | (refine LdN_gate ?_; refine xM ?_) | (refine St_gate ?_; refine xS ?_; clear H; intro w H) | (refine StN_gate ?_; refine xN ?_; clear H; intro w H) | (refine Kept_gate ?_; refine xK ?_) | (refine Ar_gate ?_; first | (first | with_reducible refine Ar_halfU (by omega) ?_) | refine xA ?_) | (first | with_reducible refine Eqv_flip (by omega) ?_ | with_reducible refine Eqv_odd ?_ | refine Eqv_in ?_) | refine Do_ptr_eq_nil tok rfl ?_ | refine Do_ptr_ne_nil tok rfl ?_ | refine Do_nil_eq_nil tok rfl ?_ | refine Nn_in (by omega) ?_ | refine Nz_in (by omega) ?_))
        exact Ret_in (.inl ⟨rfl, H⟩)
      by_cases h3 : 5 < x
      · (repeat ((try conv => whnf); first | refine Join_dup ?_ | (refine Br_gate ?_; first | with_reducible refine Br_not ?_ | refine xB ?_ | refine xC ?_) | (refine Ld_gate ?_; refine xL ?_) | (refine LdN_gate ?_; refine xM ?_) | (refine St_gate ?_; refine xS ?_; clear H; intro w H) | (refine StN_gate ?_; refine xN ?_; clear H; intro w H) | (refine Kept_gate ?_; refine xK ?_) | (refine Ar_gate ?_; first | (first | with_reducible refine Ar_halfU (by omega) ?_) | refine xA ?_) | (first | with_reducible refine Eqv_flip (by omega) ?_ | with_reducible refine Eqv_odd ?_ | refine Eqv_in ?_) | refine Do_ptr_eq_nil tok rfl ?_ | refine Do_ptr_ne_nil tok rfl ?_ | refine Do_nil_eq_nil tok rfl ?_ | refine Nn_in (by omega) ?_ | refine Nz_in (by omega) ?_))
        exact Ret_in (.inl ⟨rfl, H⟩)
      (repeat ((try conv => whnf); first | refine Join_dup ?_ | (refine Br_gate ?_; first | with_reducible refine Br_not ?_ | refine xB ?_ | refine xC ?_) | (refine Ld_gate ?_; refine xL ?_) | (refine LdN_gate ?_; refine xM ?_) | (refine St_gate ?_; refine xS ?_; clear H; intro w H) | (refine StN_gate ?_; refine xN ?_; clear H; intro w H) | (refine Kept_gate ?_; refine xK ?_) | (refine Ar_gate ?_; first | (first | with_reducible refine Ar_halfU (by omega) ?_) | refine xA ?_) | (first | with_reducible refine Eqv_flip (by omega) ?_ | with_reducible refine Eqv_odd ?_ | refine Eqv_in ?_) | refine Do_ptr_eq_nil tok rfl ?_ | refine Do_ptr_ne_nil tok rfl ?_ | refine Do_nil_eq_nil tok rfl ?_ | refine Nn_in (by omega) ?_ | refine Nz_in (by omega) ?_))
      exact Ret_in (.inl ⟨rfl, H⟩)
  obtain ⟨n, rfl⟩ : ∃ n : Nat, x = n := ⟨x.toNat, by omega⟩
  have hn : n ≤ 5 := by omega
  have hA : A.length ≤ 30 := by omega
  (repeat ((try conv => whnf); first | refine Join_dup ?_ | (refine Br_gate ?_; first | with_reducible refine Br_not ?_ | refine xB ?_ | refine xC ?_) | (refine Ld_gate ?_; refine xL ?_) | (refine LdN_gate ?_; refine xM ?_) | (refine St_gate ?_; refine xS ?_; clear H; intro w H) | (refine StN_gate ?_; refine xN ?_; clear H; intro w H) | (refine Kept_gate ?_; refine xK ?_) | (refine Ar_gate ?_; first | (first | with_reducible refine Ar_halfU (by omega) ?_) | refine xA ?_) | (first | with_reducible refine Eqv_flip (by omega) ?_ | with_reducible refine Eqv_odd ?_ | refine Eqv_in ?_) | refine Do_ptr_eq_nil tok rfl ?_ | refine Do_ptr_ne_nil tok rfl ?_ | refine Do_nil_eq_nil tok rfl ?_ | refine Nn_in (by omega) ?_ | refine Nz_in (by omega) ?_))
  refine Call_of (gNew W) ?_
  clear H
  rintro _ w ⟨gb, rfl, H⟩
  (repeat ((try conv => whnf); first | refine Join_dup ?_ | (refine Br_gate ?_; first | with_reducible refine Br_not ?_ | refine xB ?_ | refine xC ?_) | (refine Ld_gate ?_; refine xL ?_) | (refine LdN_gate ?_; refine xM ?_) | (refine St_gate ?_; refine xS ?_; clear H; intro w H) | (refine StN_gate ?_; refine xN ?_; clear H; intro w H) | (refine Kept_gate ?_; refine xK ?_) | (refine Ar_gate ?_; first | (first | with_reducible refine Ar_halfU (by omega) ?_) | refine xA ?_) | (first | with_reducible refine Eqv_flip (by omega) ?_ | with_reducible refine Eqv_odd ?_ | refine Eqv_in ?_) | refine Do_ptr_eq_nil tok rfl ?_ | refine Do_ptr_ne_nil tok rfl ?_ | refine Do_nil_eq_nil tok rfl ?_ | refine Nn_in (by omega) ?_ | refine Nz_in (by omega) ?_))
  (refine Nw_sep H ?_; clear H; intro eb w H; (try simp only [Value.cells, List.toList_toArray, List.append_nil, List.cons_append, List.nil_append] at H))
  replace H := H.row 0 2 1 rfl rfl (by decide) (by simp only [List.set_cons_succ, List.set_cons_zero]; rfl)
  (repeat ((try conv => whnf); first | refine Join_dup ?_ | (refine Br_gate ?_; first | with_reducible refine Br_not ?_ | refine xB ?_ | refine xC ?_) | (refine Ld_gate ?_; refine xL ?_) | (refine LdN_gate ?_; refine xM ?_) | (refine St_gate ?_; refine xS ?_; clear H; intro w H) | (refine StN_gate ?_; refine xN ?_; clear H; intro w H) | (refine Kept_gate ?_; refine xK ?_) | (refine Ar_gate ?_; first | (first | with_reducible refine Ar_halfU (by omega) ?_) | refine xA ?_) | (first | with_reducible refine Eqv_flip (by omega) ?_ | with_reducible refine Eqv_odd ?_ | refine Eqv_in ?_) | refine Do_ptr_eq_nil tok rfl ?_ | refine Do_ptr_ne_nil tok rfl ?_ | refine Do_nil_eq_nil tok rfl ?_ | refine Nn_in (by omega) ?_ | refine Nz_in (by omega) ?_))
  refine Loop_intro (fun s : Nat × Option Addr × Nat => [(8, iI s.1), (7, .slice s.2.1 (2 + s.1) s.2.2)]) (fun s w => s.1 ≤ n ∧ Sep W w [ownR s.2.1 (2 + s.1) s.2.2 25 1 (([0, 1] ++ insN s.1).map eV), gR gb (psN s.1) (insN s.1)]) (fun s => n - s.1) (0, some ⟨eb, 0, none⟩, 2) ⟨rfl, rfl, trivial⟩ ⟨Nat.zero_le _, H⟩ ?_
  clear H
  rintro ⟨i, ea, ec⟩ w ⟨hi, H⟩
  simp only [] at hi H ⊢
  refine Br_dec (fun k1 => ?_) (fun k1 => ?_)
  · have hl := psN_len i
    (repeat ((try conv => whnf); first | refine Join_dup ?_ | (refine Br_gate ?_; first | with_reducible refine Br_not ?_ | refine xB ?_ | refine xC ?_) | (refine Ld_gate ?_; refine xL ?_) | (refine LdN_gate ?_; refine xM ?_) | (refine St_gate ?_; refine xS ?_; clear H; intro w H) | (refine StN_gate ?_; refine xN ?_; clear H; intro w H) | (refine Kept_gate ?_; refine xK ?_) | (refine Ar_gate ?_; first | (first | with_reducible refine Ar_halfU (by omega) ?_) | refine xA ?_) | (first | with_reducible refine Eqv_flip (by omega) ?_ | with_reducible refine Eqv_odd ?_ | refine Eqv_in ?_) | refine Do_ptr_eq_nil tok rfl ?_ | refine Do_ptr_ne_nil tok rfl ?_ | refine Do_nil_eq_nil tok rfl ?_ | refine Nn_in (by omega) ?_ | refine Nz_in (by omega) ?_))
    refine Call_of (gInput H (by repeat first | exact List.Mem.head _ | refine List.Mem.tail _ ?_) (by omega)) ?_
    clear H
    rintro _ w ⟨rfl, H⟩
    replace H := H _ (by repeat first | exact Upd.head | apply Upd.tail)
    (repeat ((try conv => whnf); first | refine Join_dup ?_ | (refine Br_gate ?_; first | with_reducible refine Br_not ?_ | refine xB ?_ | refine xC ?_) | (refine Ld_gate ?_; refine xL ?_) | (refine LdN_gate ?_; refine xM ?_) | (refine St_gate ?_; refine xS ?_; clear H; intro w H) | (refine StN_gate ?_; refine xN ?_; clear H; intro w H) | (refine Kept_gate ?_; refine xK ?_) | (refine Ar_gate ?_; first | (first | with_reducible refine Ar_halfU (by omega) ?_) | refine xA ?_) | (first | with_reducible refine Eqv_flip (by omega) ?_ | with_reducible refine Eqv_odd ?_ | refine Eqv_in ?_) | refine Do_ptr_eq_nil tok rfl ?_ | refine Do_ptr_ne_nil tok rfl ?_ | refine Do_nil_eq_nil tok rfl ?_ | refine Nn_in (by omega) ?_ | refine Nz_in (by omega) ?_))
    (refine Nw_sep H ?_; clear H; intro nb w H; (try simp only [Value.cells, List.toList_toArray, List.append_nil, List.cons_append, List.nil_append] at H))
    (repeat ((try conv => whnf); first | refine Join_dup ?_ | (refine Br_gate ?_; first | with_reducible refine Br_not ?_ | refine xB ?_ | refine xC ?_) | (refine Ld_gate ?_; refine xL ?_) | (refine LdN_gate ?_; refine xM ?_) | (refine St_gate ?_; refine xS ?_; clear H; intro w H) | (refine StN_gate ?_; refine xN ?_; clear H; intro w H) | (refine Kept_gate ?_; refine xK ?_) | (refine Ar_gate ?_; first | (first | with_reducible refine Ar_halfU (by omega) ?_) | refine xA ?_) | (first | with_reducible refine Eqv_flip (by omega) ?_ | with_reducible refine Eqv_odd ?_ | refine Eqv_in ?_) | refine Do_ptr_eq_nil tok rfl ?_ | refine Do_ptr_ne_nil tok rfl ?_ | refine Do_nil_eq_nil tok rfl ?_ | refine Nn_in (by omega) ?_ | refine Nz_in (by omega) ?_))
    (refine DoN_gate ?_; refine append_one tok H rfl rfl rfl rfl rfl (by decide) (by repeat first | exact List.Mem.head _ | refine List.Mem.tail _ ?_) (m := 1) rfl (by simp [oneCell]) (by omega) (by unfold maxLen; omega) ?_; clear H; intro ea' ec' w H; replace H := H _ (by repeat first | exact Upd.head | apply Upd.tail))
    (repeat ((try conv => whnf); first | refine Join_dup ?_ | (refine Br_gate ?_; first | with_reducible refine Br_not ?_ | refine xB ?_ | refine xC ?_) | (refine Ld_gate ?_; refine xL ?_) | (refine LdN_gate ?_; refine xM ?_) | (refine St_gate ?_; refine xS ?_; clear H; intro w H) | (refine StN_gate ?_; refine xN ?_; clear H; intro w H) | (refine Kept_gate ?_; refine xK ?_) | (refine Ar_gate ?_; first | (first | with_reducible refine Ar_halfU (by omega) ?_) | refine xA ?_) | (first | with_reducible refine Eqv_flip (by omega) ?_ | with_reducible refine Eqv_odd ?_ | refine Eqv_in ?_) | refine Do_ptr_eq_nil tok rfl ?_ | refine Do_ptr_ne_nil tok rfl ?_ | refine Do_nil_eq_nil tok rfl ?_ | refine Nn_in (by omega) ?_ | refine Nz_in (by omega) ?_))
    refine ⟨(i + 1, ea', ec'), ⟨congrArg some (vint (by simp)), rfl, trivial⟩, ⟨by omega, ?_⟩, by simp; omega⟩
    have e1 : ([0, 1] ++ insN (i + 1)).map eV = ([0, 1] ++ insN i).map eV ++ [eV (2 * (psN i).length)] := by rw [insN_next, ← List.append_assoc, List.map_append]; rfl
    rw [psN_next, e1, insN_next]
    exact H
  obtain rfl : i = n := by omega
  (repeat ((try conv => whnf); first | refine Join_dup ?_ | (refine Br_gate ?_; first | with_reducible refine Br_not ?_ | refine xB ?_ | refine xC ?_) | (refine Ld_gate ?_; refine xL ?_) | (refine LdN_gate ?_; refine xM ?_) | (refine St_gate ?_; refine xS ?_; clear H; intro w H) | (refine StN_gate ?_; refine xN ?_; clear H; intro w H) | (refine Kept_gate ?_; refine xK ?_) | (refine Ar_gate ?_; first | (first | with_reducible refine Ar_halfU (by omega) ?_) | refine xA ?_) | (first | with_reducible refine Eqv_flip (by omega) ?_ | with_reducible refine Eqv_odd ?_ | refine Eqv_in ?_) | refine Do_ptr_eq_nil tok rfl ?_ | refine Do_ptr_ne_nil tok rfl ?_ | refine Do_nil_eq_nil tok rfl ?_ | refine Nn_in (by omega) ?_ | refine Nz_in (by omega) ?_))
  refine Loop_intro (fun s : Nat × (List (Nat × Nat) × List Nat) × Option Addr × Nat => [(45, iI s.1), (7, .slice s.2.2.1 s.2.1.2.length s.2.2.2)]) (fun s w => (s.1 ≤ A.length ∧ Mk i s.1 s.2.1.1 s.2.1.2) ∧ Sep W w [ownR s.2.2.1 s.2.1.2.length s.2.2.2 25 1 (s.2.1.2.map eV), gR gb s.2.1.1 (insN i)]) (fun s => A.length - s.1) (0, (psN i, [0, 1] ++ insN i), ea, ec) ⟨rfl, congrArg some (by simp [insN]; omega), trivial⟩ ⟨⟨Nat.zero_le _, Mk.start⟩, by
    have : ([0, 1] ++ insN i).length = 2 + i := by simp [insN]; omega
    rw [this]
    exact H⟩ ?_
  clear H
  rintro ⟨j, ⟨ps, es⟩, ea, ec⟩ w ⟨⟨hj, hM⟩, H⟩
  simp only [] at hj hM H ⊢
  have hel := hM.el
  have hpl := hM.pl
  refine Br_dec (fun k2 => ?_) (fun k2 => ?_)
  · have hlt : j < A.length := by omega
    have ex := List.getElem?_eq_getElem hlt
    generalize A[j] = y at ex
    have hnx := hM.next y (by omega)
    have ga := argA_get (es := es) (p := y.a) (by omega)
    have gb' := argA_get (es := es) (p := y.b) (by omega)
    have ca := clamp_lt (n := es.length) (p := y.a) (by omega)
    have cb := clamp_lt (n := es.length) (p := y.b) (by omega)
    have ha := hM.arg y.a
    have hb := hM.arg y.b
    have hmk : makeK ps es y = if y.kind = 0 then andP ps 1 [argA es y.a, Gate.flip (argA es y.b)] else if y.kind = 1 then orP ps [argA es y.a, argA es y.b] else sameP ps (argA es y.a) (argA es y.b) := rfl
    have hfb : Gate.flip (argA es y.b) ≤ 4294967295 ∧ Gate.flip (argA es y.b) / 2 < ps.length := by
      have := flip_div (argA es y.b)
      omega
    generalize argA es y.a = u at *
    generalize argA es y.b = v at *
    obtain ⟨bs, o, rfl⟩ := hs.addr (by rw [rowLen act3_len]; omega)
    obtain ⟨e0, rfl⟩ := (H.ownM (hm := .head _)).some (by omega)
    refine Ix_in j rfl (by omega) ?_
    refine LdN_src (j := j * 3) (H.rd hs) (show _ = [iI y.kind, iI y.a, iI y.b] from rowPart act3_len ex) rfl ?_
    (refine Nw_sep H ?_; clear H; intro bx w H; (try simp only [Value.cells, List.toList_toArray, List.append_nil, List.cons_append, List.nil_append] at H))
    (repeat ((try conv => whnf); first | refine Join_dup ?_ | (refine Br_gate ?_; first | with_reducible refine Br_not ?_ | refine xB ?_ | refine xC ?_) | (refine Ld_gate ?_; refine xL ?_) | (refine LdN_gate ?_; refine xM ?_) | (refine St_gate ?_; refine xS ?_; clear H; intro w H) | (refine StN_gate ?_; refine xN ?_; clear H; intro w H) | (refine Kept_gate ?_; refine xK ?_) | (refine Ar_gate ?_; first | (first | with_reducible refine Ar_halfU (by omega) ?_) | refine xA ?_) | (first | with_reducible refine Eqv_flip (by omega) ?_ | with_reducible refine Eqv_odd ?_ | refine Eqv_in ?_) | refine Do_ptr_eq_nil tok rfl ?_ | refine Do_ptr_ne_nil tok rfl ?_ | refine Do_nil_eq_nil tok rfl ?_ | refine Nn_in (by omega) ?_ | refine Nz_in (by omega) ?_))
    refine Draw_intro mixed [0, 1, 2, 3, 4, 5, 6, 7, 8, 9, 10, 11, 12, 13, 14, 15, 16, 17, 18, 19, 20, 21] (by decide +kernel) (fun w _ fd => ?_); replace H := H.fr fd; clear fd
    (repeat ((try conv => whnf); first | refine Join_dup ?_ | (refine Br_gate ?_; first | with_reducible refine Br_not ?_ | refine xB ?_ | refine xC ?_) | (refine Ld_gate ?_; refine xL ?_) | (refine LdN_gate ?_; refine xM ?_) | (refine St_gate ?_; refine xS ?_; clear H; intro w H) | (refine StN_gate ?_; refine xN ?_; clear H; intro w H) | (refine Kept_gate ?_; refine xK ?_) | (refine Ar_gate ?_; first | (first | with_reducible refine Ar_halfU (by omega) ?_) | refine xA ?_) | (first | with_reducible refine Eqv_flip (by omega) ?_ | with_reducible refine Eqv_odd ?_ | refine Eqv_in ?_) | refine Do_ptr_eq_nil tok rfl ?_ | refine Do_ptr_ne_nil tok rfl ?_ | refine Do_nil_eq_nil tok rfl ?_ | refine Nn_in (by omega) ?_ | refine Nz_in (by omega) ?_))
    rw [clamp_int (by omega)]
    generalize clamp es.length y.a = cu at *
    refine Ix_in cu rfl ca ?_
    refine Ld_mO H (by repeat first | exact List.Mem.head _ | refine List.Mem.tail _ ?_) ga ?_
    (repeat ((try conv => whnf); first | refine Join_dup ?_ | (refine Br_gate ?_; first | with_reducible refine Br_not ?_ | refine xB ?_ | refine xC ?_) | (refine Ld_gate ?_; refine xL ?_) | (refine LdN_gate ?_; refine xM ?_) | (refine St_gate ?_; refine xS ?_; clear H; intro w H) | (refine StN_gate ?_; refine xN ?_; clear H; intro w H) | (refine Kept_gate ?_; refine xK ?_) | (refine Ar_gate ?_; first | (first | with_reducible refine Ar_halfU (by omega) ?_) | refine xA ?_) | (first | with_reducible refine Eqv_flip (by omega) ?_ | with_reducible refine Eqv_odd ?_ | refine Eqv_in ?_) | refine Do_ptr_eq_nil tok rfl ?_ | refine Do_ptr_ne_nil tok rfl ?_ | refine Do_nil_eq_nil tok rfl ?_ | refine Nn_in (by omega) ?_ | refine Nz_in (by omega) ?_))
    rw [clamp_int (by omega)]
    generalize clamp es.length y.b = cv at *
    refine Ix_in cv rfl cb ?_
    refine Ld_mO H (by repeat first | exact List.Mem.head _ | refine List.Mem.tail _ ?_) gb' ?_
    (repeat ((try conv => whnf); first | refine Join_dup ?_ | (refine Br_gate ?_; first | with_reducible refine Br_not ?_ | refine xB ?_ | refine xC ?_) | (refine Ld_gate ?_; refine xL ?_) | (refine LdN_gate ?_; refine xM ?_) | (refine St_gate ?_; refine xS ?_; clear H; intro w H) | (refine StN_gate ?_; refine xN ?_; clear H; intro w H) | (refine Kept_gate ?_; refine xK ?_) | (refine Ar_gate ?_; first | (first | with_reducible refine Ar_halfU (by omega) ?_) | refine xA ?_) | (first | with_reducible refine Eqv_flip (by omega) ?_ | with_reducible refine Eqv_odd ?_ | refine Eqv_in ?_) | refine Do_ptr_eq_nil tok rfl ?_ | refine Do_ptr_ne_nil tok rfl ?_ | refine Do_nil_eq_nil tok rfl ?_ | refine Nn_in (by omega) ?_ | refine Nz_in (by omega) ?_))
    by_cases h0 : y.kind = 0
    · rw [if_pos h0] at hmk
      (repeat ((try conv => whnf); first | refine Join_dup ?_ | (refine Br_gate ?_; first | with_reducible refine Br_not ?_ | refine xB ?_ | refine xC ?_) | (refine Ld_gate ?_; refine xL ?_) | (refine LdN_gate ?_; refine xM ?_) | (refine St_gate ?_; refine xS ?_; clear H; intro w H) | (refine StN_gate ?_; refine xN ?_; clear H; intro w H) | (refine Kept_gate ?_; refine xK ?_) | (refine Ar_gate ?_; first | (first | with_reducible refine Ar_halfU (by omega) ?_) | refine xA ?_) | (first | with_reducible refine Eqv_flip (by omega) ?_ | with_reducible refine Eqv_odd ?_ | refine Eqv_in ?_) | refine Do_ptr_eq_nil tok rfl ?_ | refine Do_ptr_ne_nil tok rfl ?_ | refine Do_nil_eq_nil tok rfl ?_ | refine Nn_in (by omega) ?_ | refine Nz_in (by omega) ?_))
      (refine Nw_sep H ?_; clear H; intro sb w H; (try simp only [Value.cells, List.toList_toArray, List.append_nil, List.cons_append, List.nil_append] at H))
      (repeat ((try conv => whnf); first | refine Join_dup ?_ | (refine Br_gate ?_; first | with_reducible refine Br_not ?_ | refine xB ?_ | refine xC ?_) | (refine Ld_gate ?_; refine xL ?_) | (refine LdN_gate ?_; refine xM ?_) | (refine St_gate ?_; refine xS ?_; clear H; intro w H) | (refine StN_gate ?_; refine xN ?_; clear H; intro w H) | (refine Kept_gate ?_; refine xK ?_) | (refine Ar_gate ?_; first | (first | with_reducible refine Ar_halfU (by omega) ?_) | refine xA ?_) | (first | with_reducible refine Eqv_flip (by omega) ?_ | with_reducible refine Eqv_odd ?_ | refine Eqv_in ?_) | refine Do_ptr_eq_nil tok rfl ?_ | refine Do_ptr_ne_nil tok rfl ?_ | refine Do_nil_eq_nil tok rfl ?_ | refine Nn_in (by omega) ?_ | refine Nz_in (by omega) ?_))
      refine Call_of (gAnd H (by repeat first | exact List.Mem.head _ | refine List.Mem.tail _ ?_) (xs := [u, Gate.flip v]) (fun h => Sep.srcCM (h _ (by repeat first | exact Upd.head | apply Upd.tail)) 2 1 (by repeat first | exact List.Mem.head _ | refine List.Mem.tail _ ?_) rfl (by unfold maxLen; omega)) (by intro z hz; simp only [List.mem_cons, List.not_mem_nil, or_false] at hz; rcases hz with rfl | rfl; exact ha; exact hfb.2) (by simp; omega)) ?_
      clear H
      rintro _ w ⟨rfl, H⟩
      replace H := H _ (by repeat first | exact Upd.head | apply Upd.tail)
      rw [← hmk] at H ⊢
      (repeat ((try conv => whnf); first | refine Join_dup ?_ | (refine Br_gate ?_; first | with_reducible refine Br_not ?_ | refine xB ?_ | refine xC ?_) | (refine Ld_gate ?_; refine xL ?_) | (refine LdN_gate ?_; refine xM ?_) | (refine St_gate ?_; refine xS ?_; clear H; intro w H) | (refine StN_gate ?_; refine xN ?_; clear H; intro w H) | (refine Kept_gate ?_; refine xK ?_) | (refine Ar_gate ?_; first | (first | with_reducible refine Ar_halfU (by omega) ?_) | refine xA ?_) | (first | with_reducible refine Eqv_flip (by omega) ?_ | with_reducible refine Eqv_odd ?_ | refine Eqv_in ?_) | refine Do_ptr_eq_nil tok rfl ?_ | refine Do_ptr_ne_nil tok rfl ?_ | refine Do_nil_eq_nil tok rfl ?_ | refine Nn_in (by omega) ?_ | refine Nz_in (by omega) ?_))
      (refine Nw_sep H ?_; clear H; intro nb w H; (try simp only [Value.cells, List.toList_toArray, List.append_nil, List.cons_append, List.nil_append] at H))
      (repeat ((try conv => whnf); first | refine Join_dup ?_ | (refine Br_gate ?_; first | with_reducible refine Br_not ?_ | refine xB ?_ | refine xC ?_) | (refine Ld_gate ?_; refine xL ?_) | (refine LdN_gate ?_; refine xM ?_) | (refine St_gate ?_; refine xS ?_; clear H; intro w H) | (refine StN_gate ?_; refine xN ?_; clear H; intro w H) | (refine Kept_gate ?_; refine xK ?_) | (refine Ar_gate ?_; first | (first | with_reducible refine Ar_halfU (by omega) ?_) | refine xA ?_) | (first | with_reducible refine Eqv_flip (by omega) ?_ | with_reducible refine Eqv_odd ?_ | refine Eqv_in ?_) | refine Do_ptr_eq_nil tok rfl ?_ | refine Do_ptr_ne_nil tok rfl ?_ | refine Do_nil_eq_nil tok rfl ?_ | refine Nn_in (by omega) ?_ | refine Nz_in (by omega) ?_))
      (refine DoN_gate ?_; refine append_one tok H rfl rfl rfl rfl rfl (by decide) (by repeat first | exact List.Mem.head _ | refine List.Mem.tail _ ?_) (m := 1) rfl (by simp [oneCell]) (by omega) (by unfold maxLen; omega) ?_; clear H; intro ea' ec' w H; replace H := H _ (by repeat first | exact Upd.head | apply Upd.tail))
      (repeat ((try conv => whnf); first | refine Join_dup ?_ | (refine Br_gate ?_; first | with_reducible refine Br_not ?_ | refine xB ?_ | refine xC ?_) | (refine Ld_gate ?_; refine xL ?_) | (refine LdN_gate ?_; refine xM ?_) | (refine St_gate ?_; refine xS ?_; clear H; intro w H) | (refine StN_gate ?_; refine xN ?_; clear H; intro w H) | (refine Kept_gate ?_; refine xK ?_) | (refine Ar_gate ?_; first | (first | with_reducible refine Ar_halfU (by omega) ?_) | refine xA ?_) | (first | with_reducible refine Eqv_flip (by omega) ?_ | with_reducible refine Eqv_odd ?_ | refine Eqv_in ?_) | refine Do_ptr_eq_nil tok rfl ?_ | refine Do_ptr_ne_nil tok rfl ?_ | refine Do_nil_eq_nil tok rfl ?_ | refine Nn_in (by omega) ?_ | refine Nz_in (by omega) ?_))
      refine ⟨(j + 1, (_, _), ea', ec'), ⟨congrArg some (vint (by simp)), congrArg some (by simp), trivial⟩, ⟨⟨by omega, hnx⟩, ?_⟩, by simp; omega⟩
      simp only [List.length_append, List.length_singleton, List.map_append, List.map_cons, List.map_nil]
      exact (H.sel [2, 3] (by decide) rfl)
    by_cases h1 : y.kind = 1
    · rw [if_neg h0, if_pos h1] at hmk
      (repeat ((try conv => whnf); first | refine Join_dup ?_ | (refine Br_gate ?_; first | with_reducible refine Br_not ?_ | refine xB ?_ | refine xC ?_) | (refine Ld_gate ?_; refine xL ?_) | (refine LdN_gate ?_; refine xM ?_) | (refine St_gate ?_; refine xS ?_; clear H; intro w H) | (refine StN_gate ?_; refine xN ?_; clear H; intro w H) | (refine Kept_gate ?_; refine xK ?_) | (refine Ar_gate ?_; first | (first | with_reducible refine Ar_halfU (by omega) ?_) | refine xA ?_) | (first | with_reducible refine Eqv_flip (by omega) ?_ | with_reducible refine Eqv_odd ?_ | refine Eqv_in ?_) | refine Do_ptr_eq_nil tok rfl ?_ | refine Do_ptr_ne_nil tok rfl ?_ | refine Do_nil_eq_nil tok rfl ?_ | refine Nn_in (by omega) ?_ | refine Nz_in (by omega) ?_))
      (refine Nw_sep H ?_; clear H; intro sb w H; (try simp only [Value.cells, List.toList_toArray, List.append_nil, List.cons_append, List.nil_append] at H))
      (repeat ((try conv => whnf); first | refine Join_dup ?_ | (refine Br_gate ?_; first | with_reducible refine Br_not ?_ | refine xB ?_ | refine xC ?_) | (refine Ld_gate ?_; refine xL ?_) | (refine LdN_gate ?_; refine xM ?_) | (refine St_gate ?_; refine xS ?_; clear H; intro w H) | (refine StN_gate ?_; refine xN ?_; clear H; intro w H) | (refine Kept_gate ?_; refine xK ?_) | (refine Ar_gate ?_; first | (first | with_reducible refine Ar_halfU (by omega) ?_) | refine xA ?_) | (first | with_reducible refine Eqv_flip (by omega) ?_ | with_reducible refine Eqv_odd ?_ | refine Eqv_in ?_) | refine Do_ptr_eq_nil tok rfl ?_ | refine Do_ptr_ne_nil tok rfl ?_ | refine Do_nil_eq_nil tok rfl ?_ | refine Nn_in (by omega) ?_ | refine Nz_in (by omega) ?_))
      refine Call_of (gOr H (by repeat first | exact List.Mem.head _ | refine List.Mem.tail _ ?_) (xs := [u, v]) (fun h => h.srcCM 2 1 (List.mem_append_right _ (by repeat first | exact List.Mem.head _ | refine List.Mem.tail _ ?_)) rfl (by unfold maxLen; omega)) (by intro z hz; simp only [List.mem_cons, List.not_mem_nil, or_false] at hz; rcases hz with rfl | rfl; exact ha; exact hb) (by simp; omega)) ?_
      clear H
      rintro _ w ⟨rfl, H⟩
      replace H := H _ (by repeat first | exact Upd.head | apply Upd.tail)
      rw [← hmk] at H ⊢
      (repeat ((try conv => whnf); first | refine Join_dup ?_ | (refine Br_gate ?_; first | with_reducible refine Br_not ?_ | refine xB ?_ | refine xC ?_) | (refine Ld_gate ?_; refine xL ?_) | (refine LdN_gate ?_; refine xM ?_) | (refine St_gate ?_; refine xS ?_; clear H; intro w H) | (refine StN_gate ?_; refine xN ?_; clear H; intro w H) | (refine Kept_gate ?_; refine xK ?_) | (refine Ar_gate ?_; first | (first | with_reducible refine Ar_halfU (by omega) ?_) | refine xA ?_) | (first | with_reducible refine Eqv_flip (by omega) ?_ | with_reducible refine Eqv_odd ?_ | refine Eqv_in ?_) | refine Do_ptr_eq_nil tok rfl ?_ | refine Do_ptr_ne_nil tok rfl ?_ | refine Do_nil_eq_nil tok rfl ?_ | refine Nn_in (by omega) ?_ | refine Nz_in (by omega) ?_))
      (refine Nw_sep H ?_; clear H; intro nb w H; (try simp only [Value.cells, List.toList_toArray, List.append_nil, List.cons_append, List.nil_append] at H))
      (repeat ((try conv => whnf); first | refine Join_dup ?_ | (refine Br_gate ?_; first | with_reducible refine Br_not ?_ | refine xB ?_ | refine xC ?_) | (refine Ld_gate ?_; refine xL ?_) | (refine LdN_gate ?_; refine xM ?_) | (refine St_gate ?_; refine xS ?_; clear H; intro w H) | (refine StN_gate ?_; refine xN ?_; clear H; intro w H) | (refine Kept_gate ?_; refine xK ?_) | (refine Ar_gate ?_; first | (first | with_reducible refine Ar_halfU (by omega) ?_) | refine xA ?_) | (first | with_reducible refine Eqv_flip (by omega) ?_ | with_reducible refine Eqv_odd ?_ | refine Eqv_in ?_) | refine Do_ptr_eq_nil tok rfl ?_ | refine Do_ptr_ne_nil tok rfl ?_ | refine Do_nil_eq_nil tok rfl ?_ | refine Nn_in (by omega) ?_ | refine Nz_in (by omega) ?_))
      (refine DoN_gate ?_; refine append_one tok H rfl rfl rfl rfl rfl (by decide) (by repeat first | exact List.Mem.head _ | refine List.Mem.tail _ ?_) (m := 1) rfl (by simp [oneCell]) (by omega) (by unfold maxLen; omega) ?_; clear H; intro ea' ec' w H; replace H := H _ (by repeat first | exact Upd.head | apply Upd.tail))
      (repeat ((try conv => whnf); first | refine Join_dup ?_ | (refine Br_gate ?_; first | with_reducible refine Br_not ?_ | refine xB ?_ | refine xC ?_) | (refine Ld_gate ?_; refine xL ?_) | (refine LdN_gate ?_; refine xM ?_) | (refine St_gate ?_; refine xS ?_; clear H; intro w H) | (refine StN_gate ?_; refine xN ?_; clear H; intro w H) | (refine Kept_gate ?_; refine xK ?_) | (refine Ar_gate ?_; first | (first | with_reducible refine Ar_halfU (by omega) ?_) | refine xA ?_) | (first | with_reducible refine Eqv_flip (by omega) ?_ | with_reducible refine Eqv_odd ?_ | refine Eqv_in ?_) | refine Do_ptr_eq_nil tok rfl ?_ | refine Do_ptr_ne_nil tok rfl ?_ | refine Do_nil_eq_nil tok rfl ?_ | refine Nn_in (by omega) ?_ | refine Nz_in (by omega) ?_))
      refine ⟨(j + 1, (_, _), ea', ec'), ⟨congrArg some (vint (by simp)), congrArg some (by simp), trivial⟩, ⟨⟨by omega, hnx⟩, ?_⟩, by simp; omega⟩
      simp only [List.length_append, List.length_singleton, List.map_append, List.map_cons, List.map_nil]
      exact (H.sel [2, 3] (by decide) rfl)
    · rw [if_neg h0, if_neg h1] at hmk
      (repeat ((try conv => whnf); first | refine Join_dup ?_ | (refine Br_gate ?_; first | with_reducible refine Br_not ?_ | refine xB ?_ | refine xC ?_) | (refine Ld_gate ?_; refine xL ?_) | (refine LdN_gate ?_; refine xM ?_) | (refine St_gate ?_; refine xS ?_; clear H; intro w H) | (refine StN_gate ?_; refine xN ?_; clear H; intro w H) | (refine Kept_gate ?_; refine xK ?_) | (refine Ar_gate ?_; first | (first | with_reducible refine Ar_halfU (by omega) ?_) | refine xA ?_) | (first | with_reducible refine Eqv_flip (by omega) ?_ | with_reducible refine Eqv_odd ?_ | refine Eqv_in ?_) | refine Do_ptr_eq_nil tok rfl ?_ | refine Do_ptr_ne_nil tok rfl ?_ | refine Do_nil_eq_nil tok rfl ?_ | refine Nn_in (by omega) ?_ | refine Nz_in (by omega) ?_))
      refine Call_of (gSame H (by repeat first | exact List.Mem.head _ | refine List.Mem.tail _ ?_) ha hb (by omega)) ?_
      clear H
      rintro _ w ⟨rfl, H⟩
      replace H := H _ (by repeat first | exact Upd.head | apply Upd.tail)
      rw [← hmk] at H ⊢
      (repeat ((try conv => whnf); first | refine Join_dup ?_ | (refine Br_gate ?_; first | with_reducible refine Br_not ?_ | refine xB ?_ | refine xC ?_) | (refine Ld_gate ?_; refine xL ?_) | (refine LdN_gate ?_; refine xM ?_) | (refine St_gate ?_; refine xS ?_; clear H; intro w H) | (refine StN_gate ?_; refine xN ?_; clear H; intro w H) | (refine Kept_gate ?_; refine xK ?_) | (refine Ar_gate ?_; first | (first | with_reducible refine Ar_halfU (by omega) ?_) | refine xA ?_) | (first | with_reducible refine Eqv_flip (by omega) ?_ | with_reducible refine Eqv_odd ?_ | refine Eqv_in ?_) | refine Do_ptr_eq_nil tok rfl ?_ | refine Do_ptr_ne_nil tok rfl ?_ | refine Do_nil_eq_nil tok rfl ?_ | refine Nn_in (by omega) ?_ | refine Nz_in (by omega) ?_))
      (refine Nw_sep H ?_; clear H; intro nb w H; (try simp only [Value.cells, List.toList_toArray, List.append_nil, List.cons_append, List.nil_append] at H))
      (repeat ((try conv => whnf); first | refine Join_dup ?_ | (refine Br_gate ?_; first | with_reducible refine Br_not ?_ | refine xB ?_ | refine xC ?_) | (refine Ld_gate ?_; refine xL ?_) | (refine LdN_gate ?_; refine xM ?_) | (refine St_gate ?_; refine xS ?_; clear H; intro w H) | (refine StN_gate ?_; refine xN ?_; clear H; intro w H) | (refine Kept_gate ?_; refine xK ?_) | (refine Ar_gate ?_; first | (first | with_reducible refine Ar_halfU (by omega) ?_) | refine xA ?_) | (first | with_reducible refine Eqv_flip (by omega) ?_ | with_reducible refine Eqv_odd ?_ | refine Eqv_in ?_) | refine Do_ptr_eq_nil tok rfl ?_ | refine Do_ptr_ne_nil tok rfl ?_ | refine Do_nil_eq_nil tok rfl ?_ | refine Nn_in (by omega) ?_ | refine Nz_in (by omega) ?_))
      (refine DoN_gate ?_; refine append_one tok H rfl rfl rfl rfl rfl (by decide) (by repeat first | exact List.Mem.head _ | refine List.Mem.tail _ ?_) (m := 1) rfl (by simp [oneCell]) (by omega) (by unfold maxLen; omega) ?_; clear H; intro ea' ec' w H; replace H := H _ (by repeat first | exact Upd.head | apply Upd.tail))
      (repeat ((try conv => whnf); first | refine Join_dup ?_ | (refine Br_gate ?_; first | with_reducible refine Br_not ?_ | refine xB ?_ | refine xC ?_) | (refine Ld_gate ?_; refine xL ?_) | (refine LdN_gate ?_; refine xM ?_) | (refine St_gate ?_; refine xS ?_; clear H; intro w H) | (refine StN_gate ?_; refine xN ?_; clear H; intro w H) | (refine Kept_gate ?_; refine xK ?_) | (refine Ar_gate ?_; first | (first | with_reducible refine Ar_halfU (by omega) ?_) | refine xA ?_) | (first | with_reducible refine Eqv_flip (by omega) ?_ | with_reducible refine Eqv_odd ?_ | refine Eqv_in ?_) | refine Do_ptr_eq_nil tok rfl ?_ | refine Do_ptr_ne_nil tok rfl ?_ | refine Do_nil_eq_nil tok rfl ?_ | refine Nn_in (by omega) ?_ | refine Nz_in (by omega) ?_))
      refine ⟨(j + 1, (_, _), ea', ec'), ⟨congrArg some (vint (by simp)), congrArg some (by simp), trivial⟩, ⟨⟨by omega, hnx⟩, ?_⟩, by simp; omega⟩
      simp only [List.length_append, List.length_singleton, List.map_append, List.map_cons, List.map_nil]
      exact (H.sel [1, 2] (by decide) rfl)
  obtain rfl : j = A.length := by omega
  (repeat ((try conv => whnf); first | refine Join_dup ?_ | (refine Br_gate ?_; first | with_reducible refine Br_not ?_ | refine xB ?_ | refine xC ?_) | (refine Ld_gate ?_; refine xL ?_) | (refine LdN_gate ?_; refine xM ?_) | (refine St_gate ?_; refine xS ?_; clear H; intro w H) | (refine StN_gate ?_; refine xN ?_; clear H; intro w H) | (refine Kept_gate ?_; refine xK ?_) | (refine Ar_gate ?_; first | (first | with_reducible refine Ar_halfU (by omega) ?_) | refine xA ?_) | (first | with_reducible refine Eqv_flip (by omega) ?_ | with_reducible refine Eqv_odd ?_ | refine Eqv_in ?_) | refine Do_ptr_eq_nil tok rfl ?_ | refine Do_ptr_ne_nil tok rfl ?_ | refine Do_nil_eq_nil tok rfl ?_ | refine Nn_in (by omega) ?_ | refine Nz_in (by omega) ?_))
  exact Ret_in (.inr ⟨i, gb, ps, es, ea, ec, hn, hA, hM, rfl, H⟩)

theorem kAlive (W : World) : Does Try.prog 9 #[] W fun v w' => v = .bool true ∧ Sep W w' [] := by
  refine Does_intro tok (args := []) (Try.call9 _ _) Try.func9 rfl (by rfl) ?_
  (repeat ((try conv => whnf); first | refine Join_dup ?_ | (refine Br_gate ?_; first | with_reducible refine Br_not ?_ | refine xB ?_ | refine xC ?_) | (refine Ld_gate ?_; refine xL ?_) | (refine LdN_gate ?_; refine xM ?_) | (refine St_gate ?_; refine xS ?_; clear H; intro w H) | (refine StN_gate ?_; refine xN ?_; clear H; intro w H) | (refine Kept_gate ?_; refine xK ?_) | (refine Ar_gate ?_; first | (first | with_reducible refine Ar_halfU (by omega) ?_) | refine xA ?_) | (first | with_reducible refine Eqv_flip (by omega) ?_ | with_reducible refine Eqv_odd ?_ | refine Eqv_in ?_) | refine Do_ptr_eq_nil tok rfl ?_ | refine Do_ptr_ne_nil tok rfl ?_ | refine Do_nil_eq_nil tok rfl ?_ | refine Nn_in (by omega) ?_ | refine Nz_in (by omega) ?_))
  refine Call_of (gNew W) ?_
  rintro _ w ⟨gb, rfl, H⟩
  (repeat ((try conv => whnf); first | refine Join_dup ?_ | (refine Br_gate ?_; first | with_reducible refine Br_not ?_ | refine xB ?_ | refine xC ?_) | (refine Ld_gate ?_; refine xL ?_) | (refine LdN_gate ?_; refine xM ?_) | (refine St_gate ?_; refine xS ?_; clear H; intro w H) | (refine StN_gate ?_; refine xN ?_; clear H; intro w H) | (refine Kept_gate ?_; refine xK ?_) | (refine Ar_gate ?_; first | (first | with_reducible refine Ar_halfU (by omega) ?_) | refine xA ?_) | (first | with_reducible refine Eqv_flip (by omega) ?_ | with_reducible refine Eqv_odd ?_ | refine Eqv_in ?_) | refine Do_ptr_eq_nil tok rfl ?_ | refine Do_ptr_ne_nil tok rfl ?_ | refine Do_nil_eq_nil tok rfl ?_ | refine Nn_in (by omega) ?_ | refine Nz_in (by omega) ?_))
  refine Call_of (gInput H (by repeat first | exact List.Mem.head _ | refine List.Mem.tail _ ?_) (by decide)) ?_
  clear H
  rintro v w ⟨hv, H⟩
  obtain rfl : v = .tuple #[eV 2, .int .i64 0] := hv
  replace H : Sep W w [gR gb [(0, 0), (0, 0)] [2]] := H _ (by repeat first | exact Upd.head | apply Upd.tail)
  (repeat ((try conv => whnf); first | refine Join_dup ?_ | (refine Br_gate ?_; first | with_reducible refine Br_not ?_ | refine xB ?_ | refine xC ?_) | (refine Ld_gate ?_; refine xL ?_) | (refine LdN_gate ?_; refine xM ?_) | (refine St_gate ?_; refine xS ?_; clear H; intro w H) | (refine StN_gate ?_; refine xN ?_; clear H; intro w H) | (refine Kept_gate ?_; refine xK ?_) | (refine Ar_gate ?_; first | (first | with_reducible refine Ar_halfU (by omega) ?_) | refine xA ?_) | (first | with_reducible refine Eqv_flip (by omega) ?_ | with_reducible refine Eqv_odd ?_ | refine Eqv_in ?_) | refine Do_ptr_eq_nil tok rfl ?_ | refine Do_ptr_ne_nil tok rfl ?_ | refine Do_nil_eq_nil tok rfl ?_ | refine Nn_in (by omega) ?_ | refine Nz_in (by omega) ?_))
  refine Call_of (gInput H (by repeat first | exact List.Mem.head _ | refine List.Mem.tail _ ?_) (by decide)) ?_
  clear H
  rintro v w ⟨hv, H⟩
  obtain rfl : v = .tuple #[eV 4, .int .i64 0] := hv
  replace H : Sep W w [gR gb [(0, 0), (0, 0), (0, 0)] [2, 4]] := H _ (by repeat first | exact Upd.head | apply Upd.tail)
  (repeat ((try conv => whnf); first | refine Join_dup ?_ | (refine Br_gate ?_; first | with_reducible refine Br_not ?_ | refine xB ?_ | refine xC ?_) | (refine Ld_gate ?_; refine xL ?_) | (refine LdN_gate ?_; refine xM ?_) | (refine St_gate ?_; refine xS ?_; clear H; intro w H) | (refine StN_gate ?_; refine xN ?_; clear H; intro w H) | (refine Kept_gate ?_; refine xK ?_) | (refine Ar_gate ?_; first | (first | with_reducible refine Ar_halfU (by omega) ?_) | refine xA ?_) | (first | with_reducible refine Eqv_flip (by omega) ?_ | with_reducible refine Eqv_odd ?_ | refine Eqv_in ?_) | refine Do_ptr_eq_nil tok rfl ?_ | refine Do_ptr_ne_nil tok rfl ?_ | refine Do_nil_eq_nil tok rfl ?_ | refine Nn_in (by omega) ?_ | refine Nz_in (by omega) ?_))
  (refine Nw_sep H ?_; clear H; intro s1 w H; (try simp only [Value.cells, List.toList_toArray, List.append_nil, List.cons_append, List.nil_append] at H))
  (repeat ((try conv => whnf); first | refine Join_dup ?_ | (refine Br_gate ?_; first | with_reducible refine Br_not ?_ | refine xB ?_ | refine xC ?_) | (refine Ld_gate ?_; refine xL ?_) | (refine LdN_gate ?_; refine xM ?_) | (refine St_gate ?_; refine xS ?_; clear H; intro w H) | (refine StN_gate ?_; refine xN ?_; clear H; intro w H) | (refine Kept_gate ?_; refine xK ?_) | (refine Ar_gate ?_; first | (first | with_reducible refine Ar_halfU (by omega) ?_) | refine xA ?_) | (first | with_reducible refine Eqv_flip (by omega) ?_ | with_reducible refine Eqv_odd ?_ | refine Eqv_in ?_) | refine Do_ptr_eq_nil tok rfl ?_ | refine Do_ptr_ne_nil tok rfl ?_ | refine Do_nil_eq_nil tok rfl ?_ | refine Nn_in (by omega) ?_ | refine Nz_in (by omega) ?_))
  refine Call_of (gAnd H (by repeat first | exact List.Mem.head _ | refine List.Mem.tail _ ?_) (xs := [2, 4]) (fun h => Sep.srcCM (h _ (by repeat first | exact Upd.head | apply Upd.tail)) 2 1 (by repeat first | exact List.Mem.head _ | refine List.Mem.tail _ ?_) rfl (by unfold maxLen; omega)) (by decide) (by decide)) ?_
  clear H
  rintro v w ⟨hv, H⟩
  have e : andP [(0, 0), (0, 0), (0, 0)] 1 [2, 4] = ([(0, 0), (0, 0), (0, 0), (2, 4)], 6) := by decide
  rw [e] at hv H
  subst hv
  replace H : Sep W w [gR gb [(0, 0), (0, 0), (0, 0), (2, 4)] [2, 4]] := (H _ (by repeat first | exact Upd.head | apply Upd.tail)).tail
  have hgok := graphOk H (.head _)
  (repeat ((try conv => whnf); first | refine Join_dup ?_ | (refine Br_gate ?_; first | with_reducible refine Br_not ?_ | refine xB ?_ | refine xC ?_) | (refine Ld_gate ?_; refine xL ?_) | (refine LdN_gate ?_; refine xM ?_) | (refine St_gate ?_; refine xS ?_; clear H; intro w H) | (refine StN_gate ?_; refine xN ?_; clear H; intro w H) | (refine Kept_gate ?_; refine xK ?_) | (refine Ar_gate ?_; first | (first | with_reducible refine Ar_halfU (by omega) ?_) | refine xA ?_) | (first | with_reducible refine Eqv_flip (by omega) ?_ | with_reducible refine Eqv_odd ?_ | refine Eqv_in ?_) | refine Do_ptr_eq_nil tok rfl ?_ | refine Do_ptr_ne_nil tok rfl ?_ | refine Do_nil_eq_nil tok rfl ?_ | refine Nn_in (by omega) ?_ | refine Nz_in (by omega) ?_))
  (refine Nw_sep H ?_; clear H; intro sb w H; (try simp only [Value.cells, List.toList_toArray, List.append_nil, List.cons_append, List.nil_append] at H))
  (repeat ((try conv => whnf); first | refine Join_dup ?_ | (refine Br_gate ?_; first | with_reducible refine Br_not ?_ | refine xB ?_ | refine xC ?_) | (refine Ld_gate ?_; refine xL ?_) | (refine LdN_gate ?_; refine xM ?_) | (refine St_gate ?_; refine xS ?_; clear H; intro w H) | (refine StN_gate ?_; refine xN ?_; clear H; intro w H) | (refine Kept_gate ?_; refine xK ?_) | (refine Ar_gate ?_; first | (first | with_reducible refine Ar_halfU (by omega) ?_) | refine xA ?_) | (first | with_reducible refine Eqv_flip (by omega) ?_ | with_reducible refine Eqv_odd ?_ | refine Eqv_in ?_) | refine Do_ptr_eq_nil tok rfl ?_ | refine Do_ptr_ne_nil tok rfl ?_ | refine Do_nil_eq_nil tok rfl ?_ | refine Nn_in (by omega) ?_ | refine Nz_in (by omega) ?_))
  refine Call_of (kNew (gb := gb) H) ?_
  clear H
  rintro _ w ⟨k, rfl, H⟩
  (repeat ((try conv => whnf); first | refine Join_dup ?_ | (refine Br_gate ?_; first | with_reducible refine Br_not ?_ | refine xB ?_ | refine xC ?_) | (refine Ld_gate ?_; refine xL ?_) | (refine LdN_gate ?_; refine xM ?_) | (refine St_gate ?_; refine xS ?_; clear H; intro w H) | (refine StN_gate ?_; refine xN ?_; clear H; intro w H) | (refine Kept_gate ?_; refine xK ?_) | (refine Ar_gate ?_; first | (first | with_reducible refine Ar_halfU (by omega) ?_) | refine xA ?_) | (first | with_reducible refine Eqv_flip (by omega) ?_ | with_reducible refine Eqv_odd ?_ | refine Eqv_in ?_) | refine Do_ptr_eq_nil tok rfl ?_ | refine Do_ptr_ne_nil tok rfl ?_ | refine Do_nil_eq_nil tok rfl ?_ | refine Nn_in (by omega) ?_ | refine Nz_in (by omega) ?_))
  have e2 : Gate.flip 6 = 7 := by decide
  rw [e2]
  have e3 : litP [(0, 0), (0, 0), (0, 0), (2, 4)] ([], []) 7 = ([1, 2, 3], [[-3, 1], [-3, 2], [3, -1, -2]]) := by decide
  refine Call_of (kEdge H (.head _) (KOk.nil _) (a := 7) (by decide) (by decide)) ?_
  clear H
  rintro v w ⟨hv, H⟩
  rw [e3] at hv H
  obtain rfl : v = .tuple #[lV (-3), iI 0] := hv
  obtain ⟨mb, a, c, R, hF, H⟩ := kOpenS H
  (repeat ((try conv => whnf); first | refine Join_dup ?_ | (refine Br_gate ?_; first | with_reducible refine Br_not ?_ | refine xB ?_ | refine xC ?_) | (refine Ld_gate ?_; refine xL ?_) | (refine LdN_gate ?_; refine xM ?_) | (refine St_gate ?_; refine xS ?_; clear H; intro w H) | (refine StN_gate ?_; refine xN ?_; clear H; intro w H) | (refine Kept_gate ?_; refine xK ?_) | (refine Ar_gate ?_; first | (first | with_reducible refine Ar_halfU (by omega) ?_) | refine xA ?_) | (first | with_reducible refine Eqv_flip (by omega) ?_ | with_reducible refine Eqv_odd ?_ | refine Eqv_in ?_) | refine Do_ptr_eq_nil tok rfl ?_ | refine Do_ptr_ne_nil tok rfl ?_ | refine Do_nil_eq_nil tok rfl ?_ | refine Nn_in (by omega) ?_ | refine Nz_in (by omega) ?_))
  replace H := kCloseS hF.eq H
  refine Call_of (kKnown H (.head _) (by decide)) ?_
  rintro v _ ⟨hv, rfl⟩
  obtain rfl : v = iI 3 := hv
  (repeat ((try conv => whnf); first | refine Join_dup ?_ | (refine Br_gate ?_; first | with_reducible refine Br_not ?_ | refine xB ?_ | refine xC ?_) | (refine Ld_gate ?_; refine xL ?_) | (refine LdN_gate ?_; refine xM ?_) | (refine St_gate ?_; refine xS ?_; clear H; intro w H) | (refine StN_gate ?_; refine xN ?_; clear H; intro w H) | (refine Kept_gate ?_; refine xK ?_) | (refine Ar_gate ?_; first | (first | with_reducible refine Ar_halfU (by omega) ?_) | refine xA ?_) | (first | with_reducible refine Eqv_flip (by omega) ?_ | with_reducible refine Eqv_odd ?_ | refine Eqv_in ?_) | refine Do_ptr_eq_nil tok rfl ?_ | refine Do_ptr_ne_nil tok rfl ?_ | refine Do_nil_eq_nil tok rfl ?_ | refine Nn_in (by omega) ?_ | refine Nz_in (by omega) ?_))
  refine Call_of (kVar H (.head _) (g := 3)) ?_
  rintro v _ ⟨hv, rfl⟩
  obtain rfl : v = iI 3 := hv
  (repeat ((try conv => whnf); first | refine Join_dup ?_ | (refine Br_gate ?_; first | with_reducible refine Br_not ?_ | refine xB ?_ | refine xC ?_) | (refine Ld_gate ?_; refine xL ?_) | (refine LdN_gate ?_; refine xM ?_) | (refine St_gate ?_; refine xS ?_; clear H; intro w H) | (refine StN_gate ?_; refine xN ?_; clear H; intro w H) | (refine Kept_gate ?_; refine xK ?_) | (refine Ar_gate ?_; first | (first | with_reducible refine Ar_halfU (by omega) ?_) | refine xA ?_) | (first | with_reducible refine Eqv_flip (by omega) ?_ | with_reducible refine Eqv_odd ?_ | refine Eqv_in ?_) | refine Do_ptr_eq_nil tok rfl ?_ | refine Do_ptr_ne_nil tok rfl ?_ | refine Do_nil_eq_nil tok rfl ?_ | refine Nn_in (by omega) ?_ | refine Nz_in (by omega) ?_))
  exact Ret_in ⟨rfl, H.all⟩
end
end Go.Proofs.Ytpllmfoaahaciaa
