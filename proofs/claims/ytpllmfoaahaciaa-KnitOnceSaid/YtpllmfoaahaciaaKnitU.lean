/- The laws' functions: each answers true. -/
import Derived.Test.YtpllmfoaahaciaaKnitL
namespace Go.Knit
open Go.Gate Go.Proofs.Ytpllmfoaahaciaa
def litsOf (es D : List Nat) (xs : List Int) : List Int := xs.map fun x => litOf D (argA es x)
theorem litsOf_old {es D : List Nat} (E : List Nat) {xs : List Int} (h : ∀ x ∈ xs, argA es x / 2 ∈ D) : litsOf es (D ++ E) xs = litsOf es D xs := by
  unfold litsOf
  exact List.map_congr_left fun x hx => litOf_old E (h x hx)
/-- A truth value for each of the gates that have a variable, up to some gate. -/
def upTo (D : List Nat) (f : Nat → Bool) (x : Nat) : List Bool := D.map fun g => decide (g < x) && f g
theorem upTo_len {D : List Nat} {f : Nat → Bool} {x : Nat} : (upTo D f x).length = D.length := by simp [upTo]
theorem upTo_zero {D : List Nat} {f : Nat → Bool} : upTo D f 0 = List.replicate D.length false := by
  unfold upTo
  rw [List.eq_replicate_iff]
  refine ⟨by simp, fun b hb => ?_⟩
  obtain ⟨g, _, rfl⟩ := List.mem_map.1 hb
  simp
theorem upTo_all {D : List Nat} {f : Nat → Bool} {x : Nat} (h : ∀ g ∈ D, g < x) : upTo D f x = D.map f := by
  unfold upTo
  exact List.map_congr_left fun g hg => by rw [decide_eq_true (h g hg), Bool.true_and]
theorem upTo_not {D : List Nat} {f : Nat → Bool} {x : Nat} (h : x ∉ D) : upTo D f (x + 1) = upTo D f x := by
  unfold upTo
  refine List.map_congr_left fun g hg => ?_
  have : g ≠ x := fun e => h (e ▸ hg)
  congr 1
  rw [decide_eq_decide]; omega
theorem upTo_set {D : List Nat} {f : Nat → Bool} {x i : Nat} (hn : D.Nodup) (h : D[i]? = some x) : (upTo D f x).set i (f x) = upTo D f (x + 1) := by
  apply List.ext_getElem?
  intro j
  obtain ⟨hi, e⟩ := List.getElem?_eq_some_iff.1 h
  unfold upTo
  rw [List.getElem?_set]
  by_cases hij : i = j
  · subst hij
    rw [if_pos rfl, if_pos (by simpa using hi), List.getElem?_map, h]
    simp
  · rw [if_neg hij, List.getElem?_map, List.getElem?_map]
    cases hj : D[j]? with
    | none => rfl
    | some g =>
      have hne : g ≠ x := by
        rintro rfl
        have h1 := varOf_at hn h
        have h2 := varOf_at hn hj
        omega
      simp only [Option.map_some, Option.some.injEq]
      congr 1
      rw [decide_eq_decide]; omega
def isFree (ps : List (Nat × Nat)) (g : Nat) : Bool := !(partsP ps g).2.2 && decide (0 < g)
theorem modelOf_len {ps : List (Nat × Nat)} {base : Nat → Bool} {D : List Nat} : (modelOf ps base D).length = D.length := by simp [modelOf]
theorem base_zero {n N : Nat} {vs : List Bool} (h : n < N) : baseOf N (insN n) vs 0 = false := by rw [baseOf_insN h, inB_zero]
end Go.Knit
namespace Go.Proofs.Ytpllmfoaahaciaa
open Go Go.Vc Go.Gate Go.Knit
set_option linter.unusedVariables false
set_option linter.unusedSimpArgs false
set_option maxHeartbeats 4000000
set_option maxRecDepth 100000

theorem zB (n : Nat) : zcells (Value.bool false).cells.toList n = (List.replicate n false).map bV := by
  show zcells [Value.bool false] n = _
  rw [zcells_one, List.map_replicate]

section
variable {w0 w W : World} {l r : List Res} {k gb sb n : Nat} {D : List Nat} {C : List (List Int)} {most : Int} {ps : List (Nat × Nat)} {ins : List Nat} {a : Option Addr} {c : Nat} {R : List Cl}

theorem rFalse' {M : List Bool} {m : Nat} {ma : Option Addr} {mc : Nat} (hs : FSrc W a C R) (h : FOk m C) (hm : M.length = m) (hM : Src W ma m 1 (M.map bV)) :
    Does Try.prog 20 #[.agg #[iI m, .slice a C.length c], .slice ma m mc] W fun v w' => v = .tuple #[iI (atP M C), iI 0] ∧ Sep W w' [] := by
  subst hm
  exact rFalse hs h hM
theorem rRow' (H : Sep w0 w l) {r : Nat} (hr : r < 64) : Does Try.prog 15 #[.int .i64 (r : Int)] w fun v w' => ∃ a c, v = .slice a (rowV r).length c ∧ Sep w0 w' (ownR a (rowV r).length c 4 1 ((rowV r).map bV) :: l) := by
  have e : (rowV r).length = 6 := by simp [rowV]
  rw [e]
  exact rRow H hr

theorem uNames (W : World) : Does Try.prog 3 #[] W fun v w' => v = .bool true ∧ Sep W w' [] := by
  refine Does_intro tok (args := []) (Try.call3 _ _) Try.func3 rfl (by rfl) ?_
  (repeat ((try conv => whnf); first | refine Join_dup ?_ | (refine Br_gate ?_; first | with_reducible refine Br_not ?_ | refine xB ?_ | refine xC ?_) | (refine Ld_gate ?_; refine xL ?_) | (refine LdN_gate ?_; refine xM ?_) | (refine St_gate ?_; refine xS ?_; clear H; intro w H) | (refine StN_gate ?_; refine xN ?_; clear H; intro w H) | (refine Kept_gate ?_; refine xK ?_) | (refine Ar_gate ?_; first | (first | with_reducible refine Ar_halfU (by omega) ?_) | refine xA ?_) | (first | with_reducible refine Eqv_flip (by omega) ?_ | with_reducible refine Eqv_odd ?_ | refine Eqv_in ?_) | refine Do_ptr_eq_nil tok rfl ?_ | refine Do_ptr_ne_nil tok rfl ?_ | refine Do_nil_eq_nil tok rfl ?_ | refine Nn_in (by omega) ?_ | refine Nz_in (by omega) ?_))
  refine Call_of (gNew W) ?_
  rintro _ w ⟨gb, rfl, H⟩
  (repeat ((try conv => whnf); first | refine Join_dup ?_ | (refine Br_gate ?_; first | with_reducible refine Br_not ?_ | refine xB ?_ | refine xC ?_) | (refine Ld_gate ?_; refine xL ?_) | (refine LdN_gate ?_; refine xM ?_) | (refine St_gate ?_; refine xS ?_; clear H; intro w H) | (refine StN_gate ?_; refine xN ?_; clear H; intro w H) | (refine Kept_gate ?_; refine xK ?_) | (refine Ar_gate ?_; first | (first | with_reducible refine Ar_halfU (by omega) ?_) | refine xA ?_) | (first | with_reducible refine Eqv_flip (by omega) ?_ | with_reducible refine Eqv_odd ?_ | refine Eqv_in ?_) | refine Do_ptr_eq_nil tok rfl ?_ | refine Do_ptr_ne_nil tok rfl ?_ | refine Do_nil_eq_nil tok rfl ?_ | refine Nn_in (by omega) ?_ | refine Nz_in (by omega) ?_))
  refine Call_of (gInput H (by repeat first | exact List.Mem.head _ | refine List.Mem.tail _ ?_) (by decide)) ?_
  clear H
  rintro v w ⟨hv, H⟩
  obtain rfl : v = .tuple #[eV 2, .int .i64 0] := hv
  replace H : Sep W w [gR gb [(0, 0), (0, 0)] [2]] := H _ (by repeat first | exact Upd.head | apply Upd.tail)
  (repeat ((try conv => whnf); first | refine Join_dup ?_ | (refine Br_gate ?_; first | with_reducible refine Br_not ?_ | refine xB ?_ | refine xC ?_) | (refine Ld_gate ?_; refine xL ?_) | (refine LdN_gate ?_; refine xM ?_) | (refine St_gate ?_; refine xS ?_; clear H; intro w H) | (refine StN_gate ?_; refine xN ?_; clear H; intro w H) | (refine Kept_gate ?_; refine xK ?_) | (refine Ar_gate ?_; first | (first | with_reducible refine Ar_halfU (by omega) ?_) | refine xA ?_) | (first | with_reducible refine Eqv_flip (by omega) ?_ | with_reducible refine Eqv_odd ?_ | refine Eqv_in ?_) | refine Do_ptr_eq_nil tok rfl ?_ | refine Do_ptr_ne_nil tok rfl ?_ | refine Do_nil_eq_nil tok rfl ?_ | refine Nn_in (by omega) ?_ | refine Nz_in (by omega) ?_))
  (refine Nw_sep H ?_; clear H; intro sb w H; (try simp only [Value.cells, List.toList_toArray, List.append_nil, List.cons_append, List.nil_append] at H))
  (repeat ((try conv => whnf); first | refine Join_dup ?_ | (refine Br_gate ?_; first | with_reducible refine Br_not ?_ | refine xB ?_ | refine xC ?_) | (refine Ld_gate ?_; refine xL ?_) | (refine LdN_gate ?_; refine xM ?_) | (refine St_gate ?_; refine xS ?_; clear H; intro w H) | (refine StN_gate ?_; refine xN ?_; clear H; intro w H) | (refine Kept_gate ?_; refine xK ?_) | (refine Ar_gate ?_; first | (first | with_reducible refine Ar_halfU (by omega) ?_) | refine xA ?_) | (first | with_reducible refine Eqv_flip (by omega) ?_ | with_reducible refine Eqv_odd ?_ | refine Eqv_in ?_) | refine Do_ptr_eq_nil tok rfl ?_ | refine Do_ptr_ne_nil tok rfl ?_ | refine Do_nil_eq_nil tok rfl ?_ | refine Nn_in (by omega) ?_ | refine Nz_in (by omega) ?_))
  refine Call_of (kNew (gb := gb) H) ?_
  clear H
  rintro _ w ⟨k, rfl, H⟩
  (repeat ((try conv => whnf); first | refine Join_dup ?_ | (refine Br_gate ?_; first | with_reducible refine Br_not ?_ | refine xB ?_ | refine xC ?_) | (refine Ld_gate ?_; refine xL ?_) | (refine LdN_gate ?_; refine xM ?_) | (refine St_gate ?_; refine xS ?_; clear H; intro w H) | (refine StN_gate ?_; refine xN ?_; clear H; intro w H) | (refine Kept_gate ?_; refine xK ?_) | (refine Ar_gate ?_; first | (first | with_reducible refine Ar_halfU (by omega) ?_) | refine xA ?_) | (first | with_reducible refine Eqv_flip (by omega) ?_ | with_reducible refine Eqv_odd ?_ | refine Eqv_in ?_) | refine Do_ptr_eq_nil tok rfl ?_ | refine Do_ptr_ne_nil tok rfl ?_ | refine Do_nil_eq_nil tok rfl ?_ | refine Nn_in (by omega) ?_ | refine Nz_in (by omega) ?_))
  refine Call_of (kAlive w) ?_
  rintro _ w' ⟨rfl, HH⟩
  replace H := H.add HH
  clear HH
  (repeat ((try conv => whnf); first | refine Join_dup ?_ | (refine Br_gate ?_; first | with_reducible refine Br_not ?_ | refine xB ?_ | refine xC ?_) | (refine Ld_gate ?_; refine xL ?_) | (refine LdN_gate ?_; refine xM ?_) | (refine St_gate ?_; refine xS ?_; clear H; intro w H) | (refine StN_gate ?_; refine xN ?_; clear H; intro w H) | (refine Kept_gate ?_; refine xK ?_) | (refine Ar_gate ?_; first | (first | with_reducible refine Ar_halfU (by omega) ?_) | refine xA ?_) | (first | with_reducible refine Eqv_flip (by omega) ?_ | with_reducible refine Eqv_odd ?_ | refine Eqv_in ?_) | refine Do_ptr_eq_nil tok rfl ?_ | refine Do_ptr_ne_nil tok rfl ?_ | refine Do_nil_eq_nil tok rfl ?_ | refine Nn_in (by omega) ?_ | refine Nz_in (by omega) ?_))
  refine Call_of (kEdge_full H (.head _) (a := 2) (by decide) (by decide) (by decide)) ?_
  clear H
  rintro _ w ⟨rfl, H⟩
  (repeat ((try conv => whnf); first | refine Join_dup ?_ | (refine Br_gate ?_; first | with_reducible refine Br_not ?_ | refine xB ?_ | refine xC ?_) | (refine Ld_gate ?_; refine xL ?_) | (refine LdN_gate ?_; refine xM ?_) | (refine St_gate ?_; refine xS ?_; clear H; intro w H) | (refine StN_gate ?_; refine xN ?_; clear H; intro w H) | (refine Kept_gate ?_; refine xK ?_) | (refine Ar_gate ?_; first | (first | with_reducible refine Ar_halfU (by omega) ?_) | refine xA ?_) | (first | with_reducible refine Eqv_flip (by omega) ?_ | with_reducible refine Eqv_odd ?_ | refine Eqv_in ?_) | refine Do_ptr_eq_nil tok rfl ?_ | refine Do_ptr_ne_nil tok rfl ?_ | refine Do_nil_eq_nil tok rfl ?_ | refine Nn_in (by omega) ?_ | refine Nz_in (by omega) ?_))
  refine Call_of (kEdge_no H (.head _) (KOk.nil _) (a := 8) (by decide) (by decide)) ?_
  clear H
  rintro _ w ⟨rfl, H⟩
  (repeat ((try conv => whnf); first | refine Join_dup ?_ | (refine Br_gate ?_; first | with_reducible refine Br_not ?_ | refine xB ?_ | refine xC ?_) | (refine Ld_gate ?_; refine xL ?_) | (refine LdN_gate ?_; refine xM ?_) | (refine St_gate ?_; refine xS ?_; clear H; intro w H) | (refine StN_gate ?_; refine xN ?_; clear H; intro w H) | (refine Kept_gate ?_; refine xK ?_) | (refine Ar_gate ?_; first | (first | with_reducible refine Ar_halfU (by omega) ?_) | refine xA ?_) | (first | with_reducible refine Eqv_flip (by omega) ?_ | with_reducible refine Eqv_odd ?_ | refine Eqv_in ?_) | refine Do_ptr_eq_nil tok rfl ?_ | refine Do_ptr_ne_nil tok rfl ?_ | refine Do_nil_eq_nil tok rfl ?_ | refine Nn_in (by omega) ?_ | refine Nz_in (by omega) ?_))
  (refine Nw_sep H ?_; clear H; intro hb w H; (try simp only [Value.cells, List.toList_toArray, List.append_nil, List.cons_append, List.nil_append] at H))
  (repeat ((try conv => whnf); first | refine Join_dup ?_ | (refine Br_gate ?_; first | with_reducible refine Br_not ?_ | refine xB ?_ | refine xC ?_) | (refine Ld_gate ?_; refine xL ?_) | (refine LdN_gate ?_; refine xM ?_) | (refine St_gate ?_; refine xS ?_; clear H; intro w H) | (refine StN_gate ?_; refine xN ?_; clear H; intro w H) | (refine Kept_gate ?_; refine xK ?_) | (refine Ar_gate ?_; first | (first | with_reducible refine Ar_halfU (by omega) ?_) | refine xA ?_) | (first | with_reducible refine Eqv_flip (by omega) ?_ | with_reducible refine Eqv_odd ?_ | refine Eqv_in ?_) | refine Do_ptr_eq_nil tok rfl ?_ | refine Do_ptr_ne_nil tok rfl ?_ | refine Do_nil_eq_nil tok rfl ?_ | refine Nn_in (by omega) ?_ | refine Nz_in (by omega) ?_))
  replace H := H.top 1 rfl (by simp only [List.eraseIdx_cons_succ, List.eraseIdx_cons_zero]; rfl)
  refine Call_of (kHold_no H (.tail _ (.head _)) (n := 9) (.head _) (by decide) (by decide)) ?_
  clear H
  rintro _ w ⟨rfl, H⟩
  (repeat ((try conv => whnf); first | refine Join_dup ?_ | (refine Br_gate ?_; first | with_reducible refine Br_not ?_ | refine xB ?_ | refine xC ?_) | (refine Ld_gate ?_; refine xL ?_) | (refine LdN_gate ?_; refine xM ?_) | (refine St_gate ?_; refine xS ?_; clear H; intro w H) | (refine StN_gate ?_; refine xN ?_; clear H; intro w H) | (refine Kept_gate ?_; refine xK ?_) | (refine Ar_gate ?_; first | (first | with_reducible refine Ar_halfU (by omega) ?_) | refine xA ?_) | (first | with_reducible refine Eqv_flip (by omega) ?_ | with_reducible refine Eqv_odd ?_ | refine Eqv_in ?_) | refine Do_ptr_eq_nil tok rfl ?_ | refine Do_ptr_ne_nil tok rfl ?_ | refine Do_nil_eq_nil tok rfl ?_ | refine Nn_in (by omega) ?_ | refine Nz_in (by omega) ?_))
  refine Call_of (kValue_no H (.head _) (e := 2) (by decide) rfl) ?_
  rintro _ _ ⟨rfl, rfl⟩
  (repeat ((try conv => whnf); first | refine Join_dup ?_ | (refine Br_gate ?_; first | with_reducible refine Br_not ?_ | refine xB ?_ | refine xC ?_) | (refine Ld_gate ?_; refine xL ?_) | (refine LdN_gate ?_; refine xM ?_) | (refine St_gate ?_; refine xS ?_; clear H; intro w H) | (refine StN_gate ?_; refine xN ?_; clear H; intro w H) | (refine Kept_gate ?_; refine xK ?_) | (refine Ar_gate ?_; first | (first | with_reducible refine Ar_halfU (by omega) ?_) | refine xA ?_) | (first | with_reducible refine Eqv_flip (by omega) ?_ | with_reducible refine Eqv_odd ?_ | refine Eqv_in ?_) | refine Do_ptr_eq_nil tok rfl ?_ | refine Do_ptr_ne_nil tok rfl ?_ | refine Do_nil_eq_nil tok rfl ?_ | refine Nn_in (by omega) ?_ | refine Nz_in (by omega) ?_))
  exact Ret_in ⟨rfl, H.all⟩

theorem uOnce {x : Int} {A : List KAct} {X : List Int} {ca cx : Nat} {xa : Option Addr} (hs : Src W a A.length 3 (A.flatMap act3)) (hm : A.length ≤ 9223372036854775807) (hx : Src W xa X.length 1 (X.map iI)) (hX : X.length ≤ 9223372036854775807) :
    Does Try.prog 4 #[iI x, .slice a A.length ca, .slice xa X.length cx] W fun v w' => v = .bool true ∧ Sep W w' [] := by
  refine Does_intro tok (Try.call4 _ _) Try.func4 rfl (by rfl) ?_
  (repeat ((try conv => whnf); first | refine Join_dup ?_ | (refine Br_gate ?_; first | with_reducible refine Br_not ?_ | refine xB ?_ | refine xC ?_) | (refine Ld_gate ?_; refine xL ?_) | (refine LdN_gate ?_; refine xM ?_) | (refine St_gate ?_; refine xS ?_; clear H; intro w H) | (refine StN_gate ?_; refine xN ?_; clear H; intro w H) | (refine Kept_gate ?_; refine xK ?_) | (refine Ar_gate ?_; first | (first | with_reducible refine Ar_halfU (by omega) ?_) | refine xA ?_) | (first | with_reducible refine Eqv_flip (by omega) ?_ | with_reducible refine Eqv_odd ?_ | refine Eqv_in ?_) | refine Do_ptr_eq_nil tok rfl ?_ | refine Do_ptr_ne_nil tok rfl ?_ | refine Do_nil_eq_nil tok rfl ?_ | refine Nn_in (by omega) ?_ | refine Nz_in (by omega) ?_))
  refine Call_of (kAlive W) ?_
  rintro _ w ⟨rfl, H⟩
  (repeat ((try conv => whnf); first | refine Join_dup ?_ | (refine Br_gate ?_; first | with_reducible refine Br_not ?_ | refine xB ?_ | refine xC ?_) | (refine Ld_gate ?_; refine xL ?_) | (refine LdN_gate ?_; refine xM ?_) | (refine St_gate ?_; refine xS ?_; clear H; intro w H) | (refine StN_gate ?_; refine xN ?_; clear H; intro w H) | (refine Kept_gate ?_; refine xK ?_) | (refine Ar_gate ?_; first | (first | with_reducible refine Ar_halfU (by omega) ?_) | refine xA ?_) | (first | with_reducible refine Eqv_flip (by omega) ?_ | with_reducible refine Eqv_odd ?_ | refine Eqv_in ?_) | refine Do_ptr_eq_nil tok rfl ?_ | refine Do_ptr_ne_nil tok rfl ?_ | refine Do_nil_eq_nil tok rfl ?_ | refine Nn_in (by omega) ?_ | refine Nz_in (by omega) ?_))
  refine Call_of (kBuild (x := x) (H.rd hs) hm) ?_
  rintro _ w1 (⟨rfl, HH⟩ | ⟨n, gb, ps, es, ea, ec, hn, hA, hM, rfl, HH⟩)
  · replace H := H.add HH
    clear HH
    (repeat ((try conv => whnf); first | refine Join_dup ?_ | (refine Br_gate ?_; first | with_reducible refine Br_not ?_ | refine xB ?_ | refine xC ?_) | (refine Ld_gate ?_; refine xL ?_) | (refine LdN_gate ?_; refine xM ?_) | (refine St_gate ?_; refine xS ?_; clear H; intro w H) | (refine StN_gate ?_; refine xN ?_; clear H; intro w H) | (refine Kept_gate ?_; refine xK ?_) | (refine Ar_gate ?_; first | (first | with_reducible refine Ar_halfU (by omega) ?_) | refine xA ?_) | (first | with_reducible refine Eqv_flip (by omega) ?_ | with_reducible refine Eqv_odd ?_ | refine Eqv_in ?_) | refine Do_ptr_eq_nil tok rfl ?_ | refine Do_ptr_ne_nil tok rfl ?_ | refine Do_nil_eq_nil tok rfl ?_ | refine Nn_in (by omega) ?_ | refine Nz_in (by omega) ?_))
    exact Ret_in ⟨rfl, H⟩
  replace H := H.add HH
  clear HH
  have hel := hM.el
  have hpl := hM.pl
  by_cases hl : 10 < X.length
  · (repeat ((try conv => whnf); first | refine Join_dup ?_ | (refine Br_gate ?_; first | with_reducible refine Br_not ?_ | refine xB ?_ | refine xC ?_) | (refine Ld_gate ?_; refine xL ?_) | (refine LdN_gate ?_; refine xM ?_) | (refine St_gate ?_; refine xS ?_; clear H; intro w H) | (refine StN_gate ?_; refine xN ?_; clear H; intro w H) | (refine Kept_gate ?_; refine xK ?_) | (refine Ar_gate ?_; first | (first | with_reducible refine Ar_halfU (by omega) ?_) | refine xA ?_) | (first | with_reducible refine Eqv_flip (by omega) ?_ | with_reducible refine Eqv_odd ?_ | refine Eqv_in ?_) | refine Do_ptr_eq_nil tok rfl ?_ | refine Do_ptr_ne_nil tok rfl ?_ | refine Do_nil_eq_nil tok rfl ?_ | refine Nn_in (by omega) ?_ | refine Nz_in (by omega) ?_))
    exact Ret_in ⟨rfl, H.all⟩
  obtain ⟨e0, rfl⟩ := (H.ownM (hm := .head _)).some (by omega)
  (repeat ((try conv => whnf); first | refine Join_dup ?_ | (refine Br_gate ?_; first | with_reducible refine Br_not ?_ | refine xB ?_ | refine xC ?_) | (refine Ld_gate ?_; refine xL ?_) | (refine LdN_gate ?_; refine xM ?_) | (refine St_gate ?_; refine xS ?_; clear H; intro w H) | (refine StN_gate ?_; refine xN ?_; clear H; intro w H) | (refine Kept_gate ?_; refine xK ?_) | (refine Ar_gate ?_; first | (first | with_reducible refine Ar_halfU (by omega) ?_) | refine xA ?_) | (first | with_reducible refine Eqv_flip (by omega) ?_ | with_reducible refine Eqv_odd ?_ | refine Eqv_in ?_) | refine Do_ptr_eq_nil tok rfl ?_ | refine Do_ptr_ne_nil tok rfl ?_ | refine Do_nil_eq_nil tok rfl ?_ | refine Nn_in (by omega) ?_ | refine Nz_in (by omega) ?_))
  (refine Nw_sep H ?_; clear H; intro sb w H; (try simp only [Value.cells, List.toList_toArray, List.append_nil, List.cons_append, List.nil_append] at H))
  (repeat ((try conv => whnf); first | refine Join_dup ?_ | (refine Br_gate ?_; first | with_reducible refine Br_not ?_ | refine xB ?_ | refine xC ?_) | (refine Ld_gate ?_; refine xL ?_) | (refine LdN_gate ?_; refine xM ?_) | (refine St_gate ?_; refine xS ?_; clear H; intro w H) | (refine StN_gate ?_; refine xN ?_; clear H; intro w H) | (refine Kept_gate ?_; refine xK ?_) | (refine Ar_gate ?_; first | (first | with_reducible refine Ar_halfU (by omega) ?_) | refine xA ?_) | (first | with_reducible refine Eqv_flip (by omega) ?_ | with_reducible refine Eqv_odd ?_ | refine Eqv_in ?_) | refine Do_ptr_eq_nil tok rfl ?_ | refine Do_ptr_ne_nil tok rfl ?_ | refine Do_nil_eq_nil tok rfl ?_ | refine Nn_in (by omega) ?_ | refine Nz_in (by omega) ?_))
  refine Call_of (kNew (gb := gb) H) ?_
  clear H
  rintro _ w ⟨k, rfl, H⟩
  (repeat ((try conv => whnf); first | refine Join_dup ?_ | (refine Br_gate ?_; first | with_reducible refine Br_not ?_ | refine xB ?_ | refine xC ?_) | (refine Ld_gate ?_; refine xL ?_) | (refine LdN_gate ?_; refine xM ?_) | (refine St_gate ?_; refine xS ?_; clear H; intro w H) | (refine StN_gate ?_; refine xN ?_; clear H; intro w H) | (refine Kept_gate ?_; refine xK ?_) | (refine Ar_gate ?_; first | (first | with_reducible refine Ar_halfU (by omega) ?_) | refine xA ?_) | (first | with_reducible refine Eqv_flip (by omega) ?_ | with_reducible refine Eqv_odd ?_ | refine Eqv_in ?_) | refine Do_ptr_eq_nil tok rfl ?_ | refine Do_ptr_ne_nil tok rfl ?_ | refine Do_nil_eq_nil tok rfl ?_ | refine Nn_in (by omega) ?_ | refine Nz_in (by omega) ?_))
  (refine Nw_sep H ?_; clear H; intro fb w H; (try simp only [Value.cells, List.toList_toArray, List.append_nil, List.cons_append, List.nil_append] at H))
  replace H := H.row 0 0 1 rfl rfl (by decide) (by simp only [List.set_cons_succ, List.set_cons_zero]; rfl)
  (repeat ((try conv => whnf); first | refine Join_dup ?_ | (refine Br_gate ?_; first | with_reducible refine Br_not ?_ | refine xB ?_ | refine xC ?_) | (refine Ld_gate ?_; refine xL ?_) | (refine LdN_gate ?_; refine xM ?_) | (refine St_gate ?_; refine xS ?_; clear H; intro w H) | (refine StN_gate ?_; refine xN ?_; clear H; intro w H) | (refine Kept_gate ?_; refine xK ?_) | (refine Ar_gate ?_; first | (first | with_reducible refine Ar_halfU (by omega) ?_) | refine xA ?_) | (first | with_reducible refine Eqv_flip (by omega) ?_ | with_reducible refine Eqv_odd ?_ | refine Eqv_in ?_) | refine Do_ptr_eq_nil tok rfl ?_ | refine Do_ptr_ne_nil tok rfl ?_ | refine Do_nil_eq_nil tok rfl ?_ | refine Nn_in (by omega) ?_ | refine Nz_in (by omega) ?_))
  replace H := H.top 1 rfl (by simp only [List.eraseIdx_cons_succ, List.eraseIdx_cons_zero]; rfl)
  refine Loop_intro (fun s : Nat × (List Nat × List (List Int)) × Option Addr × Nat => [(47, iI s.1), (11, .slice s.2.2.1 s.1 s.2.2.2)])
    (fun s w => (s.1 ≤ X.length ∧ KOk ps s.2.1.1 s.2.1.2 ∧ ∀ x ∈ X.take s.1, argA es x / 2 ∈ s.2.1.1) ∧ Sep W w [knitR k gb sb s.2.1.1 s.2.1.2 1000, ownR s.2.2.1 s.1 s.2.2.2 38 1 ((litsOf es s.2.1.1 (X.take s.1)).map lV), ownR (some ⟨e0, 0, none⟩) es.length ec 25 1 (es.map eV), gR gb ps (insN n)])
    (fun s => X.length - s.1) (0, ([], []), some ⟨fb, 0, none⟩, 0) ⟨rfl, rfl, trivial⟩ ⟨⟨Nat.zero_le _, KOk.nil _, by simp⟩, H⟩ ?_
  clear H
  rintro ⟨i, ⟨D, C⟩, fa, fc⟩ w ⟨⟨hi, hk, hin⟩, H⟩
  simp only [] at hi hk hin H ⊢
  refine Br_dec (fun k1 => ?_) (fun k1 => ?_)
  · have hlt : i < X.length := by omega
    obtain ⟨xb, xo, rfl⟩ := hx.addr (by rw [List.length_map]; omega)
    have hxi : X[i]? = some X[i] := List.getElem?_eq_getElem hlt
    generalize X[i] = y at hxi
    have ga := argA_get (es := es) (p := y) (by omega)
    have ca := clamp_lt (n := es.length) (p := y) (by omega)
    have ha := hM.arg y
    have hlp := litP_ok hM.g hk ha
    refine Ix_in i rfl hlt ?_
    refine Ld_src (j := i) (H.rd hx) (v := iI y) (by rw [List.getElem?_map, hxi]; rfl) ?_
    (repeat ((try conv => whnf); first | refine Join_dup ?_ | (refine Br_gate ?_; first | with_reducible refine Br_not ?_ | refine xB ?_ | refine xC ?_) | (refine Ld_gate ?_; refine xL ?_) | (refine LdN_gate ?_; refine xM ?_) | (refine St_gate ?_; refine xS ?_; clear H; intro w H) | (refine StN_gate ?_; refine xN ?_; clear H; intro w H) | (refine Kept_gate ?_; refine xK ?_) | (refine Ar_gate ?_; first | (first | with_reducible refine Ar_halfU (by omega) ?_) | refine xA ?_) | (first | with_reducible refine Eqv_flip (by omega) ?_ | with_reducible refine Eqv_odd ?_ | refine Eqv_in ?_) | refine Do_ptr_eq_nil tok rfl ?_ | refine Do_ptr_ne_nil tok rfl ?_ | refine Do_nil_eq_nil tok rfl ?_ | refine Nn_in (by omega) ?_ | refine Nz_in (by omega) ?_))
    rw [clamp_int (by omega)]
    generalize clamp es.length y = cu at *
    refine Ix_in cu rfl ca ?_
    refine Ld_mO H (by repeat first | exact List.Mem.head _ | refine List.Mem.tail _ ?_) ga ?_
    (repeat ((try conv => whnf); first | refine Join_dup ?_ | (refine Br_gate ?_; first | with_reducible refine Br_not ?_ | refine xB ?_ | refine xC ?_) | (refine Ld_gate ?_; refine xL ?_) | (refine LdN_gate ?_; refine xM ?_) | (refine St_gate ?_; refine xS ?_; clear H; intro w H) | (refine StN_gate ?_; refine xN ?_; clear H; intro w H) | (refine Kept_gate ?_; refine xK ?_) | (refine Ar_gate ?_; first | (first | with_reducible refine Ar_halfU (by omega) ?_) | refine xA ?_) | (first | with_reducible refine Eqv_flip (by omega) ?_ | with_reducible refine Eqv_odd ?_ | refine Eqv_in ?_) | refine Do_ptr_eq_nil tok rfl ?_ | refine Do_ptr_ne_nil tok rfl ?_ | refine Do_nil_eq_nil tok rfl ?_ | refine Nn_in (by omega) ?_ | refine Nz_in (by omega) ?_))
    refine Call_of (kEdge H (.tail _ (.tail _ (.head _))) hk ha (by omega)) ?_
    clear H
    rintro _ w ⟨rfl, H⟩
    (repeat ((try conv => whnf); first | refine Join_dup ?_ | (refine Br_gate ?_; first | with_reducible refine Br_not ?_ | refine xB ?_ | refine xC ?_) | (refine Ld_gate ?_; refine xL ?_) | (refine LdN_gate ?_; refine xM ?_) | (refine St_gate ?_; refine xS ?_; clear H; intro w H) | (refine StN_gate ?_; refine xN ?_; clear H; intro w H) | (refine Kept_gate ?_; refine xK ?_) | (refine Ar_gate ?_; first | (first | with_reducible refine Ar_halfU (by omega) ?_) | refine xA ?_) | (first | with_reducible refine Eqv_flip (by omega) ?_ | with_reducible refine Eqv_odd ?_ | refine Eqv_in ?_) | refine Do_ptr_eq_nil tok rfl ?_ | refine Do_ptr_ne_nil tok rfl ?_ | refine Do_nil_eq_nil tok rfl ?_ | refine Nn_in (by omega) ?_ | refine Nz_in (by omega) ?_))
    generalize litP ps (D, C) (argA es y) = st at *
    obtain ⟨D1, C1⟩ := st
    simp only [] at hlp H ⊢
    obtain ⟨hk1, hy1, E, rfl⟩ := hlp
    (refine Nw_sep H ?_; clear H; intro nb w H; (try simp only [Value.cells, List.toList_toArray, List.append_nil, List.cons_append, List.nil_append] at H))
    (repeat ((try conv => whnf); first | refine Join_dup ?_ | (refine Br_gate ?_; first | with_reducible refine Br_not ?_ | refine xB ?_ | refine xC ?_) | (refine Ld_gate ?_; refine xL ?_) | (refine LdN_gate ?_; refine xM ?_) | (refine St_gate ?_; refine xS ?_; clear H; intro w H) | (refine StN_gate ?_; refine xN ?_; clear H; intro w H) | (refine Kept_gate ?_; refine xK ?_) | (refine Ar_gate ?_; first | (first | with_reducible refine Ar_halfU (by omega) ?_) | refine xA ?_) | (first | with_reducible refine Eqv_flip (by omega) ?_ | with_reducible refine Eqv_odd ?_ | refine Eqv_in ?_) | refine Do_ptr_eq_nil tok rfl ?_ | refine Do_ptr_ne_nil tok rfl ?_ | refine Do_nil_eq_nil tok rfl ?_ | refine Nn_in (by omega) ?_ | refine Nz_in (by omega) ?_))
    (refine DoN_gate ?_; refine append_one tok H rfl rfl rfl rfl rfl (by decide) (by repeat first | exact List.Mem.head _ | refine List.Mem.tail _ ?_) (m := 1) rfl (by simp [oneCell]) (by omega) (by unfold maxLen; omega) ?_; clear H; intro fa' fc' w H; replace H := H _ (by repeat first | exact Upd.head | apply Upd.tail))
    (repeat ((try conv => whnf); first | refine Join_dup ?_ | (refine Br_gate ?_; first | with_reducible refine Br_not ?_ | refine xB ?_ | refine xC ?_) | (refine Ld_gate ?_; refine xL ?_) | (refine LdN_gate ?_; refine xM ?_) | (refine St_gate ?_; refine xS ?_; clear H; intro w H) | (refine StN_gate ?_; refine xN ?_; clear H; intro w H) | (refine Kept_gate ?_; refine xK ?_) | (refine Ar_gate ?_; first | (first | with_reducible refine Ar_halfU (by omega) ?_) | refine xA ?_) | (first | with_reducible refine Eqv_flip (by omega) ?_ | with_reducible refine Eqv_odd ?_ | refine Eqv_in ?_) | refine Do_ptr_eq_nil tok rfl ?_ | refine Do_ptr_ne_nil tok rfl ?_ | refine Do_nil_eq_nil tok rfl ?_ | refine Nn_in (by omega) ?_ | refine Nz_in (by omega) ?_))
    refine ⟨(i + 1, (_, _), fa', fc'), ⟨congrArg some (vint (by simp)), rfl, trivial⟩, ⟨⟨by omega, hk1, fun z hz => ?_⟩, ?_⟩, by simp; omega⟩
    · rw [List.take_add_one, hxi, List.mem_append] at hz
      rcases hz with hz | hz
      · exact List.mem_append_left _ (hin z hz)
      · simp at hz; rw [hz]; exact hy1
    · have e : (litsOf es (D ++ E) (X.take (i + 1))).map lV = (litsOf es D (X.take i)).map lV ++ [lV (litOf (D ++ E) (argA es y))] := by
        rw [← litsOf_old E hin, List.take_add_one, hxi]
        simp [litsOf]
      simp only []
      rw [e]
      exact H
  obtain rfl : i = X.length := by omega
  rw [List.take_length] at hin H
  have hfew := hk.few
  obtain ⟨mb, a2, c2, R, hF, H⟩ := kOpenS H
  (repeat ((try conv => whnf); first | refine Join_dup ?_ | (refine Br_gate ?_; first | with_reducible refine Br_not ?_ | refine xB ?_ | refine xC ?_) | (refine Ld_gate ?_; refine xL ?_) | (refine LdN_gate ?_; refine xM ?_) | (refine St_gate ?_; refine xS ?_; clear H; intro w H) | (refine StN_gate ?_; refine xN ?_; clear H; intro w H) | (refine Kept_gate ?_; refine xK ?_) | (refine Ar_gate ?_; first | (first | with_reducible refine Ar_halfU (by omega) ?_) | refine xA ?_) | (first | with_reducible refine Eqv_flip (by omega) ?_ | with_reducible refine Eqv_odd ?_ | refine Eqv_in ?_) | refine Do_ptr_eq_nil tok rfl ?_ | refine Do_ptr_ne_nil tok rfl ?_ | refine Do_nil_eq_nil tok rfl ?_ | refine Nn_in (by omega) ?_ | refine Nz_in (by omega) ?_))
  refine Draw_intro mixed [0, 1, 2, 3, 4, 5, 6, 7, 8, 9, 10, 11, 12, 13, 14, 15] (by decide +kernel) (fun w _ fd => ?_); replace H := H.fr fd; clear fd
  (repeat ((try conv => whnf); first | refine Join_dup ?_ | (refine Br_gate ?_; first | with_reducible refine Br_not ?_ | refine xB ?_ | refine xC ?_) | (refine Ld_gate ?_; refine xL ?_) | (refine LdN_gate ?_; refine xM ?_) | (refine St_gate ?_; refine xS ?_; clear H; intro w H) | (refine StN_gate ?_; refine xN ?_; clear H; intro w H) | (refine Kept_gate ?_; refine xK ?_) | (refine Ar_gate ?_; first | (first | with_reducible refine Ar_halfU (by omega) ?_) | refine xA ?_) | (first | with_reducible refine Eqv_flip (by omega) ?_ | with_reducible refine Eqv_odd ?_ | refine Eqv_in ?_) | refine Do_ptr_eq_nil tok rfl ?_ | refine Do_ptr_ne_nil tok rfl ?_ | refine Do_nil_eq_nil tok rfl ?_ | refine Nn_in (by omega) ?_ | refine Nz_in (by omega) ?_))
  have H2 := kCloseS hF.eq H
  refine Call_of (kKnown H2 (.head _) (by omega)) ?_
  rintro _ _ ⟨rfl, rfl⟩
  (repeat ((try conv => whnf); first | refine Join_dup ?_ | (refine Br_gate ?_; first | with_reducible refine Br_not ?_ | refine xB ?_ | refine xC ?_) | (refine Ld_gate ?_; refine xL ?_) | (refine LdN_gate ?_; refine xM ?_) | (refine St_gate ?_; refine xS ?_; clear H; intro w H) | (refine StN_gate ?_; refine xN ?_; clear H; intro w H) | (refine Kept_gate ?_; refine xK ?_) | (refine Ar_gate ?_; first | (first | with_reducible refine Ar_halfU (by omega) ?_) | refine xA ?_) | (first | with_reducible refine Eqv_flip (by omega) ?_ | with_reducible refine Eqv_odd ?_ | refine Eqv_in ?_) | refine Do_ptr_eq_nil tok rfl ?_ | refine Do_ptr_ne_nil tok rfl ?_ | refine Do_nil_eq_nil tok rfl ?_ | refine Nn_in (by omega) ?_ | refine Nz_in (by omega) ?_))
  clear H
  refine Loop_intro (fun i : Nat => [(85, iI i)]) (fun i w => i ≤ X.length ∧ Sep W w [knitR k gb sb D C 1000, ownR fa X.length fc 38 1 ((litsOf es D X).map lV), ownR (some ⟨e0, 0, none⟩) es.length ec 25 1 (es.map eV), gR gb ps (insN n)])
    (fun s => X.length - s) 0 ⟨rfl, trivial⟩ ⟨Nat.zero_le _, H2⟩ ?_
  clear H2 hF
  rintro i w ⟨hi, H⟩
  simp only [] at hi H ⊢
  refine Br_dec (fun k1 => ?_) (fun k1 => ?_)
  · have hlt : i < X.length := by omega
    obtain ⟨xb, xo, rfl⟩ := hx.addr (by rw [List.length_map]; omega)
    obtain ⟨f0, rfl⟩ := (H.ownM (hm := .tail _ (.head _))).some (by omega)
    have hxi : X[i]? = some X[i] := List.getElem?_eq_getElem hlt
    have hy := hin _ (List.getElem_mem hlt)
    generalize X[i] = y at hxi hy
    have ga := argA_get (es := es) (p := y) (by omega)
    have ca := clamp_lt (n := es.length) (p := y) (by omega)
    have ha := hM.arg y
    refine Ix_in i rfl hlt ?_
    refine Ld_src (j := i) (H.rd hx) (v := iI y) (by rw [List.getElem?_map, hxi]; rfl) ?_
    (repeat ((try conv => whnf); first | refine Join_dup ?_ | (refine Br_gate ?_; first | with_reducible refine Br_not ?_ | refine xB ?_ | refine xC ?_) | (refine Ld_gate ?_; refine xL ?_) | (refine LdN_gate ?_; refine xM ?_) | (refine St_gate ?_; refine xS ?_; clear H; intro w H) | (refine StN_gate ?_; refine xN ?_; clear H; intro w H) | (refine Kept_gate ?_; refine xK ?_) | (refine Ar_gate ?_; first | (first | with_reducible refine Ar_halfU (by omega) ?_) | refine xA ?_) | (first | with_reducible refine Eqv_flip (by omega) ?_ | with_reducible refine Eqv_odd ?_ | refine Eqv_in ?_) | refine Do_ptr_eq_nil tok rfl ?_ | refine Do_ptr_ne_nil tok rfl ?_ | refine Do_nil_eq_nil tok rfl ?_ | refine Nn_in (by omega) ?_ | refine Nz_in (by omega) ?_))
    rw [clamp_int (by omega)]
    generalize clamp es.length y = cu at *
    refine Ix_in cu rfl ca ?_
    refine Ld_mO H (by repeat first | exact List.Mem.head _ | refine List.Mem.tail _ ?_) ga ?_
    (repeat ((try conv => whnf); first | refine Join_dup ?_ | (refine Br_gate ?_; first | with_reducible refine Br_not ?_ | refine xB ?_ | refine xC ?_) | (refine Ld_gate ?_; refine xL ?_) | (refine LdN_gate ?_; refine xM ?_) | (refine St_gate ?_; refine xS ?_; clear H; intro w H) | (refine StN_gate ?_; refine xN ?_; clear H; intro w H) | (refine Kept_gate ?_; refine xK ?_) | (refine Ar_gate ?_; first | (first | with_reducible refine Ar_halfU (by omega) ?_) | refine xA ?_) | (first | with_reducible refine Eqv_flip (by omega) ?_ | with_reducible refine Eqv_odd ?_ | refine Eqv_in ?_) | refine Do_ptr_eq_nil tok rfl ?_ | refine Do_ptr_ne_nil tok rfl ?_ | refine Do_nil_eq_nil tok rfl ?_ | refine Nn_in (by omega) ?_ | refine Nz_in (by omega) ?_))
    refine Call_of (kEdge H (.tail _ (.tail _ (.head _))) hk ha (by omega)) ?_
    clear H
    rintro _ w ⟨rfl, H⟩
    rw [litP_old (s := (D, C)) hy] at H ⊢
    simp only [] at H ⊢
    (repeat ((try conv => whnf); first | refine Join_dup ?_ | (refine Br_gate ?_; first | with_reducible refine Br_not ?_ | refine xB ?_ | refine xC ?_) | (refine Ld_gate ?_; refine xL ?_) | (refine LdN_gate ?_; refine xM ?_) | (refine St_gate ?_; refine xS ?_; clear H; intro w H) | (refine StN_gate ?_; refine xN ?_; clear H; intro w H) | (refine Kept_gate ?_; refine xK ?_) | (refine Ar_gate ?_; first | (first | with_reducible refine Ar_halfU (by omega) ?_) | refine xA ?_) | (first | with_reducible refine Eqv_flip (by omega) ?_ | with_reducible refine Eqv_odd ?_ | refine Eqv_in ?_) | refine Do_ptr_eq_nil tok rfl ?_ | refine Do_ptr_ne_nil tok rfl ?_ | refine Do_nil_eq_nil tok rfl ?_ | refine Nn_in (by omega) ?_ | refine Nz_in (by omega) ?_))
    refine Ix_in i rfl hlt ?_
    (repeat ((try conv => whnf); first | refine Join_dup ?_ | (refine Br_gate ?_; first | with_reducible refine Br_not ?_ | refine xB ?_ | refine xC ?_) | (refine Ld_gate ?_; refine xL ?_) | (refine LdN_gate ?_; refine xM ?_) | (refine St_gate ?_; refine xS ?_; clear H; intro w H) | (refine StN_gate ?_; refine xN ?_; clear H; intro w H) | (refine Kept_gate ?_; refine xK ?_) | (refine Ar_gate ?_; first | (first | with_reducible refine Ar_halfU (by omega) ?_) | refine xA ?_) | (first | with_reducible refine Eqv_flip (by omega) ?_ | with_reducible refine Eqv_odd ?_ | refine Eqv_in ?_) | refine Do_ptr_eq_nil tok rfl ?_ | refine Do_ptr_ne_nil tok rfl ?_ | refine Do_nil_eq_nil tok rfl ?_ | refine Nn_in (by omega) ?_ | refine Nz_in (by omega) ?_))
    refine Ld_mO H (by repeat first | exact List.Mem.head _ | refine List.Mem.tail _ ?_) (v := lV (litOf D (argA es y))) (by rw [List.getElem?_map, litsOf, List.getElem?_map, hxi]; rfl) ?_
    (repeat ((try conv => whnf); first | refine Join_dup ?_ | (refine Br_gate ?_; first | with_reducible refine Br_not ?_ | refine xB ?_ | refine xC ?_) | (refine Ld_gate ?_; refine xL ?_) | (refine LdN_gate ?_; refine xM ?_) | (refine St_gate ?_; refine xS ?_; clear H; intro w H) | (refine StN_gate ?_; refine xN ?_; clear H; intro w H) | (refine Kept_gate ?_; refine xK ?_) | (refine Ar_gate ?_; first | (first | with_reducible refine Ar_halfU (by omega) ?_) | refine xA ?_) | (first | with_reducible refine Eqv_flip (by omega) ?_ | with_reducible refine Eqv_odd ?_ | refine Eqv_in ?_) | refine Do_ptr_eq_nil tok rfl ?_ | refine Do_ptr_ne_nil tok rfl ?_ | refine Do_nil_eq_nil tok rfl ?_ | refine Nn_in (by omega) ?_ | refine Nz_in (by omega) ?_))
    exact ⟨i + 1, ⟨congrArg some (vint (by omega)), trivial⟩, ⟨by omega, H⟩, by omega⟩
  obtain ⟨mb, a2, c2, R, hF, H⟩ := kOpenS H
  (repeat ((try conv => whnf); first | refine Join_dup ?_ | (refine Br_gate ?_; first | with_reducible refine Br_not ?_ | refine xB ?_ | refine xC ?_) | (refine Ld_gate ?_; refine xL ?_) | (refine LdN_gate ?_; refine xM ?_) | (refine St_gate ?_; refine xS ?_; clear H; intro w H) | (refine StN_gate ?_; refine xN ?_; clear H; intro w H) | (refine Kept_gate ?_; refine xK ?_) | (refine Ar_gate ?_; first | (first | with_reducible refine Ar_halfU (by omega) ?_) | refine xA ?_) | (first | with_reducible refine Eqv_flip (by omega) ?_ | with_reducible refine Eqv_odd ?_ | refine Eqv_in ?_) | refine Do_ptr_eq_nil tok rfl ?_ | refine Do_ptr_ne_nil tok rfl ?_ | refine Do_nil_eq_nil tok rfl ?_ | refine Nn_in (by omega) ?_ | refine Nz_in (by omega) ?_))
  have H2 := kCloseS hF.eq H
  refine Call_of (kKnown H2 (.head _) (by omega)) ?_
  rintro _ _ ⟨rfl, rfl⟩
  (repeat ((try conv => whnf); first | refine Join_dup ?_ | (refine Br_gate ?_; first | with_reducible refine Br_not ?_ | refine xB ?_ | refine xC ?_) | (refine Ld_gate ?_; refine xL ?_) | (refine LdN_gate ?_; refine xM ?_) | (refine St_gate ?_; refine xS ?_; clear H; intro w H) | (refine StN_gate ?_; refine xN ?_; clear H; intro w H) | (refine Kept_gate ?_; refine xK ?_) | (refine Ar_gate ?_; first | (first | with_reducible refine Ar_halfU (by omega) ?_) | refine xA ?_) | (first | with_reducible refine Eqv_flip (by omega) ?_ | with_reducible refine Eqv_odd ?_ | refine Eqv_in ?_) | refine Do_ptr_eq_nil tok rfl ?_ | refine Do_ptr_ne_nil tok rfl ?_ | refine Do_nil_eq_nil tok rfl ?_ | refine Nn_in (by omega) ?_ | refine Nz_in (by omega) ?_))
  exact Ret_in ⟨vbool (beqT rfl), H.all⟩
end
end Go.Proofs.Ytpllmfoaahaciaa
