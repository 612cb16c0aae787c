/- An engine: another literal is watched. -/
import Derived.Test.YtcibiidebknkgaaGreatWatchP
set_option linter.unusedVariables false
set_option linter.unusedSimpArgs false
namespace Go.Proofs.YtcibiidebknkgaaGreat
open Go Go.Vc Go.Watch
open Go.Trail (Ent value find upto okLit litsV)
set_option maxHeartbeats 4000000
set_option maxRecDepth 100000

theorem row_same {R : List Cr} {id : Nat} {x y : Cr} (hx : R[id]? = some x) (hy : row3 y = row3 x) : (R.set id y).flatMap row3 = R.flatMap row3 := by
  have hlt := (List.getElem?_eq_some_iff.1 hx).1
  have e1 := rowSet row3_len (E := R) (y := y) hlt
  have e2 := rowSet row3_len (E := R) (y := x) hlt
  have e3 : R.set id x = R := by
    apply List.ext_getElem?
    intro j
    rw [List.getElem?_set]
    by_cases h : id = j
    · subst h; rw [if_pos rfl, if_pos hlt, hx]
    · rw [if_neg h]
  rw [← e1, hy, e2, e3]
theorem swap_mid {o x z : Int} {t : List Int} {j : Nat} (h : t[j]? = some z) : ((o :: x :: t).set 1 z).set (j + 2) x = o :: z :: (t.take j ++ x :: t.drop (j + 1)) := by
  have hlt := (List.getElem?_eq_some_iff.1 h).1
  simp only [List.set_cons_succ, List.set_cons_zero]
  rw [List.set_eq_take_append_cons_drop, if_pos hlt]
theorem split_mid {z : Int} {t : List Int} {j : Nat} (h : t[j]? = some z) : t = t.take j ++ z :: t.drop (j + 1) := by
  obtain ⟨hlt, e⟩ := List.getElem?_eq_some_iff.1 h
  conv => lhs; rw [← List.take_append_drop j t, List.drop_eq_getElem_cons hlt, e]

section
variable {w0 w : World} {l : List Res} {eb q : Nat} {s : St} {r : Rep} {S : Nat → Prop}

theorem unpick {id k0 : Nat} {a0 : Option Addr} {c : Cls} {lits : List Int} (H : Sep w0 w (ownR a0 c.lits.length k0 29 1 (lits.map lV) :: holeR (fun _ x => clauR x) r.RC id :: eP eb s r :: tP s r :: cP s r :: wP s r :: vP r :: fP s r :: yP s r :: l))
    (hx : r.RC[id]? = some (a0, k0, c)) (hlen : lits.length = c.lits.length) : Sep w0 w (eng eb (relit s id c lits s.W) { r with RC := r.RC.set id (a0, k0, { c with lits := lits }) } l) := by
  rw [← hlen] at H
  replace H := Sep.put (f := fun (_ : Nat) (x : Cr) => clauR x) (y := (a0, k0, { c with lits := lits })) (List.getElem?_eq_some_iff.1 hx).1 H
  replace H := H.tp 3
  replace H := H.tp 3
  replace H := H.tp 3
  have e1 : (r.RC.set id ((a0, k0, { c with lits := lits }) : Cr)).flatMap row3 = r.RC.flatMap row3 := row_same hx (by simp only [row3]; rw [hlen])
  have e2 : (s.C.set id { c with lits := lits }).length = s.C.length := List.length_set
  unfold eng cP eP relit
  simp only []
  rw [e1, e2]
  exact H

theorem eMoved (H : Sep w0 w (eng eb s r l)) (hr : r.Ok s) {id cb k0 : Nat} {a0 : Option Addr} {c : Cls} (hc : s.C[id]? = some c) (hx : r.RC[id]? = some (a0, k0, c)) (hca : r.ca = some ⟨cb, 0, none⟩) {x : Int} (hxt : x ∈ c.lits.take 2)
    (hok : ∀ y ∈ c.lits, okLit y = true ∧ Trail.var y ≤ s.n) (hnd : c.lits.Nodup) (hl6 : c.lits.length ≤ 600000) (hW : s.W.length = 2 * s.n + 2) (hwf : ∀ y, okLit y = true → Trail.var y ≤ s.n → (wAt s.W y).length ≤ 2000000) (hid : id ≤ 1048576) (hn : s.n ≤ 262144) :
    Does Tryz.prog 97 #[.pointer (some ⟨eb, 0, none⟩), .pointer (some ⟨cb, 0 + id * 3, none⟩), idV id, lV x] w fun v w' =>
      (v = .bool true ∧ ∃ o z q q' wa wk, (c.lits = o :: x :: (q ++ z :: q') ∨ c.lits = x :: o :: (q ++ z :: q')) ∧ value s.E z ≠ -1 ∧
        Sep w0 w' (eng eb (relit s id c (o :: z :: (q ++ x :: q')) (wSet s.W z (wAt s.W z ++ [id]))) { r with RC := r.RC.set id (a0, k0, { c with lits := o :: z :: (q ++ x :: q') }), RW := r.RW.set (pl z) (wa, wk, wAt s.W z ++ [id]) } l)) ∨
      (v = .bool false ∧ c.lits = [x] ∧ Sep w0 w' (eng eb s r l)) ∨
      (v = .bool false ∧ ∃ o t, (c.lits = o :: x :: t ∨ c.lits = x :: o :: t) ∧ (value s.E o = 1 ∨ ∀ y ∈ t, value s.E y = -1) ∧ Sep w0 w' (eng eb (relit s id c (o :: x :: t) s.W) { r with RC := r.RC.set id (a0, k0, { c with lits := o :: x :: t }) } l)) := by
  refine Does_intro tok (Tryz.call97 _ _) Tryz.func97 rfl (by rfl) ?_
  have hlt := (List.getElem?_eq_some_iff.1 hc).1
  have hltR : id < r.RC.length := (List.getElem?_eq_some_iff.1 hx).1
  obtain ⟨tb, ca, cc, RC, wa, wc, RW, fa, fc, ya, yc⟩ := r
  simp only [] at hca hx hltR
  subst hca
  have row : ∀ j, j < 3 → (RC.flatMap row3)[id * 3 + j]? = (row3 (a0, k0, c))[j]? := fun j hj => rowGet row3_len hx hj
  (repeat first | refine go ?_ | ((try conv => whnf); (first | (refine St_gate ?_; refine xS ?_) | (refine StN_gate ?_; refine xN ?_)); clear H; intro w H))
  refine Ld_mO H mm (j := id * 3 + 0) (v := .slice a0 c.lits.length k0) (row 0 (by decide)) ?_
  (repeat first | refine go ?_ | ((try conv => whnf); (first | (refine St_gate ?_; refine xS ?_) | (refine StN_gate ?_; refine xN ?_)); clear H; intro w H))
  match hcl : c.lits with
  | [] => rw [hcl] at hxt; cases hxt
  | [y] =>
    rw [hcl] at hxt
    simp at hxt
    subst hxt
    rw [List.length_singleton]
    (repeat first | refine go ?_ | ((try conv => whnf); (first | (refine St_gate ?_; refine xS ?_) | (refine StN_gate ?_; refine xN ?_)); clear H; intro w H))
    exact Ret_in (.inr (.inl ⟨rfl, rfl, H⟩))
  | a :: b :: t =>
  rw [hcl] at hxt hnd hl6 hok
  have hlen : c.lits.length = t.length + 2 := by rw [hcl]; rfl
  simp at hxt
  replace H := H.tp 3
  have eR : clauR (a0, k0, c) = ownR a0 c.lits.length k0 29 1 ((a :: b :: t).map lV) := by
    show ownR a0 c.lits.length k0 _ 1 (c.lits.map lV) = _
    rw [hcl]
  replace H := H.pick hx
  rw [eR] at H
  have hab : a ≠ b := by rintro rfl; simp at hnd
  have hcl' : c.lits = a :: b :: t := hcl
  have e0 : (a :: b :: t).length = c.lits.length := by rw [hcl]
  rw [e0] at hl6 ⊢
  obtain ⟨ab, rfl⟩ := (H.ownM (a := a0) (hm := .head _)).some (by omega)
  rcases hxt with rfl | rfl
  case' inl =>
    have hnx : b ≠ x := hab.symm
    (repeat first | refine go ?_ | ((try conv => whnf); (first | (refine St_gate ?_; refine xS ?_) | (refine StN_gate ?_; refine xN ?_)); clear H; intro w H))
    (refine Ld_mO H mm (j := id * 3 + 0) (v := .slice (some ⟨ab, 0, none⟩) c.lits.length k0) (row 0 (by decide)) ?_; (try conv => whnf))
    (repeat first | refine go ?_ | ((try conv => whnf); (first | (refine St_gate ?_; refine xS ?_) | (refine StN_gate ?_; refine xN ?_)); clear H; intro w H))
    (refine Ix_in 0 rfl (by omega) ?_; (try conv => whnf))
    refine Ld_mO H mm (v := lV x) rfl ?_
    (repeat first | refine go ?_ | ((try conv => whnf); (first | (refine St_gate ?_; refine xS ?_) | (refine StN_gate ?_; refine xN ?_)); clear H; intro w H))
    refine Draw_intro mixed [0, 1, 2, 3, 4, 5, 6, 7, 8, 9, 10, 11, 12, 13, 14, 15, 16, 17, 18, 19, 20, 21, 22, 23] (by decide +kernel) (fun w _ fd => ?_); replace H := H.fr fd; clear fd
    (repeat first | refine go ?_ | ((try conv => whnf); (first | (refine St_gate ?_; refine xS ?_) | (refine StN_gate ?_; refine xN ?_)); clear H; intro w H))
    (refine Ld_mO H mm (j := id * 3 + 0) (v := .slice (some ⟨ab, 0, none⟩) c.lits.length k0) (row 0 (by decide)) ?_; (try conv => whnf))
    (repeat first | refine go ?_ | ((try conv => whnf); (first | (refine St_gate ?_; refine xS ?_) | (refine StN_gate ?_; refine xN ?_)); clear H; intro w H))
    (refine Ld_mO H mm (j := id * 3 + 0) (v := .slice (some ⟨ab, 0, none⟩) c.lits.length k0) (row 0 (by decide)) ?_; (try conv => whnf))
    (repeat first | refine go ?_ | ((try conv => whnf); (first | (refine St_gate ?_; refine xS ?_) | (refine StN_gate ?_; refine xN ?_)); clear H; intro w H))
    (refine Ld_mO H mm (j := id * 3 + 0) (v := .slice (some ⟨ab, 0, none⟩) c.lits.length k0) (row 0 (by decide)) ?_; (try conv => whnf))
    (repeat first | refine go ?_ | ((try conv => whnf); (first | (refine St_gate ?_; refine xS ?_) | (refine StN_gate ?_; refine xN ?_)); clear H; intro w H))
    (refine Ix_in 1 rfl (by omega) ?_; (try conv => whnf))
    refine Ld_mO H mm (v := lV b) rfl ?_
    (repeat first | refine go ?_ | ((try conv => whnf); (first | (refine St_gate ?_; refine xS ?_) | (refine StN_gate ?_; refine xN ?_)); clear H; intro w H))
    (refine Ld_mO H mm (j := id * 3 + 0) (v := .slice (some ⟨ab, 0, none⟩) c.lits.length k0) (row 0 (by decide)) ?_; (try conv => whnf))
    (repeat first | refine go ?_ | ((try conv => whnf); (first | (refine St_gate ?_; refine xS ?_) | (refine StN_gate ?_; refine xN ?_)); clear H; intro w H))
    (refine Ix_in 0 rfl (by omega) ?_; (try conv => whnf))
    refine Ld_mO H mm (v := lV x) rfl ?_
    (repeat first | refine go ?_ | ((try conv => whnf); (first | (refine St_gate ?_; refine xS ?_) | (refine StN_gate ?_; refine xN ?_)); clear H; intro w H))
    (refine Ix_in 0 rfl (by omega) ?_; (try conv => whnf))
    refine St_uO (j := 0) H (by repeat first | exact Upd.head | apply Upd.tail) rfl (by rw [List.length_map]; simp) lits_set ?_
    clear H; intro w H
    (try conv => whnf)
    (repeat (refine Kept_gate ?_; first | refine Kept_in (Sep.cellAt H mm (by rfl)) ?_ | refine Kept_in (Sep.cellAtO H mm (row 0 (by decide))) ?_ | refine Kept_in (Sep.cellN H mm) ?_))
    (repeat first | refine go ?_ | ((try conv => whnf); (first | (refine St_gate ?_; refine xS ?_) | (refine StN_gate ?_; refine xN ?_)); clear H; intro w H))
    (refine Ix_in 1 rfl (by omega) ?_; (try conv => whnf))
    refine St_uO (j := 1) H (by repeat first | exact Upd.head | apply Upd.tail) rfl (by rw [List.length_map]; simp) lits_set ?_
    clear H; intro w H
    replace H : Vc.Sep w0 w (ownR (some ⟨ab, 0, none⟩) c.lits.length k0 29 1 ((b :: x :: t).map lV) :: holeR (fun _ x => clauR x) RC id :: eP eb s ⟨tb, some ⟨cb, 0, none⟩, cc, RC, wa, wc, RW, fa, fc, ya, yc⟩ :: tP s ⟨tb, some ⟨cb, 0, none⟩, cc, RC, wa, wc, RW, fa, fc, ya, yc⟩ :: cP s ⟨tb, some ⟨cb, 0, none⟩, cc, RC, wa, wc, RW, fa, fc, ya, yc⟩ :: wP s ⟨tb, some ⟨cb, 0, none⟩, cc, RC, wa, wc, RW, fa, fc, ya, yc⟩ :: vP ⟨tb, some ⟨cb, 0, none⟩, cc, RC, wa, wc, RW, fa, fc, ya, yc⟩ :: fP s ⟨tb, some ⟨cb, 0, none⟩, cc, RC, wa, wc, RW, fa, fc, ya, yc⟩ :: yP s ⟨tb, some ⟨cb, 0, none⟩, cc, RC, wa, wc, RW, fa, fc, ya, yc⟩ :: l) := H
    have hlo : c.lits = b :: x :: t ∨ c.lits = x :: b :: t := .inr hcl'
    have hoo := hok b (by simp)
    have hxo := hok x (by simp)
    have hto : ∀ y ∈ t, okLit y = true ∧ Trail.var y ≤ s.n := fun y hy => hok y (by simp [hy])
    have hnt : ∀ y ∈ t, y ≠ b ∧ y ≠ x := fun y hy => ⟨by rintro rfl; simp [hy] at hnd, by rintro rfl; simp [hy] at hnd⟩
    clear hok hnd hab hnx hcl hcl' eR
    generalize b = o at *
  case' inr =>
    have hax : a ≠ x := hab
    (repeat first | refine go ?_ | ((try conv => whnf); (first | (refine St_gate ?_; refine xS ?_) | (refine StN_gate ?_; refine xN ?_)); clear H; intro w H))
    (refine Ld_mO H mm (j := id * 3 + 0) (v := .slice (some ⟨ab, 0, none⟩) c.lits.length k0) (row 0 (by decide)) ?_; (try conv => whnf))
    (repeat first | refine go ?_ | ((try conv => whnf); (first | (refine St_gate ?_; refine xS ?_) | (refine StN_gate ?_; refine xN ?_)); clear H; intro w H))
    (refine Ix_in 0 rfl (by omega) ?_; (try conv => whnf))
    refine Ld_mO H mm (v := lV a) rfl ?_
    (repeat first | refine go ?_ | ((try conv => whnf); (first | (refine St_gate ?_; refine xS ?_) | (refine StN_gate ?_; refine xN ?_)); clear H; intro w H))
    have hlo : c.lits = a :: x :: t ∨ c.lits = x :: a :: t := .inl hcl'
    have hoo := hok a (by simp)
    have hxo := hok x (by simp)
    have hto : ∀ y ∈ t, okLit y = true ∧ Trail.var y ≤ s.n := fun y hy => hok y (by simp [hy])
    have hnt : ∀ y ∈ t, y ≠ a ∧ y ≠ x := fun y hy => ⟨by rintro rfl; simp [hy] at hnd, by rintro rfl; simp [hy] at hnd⟩
    replace H : Vc.Sep w0 w (ownR (some ⟨ab, 0, none⟩) c.lits.length k0 29 1 ((a :: x :: t).map lV) :: holeR (fun _ x => clauR x) RC id :: eP eb s ⟨tb, some ⟨cb, 0, none⟩, cc, RC, wa, wc, RW, fa, fc, ya, yc⟩ :: tP s ⟨tb, some ⟨cb, 0, none⟩, cc, RC, wa, wc, RW, fa, fc, ya, yc⟩ :: cP s ⟨tb, some ⟨cb, 0, none⟩, cc, RC, wa, wc, RW, fa, fc, ya, yc⟩ :: wP s ⟨tb, some ⟨cb, 0, none⟩, cc, RC, wa, wc, RW, fa, fc, ya, yc⟩ :: vP ⟨tb, some ⟨cb, 0, none⟩, cc, RC, wa, wc, RW, fa, fc, ya, yc⟩ :: fP s ⟨tb, some ⟨cb, 0, none⟩, cc, RC, wa, wc, RW, fa, fc, ya, yc⟩ :: yP s ⟨tb, some ⟨cb, 0, none⟩, cc, RC, wa, wc, RW, fa, fc, ya, yc⟩ :: l) := H
    clear hok hnd hab hax hcl hcl' eR
    generalize a = o at *
  all_goals
    (repeat first | refine go ?_ | ((try conv => whnf); (first | (refine St_gate ?_; refine xS ?_) | (refine StN_gate ?_; refine xN ?_)); clear H; intro w H))
    refine Draw_intro mixed [0, 1, 2, 3, 4, 5, 6, 7, 8, 9, 10, 11] (by decide +kernel) (fun w _ fd => ?_); replace H := H.fr fd; clear fd
    (repeat first | refine go ?_ | ((try conv => whnf); (first | (refine St_gate ?_; refine xS ?_) | (refine StN_gate ?_; refine xN ?_)); clear H; intro w H))
    (refine Ld_mO H mm (j := id * 3 + 0) (v := .slice (some ⟨ab, 0, none⟩) c.lits.length k0) (row 0 (by decide)) ?_; (try conv => whnf))
    (repeat first | refine go ?_ | ((try conv => whnf); (first | (refine St_gate ?_; refine xS ?_) | (refine StN_gate ?_; refine xN ?_)); clear H; intro w H))
    (refine Ix_in 0 rfl (by omega) ?_; (try conv => whnf))
    refine Ld_mO H mm (v := lV o) rfl ?_
    (repeat first | refine go ?_ | ((try conv => whnf); (first | (refine St_gate ?_; refine xS ?_) | (refine StN_gate ?_; refine xN ?_)); clear H; intro w H))
    (try conv => whnf)
    refine Call_of (sTrailValue H mm) ?_
    rintro _ _ ⟨rfl, rfl⟩
    (try conv => whnf)
    (repeat (refine Kept_gate ?_; first | refine Kept_in (Sep.cellAt H mm (by rfl)) ?_ | refine Kept_in (Sep.cellAtO H mm (row 0 (by decide))) ?_ | refine Kept_in (Sep.cellAtO (j := 0) H mm (v := lV o) rfl) ?_))
    (try conv => whnf)
    by_cases hov : value s.E o = 1
    · rw [hov]
      (repeat first | refine go ?_ | ((try conv => whnf); (first | (refine St_gate ?_; refine xS ?_) | (refine StN_gate ?_; refine xN ?_)); clear H; intro w H))
      exact Ret_in (.inr (.inr ⟨rfl, o, t, (by first | exact .inl rfl | exact .inr rfl), .inl hov, unpick (r := ⟨tb, some ⟨cb, 0, none⟩, cc, RC, _, wc, RW, fa, fc, ya, yc⟩) H hx (by simp; omega)⟩))
    (repeat first | refine go ?_ | ((try conv => whnf); (first | (refine St_gate ?_; refine xS ?_) | (refine StN_gate ?_; refine xN ?_)); clear H; intro w H))
    refine Loop_intro (fun j : Nat => [(9, .int .i64 ((j + 2 : Nat) : Int))]) (fun j w => (j ≤ t.length ∧ ∀ y ∈ t.take j, value s.E y = -1) ∧ Sep w0 w (ownR (some ⟨ab, 0, none⟩) c.lits.length k0 29 1 ((o :: x :: t).map lV) :: holeR (fun _ x => clauR x) RC id :: eP eb s ⟨tb, some ⟨cb, 0, none⟩, cc, RC, _, wc, RW, fa, fc, ya, yc⟩ :: tP s ⟨tb, some ⟨cb, 0, none⟩, cc, RC, _, wc, RW, fa, fc, ya, yc⟩ :: cP s ⟨tb, some ⟨cb, 0, none⟩, cc, RC, _, wc, RW, fa, fc, ya, yc⟩ :: wP s ⟨tb, some ⟨cb, 0, none⟩, cc, RC, _, wc, RW, fa, fc, ya, yc⟩ :: vP ⟨tb, some ⟨cb, 0, none⟩, cc, RC, _, wc, RW, fa, fc, ya, yc⟩ :: fP s ⟨tb, some ⟨cb, 0, none⟩, cc, RC, _, wc, RW, fa, fc, ya, yc⟩ :: yP s ⟨tb, some ⟨cb, 0, none⟩, cc, RC, _, wc, RW, fa, fc, ya, yc⟩ :: l)) (fun j => t.length - j) 0 ⟨rfl, trivial⟩ ⟨⟨Nat.zero_le _, by simp⟩, H⟩ ?_
    clear H
    rintro j w ⟨⟨hj, hfl⟩, H⟩
    simp only [] at hj hfl H ⊢
    (repeat first | refine go ?_ | ((try conv => whnf); (first | (refine St_gate ?_; refine xS ?_) | (refine StN_gate ?_; refine xN ?_)); clear H; intro w H))
    (refine Ld_mO H mm (j := id * 3 + 0) (v := .slice (some ⟨ab, 0, none⟩) c.lits.length k0) (row 0 (by decide)) ?_; (try conv => whnf))
    (repeat first | refine go ?_ | ((try conv => whnf); (first | (refine St_gate ?_; refine xS ?_) | (refine StN_gate ?_; refine xN ?_)); clear H; intro w H))
    refine Br_dec (fun k1 => ?_) (fun k1 => ?_)
    · have hjt : j < t.length := by omega
      have hz : t[j]? = some t[j] := List.getElem?_eq_getElem hjt
      generalize t[j] = z at hz
      have hzL : ((o :: x :: t).map lV)[j + 2]? = some (lV z) := by rw [List.getElem?_map]; simp [hz]
      have hzo := hto z (List.mem_of_getElem? hz)
      (repeat first | refine go ?_ | ((try conv => whnf); (first | (refine St_gate ?_; refine xS ?_) | (refine StN_gate ?_; refine xN ?_)); clear H; intro w H))
      refine Draw_intro mixed [0, 1, 2, 3, 4, 5, 6, 7, 8, 9, 10, 11, 12] (by decide +kernel) (fun w _ fd => ?_); replace H := H.fr fd; clear fd
      (repeat first | refine go ?_ | ((try conv => whnf); (first | (refine St_gate ?_; refine xS ?_) | (refine StN_gate ?_; refine xN ?_)); clear H; intro w H))
      (refine Ld_mO H mm (j := id * 3 + 0) (v := .slice (some ⟨ab, 0, none⟩) c.lits.length k0) (row 0 (by decide)) ?_; (try conv => whnf))
      (repeat first | refine go ?_ | ((try conv => whnf); (first | (refine St_gate ?_; refine xS ?_) | (refine StN_gate ?_; refine xN ?_)); clear H; intro w H))
      refine Ix_in (j + 2) rfl (by omega) ?_
      (try conv => whnf)
      refine Ld_mO H mm (v := lV z) hzL ?_
      (repeat first | refine go ?_ | ((try conv => whnf); (first | (refine St_gate ?_; refine xS ?_) | (refine StN_gate ?_; refine xN ?_)); clear H; intro w H))
      (try conv => whnf)
      refine Call_of (sTrailValue H mm) ?_
      rintro _ _ ⟨rfl, rfl⟩
      (try conv => whnf)
      (repeat (refine Kept_gate ?_; first | refine Kept_in (Sep.cellAt H mm (by rfl)) ?_ | refine Kept_in (Sep.cellAtO H mm (row 0 (by decide))) ?_ | refine Kept_in (Sep.cellAtO H mm hzL) ?_))
      (try conv => whnf)
      by_cases hzv : value s.E z = -1
      · rw [hzv]
        (repeat first | refine go ?_ | ((try conv => whnf); (first | (refine St_gate ?_; refine xS ?_) | (refine StN_gate ?_; refine xN ?_)); clear H; intro w H))
        refine ⟨j + 1, ⟨congrArg some (vint (by omega)), trivial⟩, ⟨⟨by omega, fun y hy => ?_⟩, H⟩, by omega⟩
        rw [List.take_add_one, hz, List.mem_append] at hy
        rcases hy with hy | hy
        · exact hfl y hy
        · simp at hy; rw [hy]; exact hzv
      have hz0 : 0 ≤ value s.E z := by
        rcases Watch.val_cases s.E z with h | h | h
        · omega
        · omega
        · exact (hzv h).elim
      (repeat first | refine go ?_ | ((try conv => whnf); (first | (refine St_gate ?_; refine xS ?_) | (refine StN_gate ?_; refine xN ?_)); clear H; intro w H))
      refine Draw_intro mixed [0, 1, 2, 3, 4, 5, 6, 7, 8, 9, 10, 11, 12, 13, 14, 15, 16, 17, 18, 19, 20, 21, 22, 23, 24, 25] (by decide +kernel) (fun w _ fd => ?_); replace H := H.fr fd; clear fd
      (repeat first | refine go ?_ | ((try conv => whnf); (first | (refine St_gate ?_; refine xS ?_) | (refine StN_gate ?_; refine xN ?_)); clear H; intro w H))
      (refine Ld_mO H mm (j := id * 3 + 0) (v := .slice (some ⟨ab, 0, none⟩) c.lits.length k0) (row 0 (by decide)) ?_; (try conv => whnf))
      (repeat first | refine go ?_ | ((try conv => whnf); (first | (refine St_gate ?_; refine xS ?_) | (refine StN_gate ?_; refine xN ?_)); clear H; intro w H))
      (refine Ld_mO H mm (j := id * 3 + 0) (v := .slice (some ⟨ab, 0, none⟩) c.lits.length k0) (row 0 (by decide)) ?_; (try conv => whnf))
      (repeat first | refine go ?_ | ((try conv => whnf); (first | (refine St_gate ?_; refine xS ?_) | (refine StN_gate ?_; refine xN ?_)); clear H; intro w H))
      (refine Ld_mO H mm (j := id * 3 + 0) (v := .slice (some ⟨ab, 0, none⟩) c.lits.length k0) (row 0 (by decide)) ?_; (try conv => whnf))
      (repeat first | refine go ?_ | ((try conv => whnf); (first | (refine St_gate ?_; refine xS ?_) | (refine StN_gate ?_; refine xN ?_)); clear H; intro w H))
      refine Ix_in (j + 2) rfl (by omega) ?_
      (try conv => whnf)
      refine Ld_mO H mm (v := lV z) hzL ?_
      (repeat first | refine go ?_ | ((try conv => whnf); (first | (refine St_gate ?_; refine xS ?_) | (refine StN_gate ?_; refine xN ?_)); clear H; intro w H))
      (refine Ld_mO H mm (j := id * 3 + 0) (v := .slice (some ⟨ab, 0, none⟩) c.lits.length k0) (row 0 (by decide)) ?_; (try conv => whnf))
      (repeat first | refine go ?_ | ((try conv => whnf); (first | (refine St_gate ?_; refine xS ?_) | (refine StN_gate ?_; refine xN ?_)); clear H; intro w H))
      (refine Ix_in 1 rfl (by omega) ?_; (try conv => whnf))
      refine Ld_mO H mm (v := lV x) rfl ?_
      (repeat first | refine go ?_ | ((try conv => whnf); (first | (refine St_gate ?_; refine xS ?_) | (refine StN_gate ?_; refine xN ?_)); clear H; intro w H))
      (refine Ix_in 1 rfl (by omega) ?_; (try conv => whnf))
      refine St_uO (j := 1) H (by repeat first | exact Upd.head | apply Upd.tail) rfl (by rw [List.length_map]; simp) lits_set ?_
      clear H; intro w H
      (try conv => whnf)
      (repeat (refine Kept_gate ?_; first | refine Kept_in (Sep.cellAt H mm (by rfl)) ?_ | refine Kept_in (Sep.cellAtO H mm (row 0 (by decide))) ?_ | refine Kept_in (Sep.cellN H mm) ?_))
      (repeat first | refine go ?_ | ((try conv => whnf); (first | (refine St_gate ?_; refine xS ?_) | (refine StN_gate ?_; refine xN ?_)); clear H; intro w H))
      refine Ix_in (j + 2) rfl (by omega) ?_
      (try conv => whnf)
      refine St_uO (j := j + 2) H (by repeat first | exact Upd.head | apply Upd.tail) rfl (by rw [List.length_map, List.length_set]; simp; omega) lits_set ?_
      clear H; intro w H
      rw [swap_mid hz] at H
      have hnl : (o :: z :: (t.take j ++ x :: t.drop (j + 1))).length = c.lits.length := by rw [← swap_mid hz]; simp; omega
      (repeat first | refine go ?_ | ((try conv => whnf); (first | (refine St_gate ?_; refine xS ?_) | (refine StN_gate ?_; refine xN ?_)); clear H; intro w H))
      (refine Ld_mO H mm (j := id * 3 + 0) (v := .slice (some ⟨ab, 0, none⟩) c.lits.length k0) (row 0 (by decide)) ?_; (try conv => whnf))
      (repeat first | refine go ?_ | ((try conv => whnf); (first | (refine St_gate ?_; refine xS ?_) | (refine StN_gate ?_; refine xN ?_)); clear H; intro w H))
      (refine Ix_in 1 rfl (by omega) ?_; (try conv => whnf))
      refine Ld_mO H mm (v := lV z) rfl ?_
      (repeat first | refine go ?_ | ((try conv => whnf); (first | (refine St_gate ?_; refine xS ?_) | (refine StN_gate ?_; refine xN ?_)); clear H; intro w H))
      refine Call_of (ePlace hzo.1 _) ?_
      rintro _ _ ⟨rfl, rfl⟩
      have hplz := pl_lt hzo.1 hzo.2
      obtain ⟨wa', wk', hwr⟩ := hr.wat (x := z) (by omega)
      simp only [] at hwr
      have hpl : pl z < s.W.length := by omega
      have hplr : pl z < RW.length := (List.getElem?_eq_some_iff.1 hwr).1
      have hwl : (RW.map wV)[pl z]? = some (.slice wa' (wAt s.W z).length wk') := by rw [List.getElem?_map, hwr]; rfl
      have hw6 := hwf z hzo.1 hzo.2
      obtain ⟨wb, hwb⟩ := (H.ownM (a := wa) (hm := .tail _ (.tail _ (.tail _ (.tail _ (.tail _ (.head _))))))).some (by omega)
      subst hwb
      replace H := unpick (r := ⟨tb, some ⟨cb, 0, none⟩, cc, RC, _, wc, RW, fa, fc, ya, yc⟩) H hx hnl
      (repeat first | refine go ?_ | ((try conv => whnf); (first | (refine St_gate ?_; refine xS ?_) | (refine StN_gate ?_; refine xN ?_)); clear H; intro w H))
      refine Draw_intro mixed [0, 1, 2, 3, 4, 5, 6, 7, 8, 9, 10, 11, 12, 13, 14, 15, 16] (by decide +kernel) (fun w _ fd => ?_); replace H := H.fr fd; clear fd
      (repeat first | refine go ?_ | ((try conv => whnf); (first | (refine St_gate ?_; refine xS ?_) | (refine StN_gate ?_; refine xN ?_)); clear H; intro w H))
      refine Ix_in (pl z) rfl hpl ?_
      (try conv => whnf)
      refine Ld_mO H mm (v := .slice wa' (wAt s.W z).length wk') hwl ?_
      (repeat first | refine go ?_ | ((try conv => whnf); (first | (refine St_gate ?_; refine xS ?_) | (refine StN_gate ?_; refine xN ?_)); clear H; intro w H))
      (refine Nw_sep H ?_; clear H; intro nb2 w H; (try simp only [Value.cells, List.toList_toArray, List.append_nil, List.cons_append, List.nil_append] at H))
      (try conv => whnf)
      (repeat (refine Kept_gate ?_; first | refine Kept_in (Sep.cellAt H mm (by rfl)) ?_ | refine Kept_in (Sep.cellAtO H mm hwl) ?_ | refine Kept_in (Sep.cellN H mm) ?_))
      (try conv => whnf)
      (replace H := H.tp 6; replace H := H.pick hwr; replace H : Vc.Sep w0 w (wRx wa' wk' (wAt s.W z) :: _) := H; replace H := H.tp 2; (refine DoN_gate ?_; refine append_one tok H rfl rfl rfl rfl rfl (by decide) mm (m := 1) rfl (by simp [oneCell]) (by omega) (by unfold maxLen; omega) ?_; clear H; intro na nk w H; replace H := H _ (by repeat first | exact Upd.head | apply Upd.tail)); rw [wR_app] at H; (try conv => whnf); (repeat (refine Kept_gate ?_; first | refine Kept_in (Sep.cellAt H mm (by rfl)) ?_ | refine Kept_in (Sep.cellAtO H mm hwl) ?_ | refine Kept_in (Sep.cellN H mm) ?_)); (try conv => whnf); refine Ix_in (pl z) rfl hpl ?_; (try conv => whnf); refine St_uO H (by repeat first | exact Upd.head | apply Upd.tail) rfl (by rw [List.length_map]; omega) (wV_app (id := id)) ?_; clear H; intro w H; replace H := Sep.put (f := fun (_ : Nat) (x : Wr) => wR x) hplr H; (replace H := H.tp 5; replace H := H.tp 5; replace H := H.tp 5; replace H := H.tp 5; replace H := H.tp 5))
      (repeat first | refine go ?_ | ((try conv => whnf); (first | (refine St_gate ?_; refine xS ?_) | (refine StN_gate ?_; refine xN ?_)); clear H; intro w H))
      refine Ret_in (.inl ⟨rfl, o, z, t.take j, t.drop (j + 1), na, nk, (by rw [← split_mid hz]; first | exact .inl rfl | exact .inr rfl), hzv, ?_⟩)
      unfold eng eP wP relit
      simp only []
      rw [wSet_len]
      exact H
    · obtain rfl : j = t.length := by omega
      rw [List.take_length] at hfl
      (repeat first | refine go ?_ | ((try conv => whnf); (first | (refine St_gate ?_; refine xS ?_) | (refine StN_gate ?_; refine xN ?_)); clear H; intro w H))
      exact Ret_in (.inr (.inr ⟨rfl, o, t, (by first | exact .inl rfl | exact .inr rfl), .inr hfl, unpick (r := ⟨tb, some ⟨cb, 0, none⟩, cc, RC, _, wc, RW, fa, fc, ya, yc⟩) H hx (by simp; omega)⟩))
end
end Go.Proofs.YtcibiidebknkgaaGreat
