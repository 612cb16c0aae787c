/- An engine: a clause less. -/
import Derived.Test.YtcibiidebknkgaaGreatWatchB
set_option linter.unusedVariables false
set_option linter.unusedSimpArgs false
namespace Go.Proofs.YtcibiidebknkgaaGreat
open Go Go.Vc Go.Watch
open Go.Trail (Ent value find upto okLit litsV)
set_option maxHeartbeats 4000000
set_option maxRecDepth 100000

theorem row_off : ∀ {R : List Cr} {id : Nat} {a : Option Addr} {k : Nat} {c : Cls}, R[id]? = some (a, k, c) → (R.flatMap row3).set (id * 3 + 1) (.bool false) = (R.set id (a, k, { c with on := false })).flatMap row3
  | [], id, a, k, c, h => by simp at h
  | x :: R, 0, a, k, c, h => by
    simp at h; subst h
    rfl
  | x :: R, id + 1, a, k, c, h => by
    have ih := row_off (R := R) (id := id) (a := a) (k := k) (c := c) (by simpa using h)
    rw [List.set_cons_succ, List.flatMap_cons, List.flatMap_cons, ← ih]
    rw [List.set_append_right _ _ (by rw [row3_len]; omega), row3_len]
    congr 2; omega
theorem big_same {R : List Cr} {id : Nat} {x y : Cr} (hx : R[id]? = some x) (h : clauR y = clauR x) : bigR (fun _ x => clauR x) (R.set id y) = bigR (fun _ x => clauR x) R := by
  unfold bigR
  have e1 := bigL_set (f := fun (_ : Nat) (x : Cr) => clauR x) (xs := R) (k := 0) (i := id) (y := y)
  have e2 := bigL_set (f := fun (_ : Nat) (x : Cr) => clauR x) (xs := R) (k := 0) (i := id) (y := x)
  have e3 : R.set id x = R := by
    apply List.ext_getElem?
    intro j
    rw [List.getElem?_set]
    by_cases e : id = j
    · subst e; rw [if_pos rfl, if_pos (List.getElem?_eq_some_iff.1 hx).1, hx]
    · rw [if_neg e]
  rw [e3] at e2
  rw [← e1]
  simp only [h] at e1 ⊢
  rw [e2]
/-- Does a literal need a clause? -/
def needs (E : List Ent) (id : Int) (x : Int) : Prop := (knownOf E (Trail.var x)).2.2 = id ∧ value E x = 1
instance (E : List Ent) (id x : Int) : Decidable (needs E id x) := by unfold needs; infer_instance

section
variable {w0 w : World} {l : List Res} {eb q : Nat} {s : St} {r : Rep} {S : Nat → Prop}

theorem eRemove_no (H : Sep w0 w (engR eb s :: l)) {id : Int} (hn : id < 0 ∨ (s.C.length : Int) ≤ id ∨ ∃ c, s.C[id.toNat]? = some c ∧ c.on = false) (hC : s.C.length ≤ 1048576) :
    Does Tryz.prog 110 #[.pointer (some ⟨eb, 0, none⟩), .int .i64 id] w fun v w' => v = .int .i64 51 ∧ Sep w0 w' (engR eb s :: l) := by
  refine Does_intro tok (Tryz.call110 _ _) Tryz.func110 rfl (by rfl) ?_
  (repeat first | refine go ?_ | ((try conv => whnf); (first | (refine St_gate ?_; refine xS ?_) | (refine StN_gate ?_; refine xN ?_)); clear H; intro w H))
  refine Call_of (eClause_no H hn hC) ?_
  clear H
  rintro _ w ⟨rfl, H⟩
  (repeat first | refine go ?_ | ((try conv => whnf); (first | (refine St_gate ?_; refine xS ?_) | (refine StN_gate ?_; refine xN ?_)); clear H; intro w H))
  exact Ret_in ⟨rfl, H⟩

theorem eRemove (H : Sep w0 w (engR eb s :: l)) {id : Nat} {c : Cls} (hc : s.C[id]? = some c) (ho : c.on = true) (hl : ∀ x ∈ c.lits, Lit.one x = true) (hm : c.lits.length ≤ 1000000) (hC : s.C.length ≤ 1048576) :
    Does Tryz.prog 110 #[.pointer (some ⟨eb, 0, none⟩), idV id] w fun v w' => (v = .int .i64 51 ∧ (∃ x ∈ c.lits, needs s.E id x) ∧ Sep w0 w' (engR eb s :: l)) ∨
      (v = .int .i64 0 ∧ (∀ x ∈ c.lits, ¬ needs s.E id x) ∧ Sep w0 w' (engR eb { s with C := s.C.set id { c with on := false } } :: l)) := by
  refine Does_intro tok (Tryz.call110 _ _) Tryz.func110 rfl (by rfl) ?_
  (repeat first | refine go ?_ | ((try conv => whnf); (first | (refine St_gate ?_; refine xS ?_) | (refine StN_gate ?_; refine xN ?_)); clear H; intro w H))
  refine Call_of (eClause H hc ho hl (by omega) hC) ?_
  clear H
  rintro _ w ⟨a, k, out, rfl, _, _, H⟩
  replace H := H.tail
  obtain ⟨r, hr, H⟩ := engOpen H
  have hlt := (List.getElem?_eq_some_iff.1 hc).1
  obtain ⟨a0, k0, hx⟩ := hr.cat hc
  obtain ⟨cb, hcb⟩ := (H.ownM (a := r.ca) (hm := .tail _ (.tail _ (.head _)))).some (by omega)
  obtain ⟨tb, ca, cc, RC, wa, wc, RW, fa, fc, ya, yc⟩ := r
  simp only [] at hcb hx
  subst hcb
  have row : ∀ j, j < 3 → (RC.flatMap row3)[id * 3 + j]? = (row3 (a0, k0, c))[j]? := fun j hj => rowGet row3_len hx hj
  (repeat first | refine go ?_ | ((try conv => whnf); (first | (refine St_gate ?_; refine xS ?_) | (refine StN_gate ?_; refine xN ?_)); clear H; intro w H))
  refine Ix_in id rfl hlt ?_
  (repeat first | refine go ?_ | ((try conv => whnf); (first | (refine St_gate ?_; refine xS ?_) | (refine StN_gate ?_; refine xN ?_)); clear H; intro w H))
  refine Ld_mO H mm (j := id * 3 + 0) (v := .slice a0 c.lits.length k0) (row 0 (by decide)) ?_
  (repeat first | refine go ?_ | ((try conv => whnf); (first | (refine St_gate ?_; refine xS ?_) | (refine StN_gate ?_; refine xN ?_)); clear H; intro w H))
  refine Loop_intro (fun i : Nat => [(26, .int .i64 (i : Int))]) (fun i w => (i ≤ c.lits.length ∧ ∀ y ∈ c.lits.take i, ¬ needs s.E id y) ∧ Sep w0 w (eng eb s ⟨tb, some ⟨cb, 0, none⟩, cc, RC, wa, wc, RW, fa, fc, ya, yc⟩ l)) (fun i => c.lits.length - i) 0 ⟨rfl, trivial⟩ ⟨⟨Nat.zero_le _, by simp⟩, H⟩ ?_
  clear H
  rintro i w ⟨⟨hi, hno⟩, H⟩
  simp only [] at hi hno H ⊢
  refine Br_dec (fun k1 => ?_) (fun k1 => ?_)
  · have hit : i < c.lits.length := by omega
    have hy : c.lits[i]? = some c.lits[i] := List.getElem?_eq_getElem hit
    generalize c.lits[i] = y at hy
    have hsrc := engSrc H hx
    obtain ⟨ab, ao, rfl⟩ := hsrc.addr (by rw [List.length_map]; omega)
    have hnext : ¬ needs s.E id y → ∀ z ∈ c.lits.take (i + 1), ¬ needs s.E id z := by
      intro hv z hz
      rw [List.take_add_one, hy, List.mem_append] at hz
      rcases hz with hz | hz
      · exact hno z hz
      · simp at hz; rw [hz]; exact hv
    refine Ix_in i rfl hit ?_
    refine Ld_src (j := i) hsrc (v := lV y) (by rw [List.getElem?_map, hy]; rfl) ?_
    clear hsrc
    (repeat first | refine go ?_ | ((try conv => whnf); (first | (refine St_gate ?_; refine xS ?_) | (refine StN_gate ?_; refine xN ?_)); clear H; intro w H))
    refine Draw_intro mixed [0, 1, 2, 3, 4, 7, 5, 6, 8, 9, 10, 11, 12, 13, 14, 15, 16, 17] (by decide +kernel) (fun w _ fd => ?_); replace H := H.fr fd; clear fd
    (repeat first | refine go ?_ | ((try conv => whnf); (first | (refine St_gate ?_; refine xS ?_) | (refine StN_gate ?_; refine xN ?_)); clear H; intro w H))
    (try conv => whnf)
    refine Call_of (litVar y _) ?_
    rintro _ _ ⟨rfl, rfl⟩
    (try conv => whnf)
    (repeat (refine Kept_gate ?_; refine xK ?_))
    (try conv => whnf)
    refine Call_of (sTrailReason H mm) ?_
    clear H
    rintro _ w ⟨rfl, H⟩
    (try conv => whnf)
    (repeat (refine Kept_gate ?_; refine xK ?_))
    (try conv => whnf)
    by_cases h1 : (knownOf s.E (Trail.var y)).2.2 = (id : Int)
    · (repeat first | refine go ?_ | ((try conv => whnf); (first | (refine St_gate ?_; refine xS ?_) | (refine StN_gate ?_; refine xN ?_)); clear H; intro w H))
      refine Call_of (sTrailValue H mm) ?_
      rintro _ _ ⟨rfl, rfl⟩
      by_cases h2 : value s.E y = 1
      · (repeat first | refine go ?_ | ((try conv => whnf); (first | (refine St_gate ?_; refine xS ?_) | (refine StN_gate ?_; refine xN ?_)); clear H; intro w H))
        exact Ret_in (.inl ⟨rfl, ⟨y, List.mem_of_getElem? hy, h1, h2⟩, engClose hr H⟩)
      · (repeat first | refine go ?_ | ((try conv => whnf); (first | (refine St_gate ?_; refine xS ?_) | (refine StN_gate ?_; refine xN ?_)); clear H; intro w H))
        exact ⟨i + 1, ⟨congrArg some (vint (by omega)), trivial⟩, ⟨⟨by omega, hnext fun h => h2 h.2⟩, H⟩, by omega⟩
    · (repeat first | refine go ?_ | ((try conv => whnf); (first | (refine St_gate ?_; refine xS ?_) | (refine StN_gate ?_; refine xN ?_)); clear H; intro w H))
      exact ⟨i + 1, ⟨congrArg some (vint (by omega)), trivial⟩, ⟨⟨by omega, hnext fun h => h1 h.1⟩, H⟩, by omega⟩
  · obtain rfl : i = c.lits.length := by omega
    rw [List.take_length] at hno
    (repeat first | refine go ?_ | ((try conv => whnf); (first | (refine St_gate ?_; refine xS ?_) | (refine StN_gate ?_; refine xN ?_)); clear H; intro w H))
    refine Ix_in id rfl hlt ?_
    (repeat first | refine go ?_ | ((try conv => whnf); (first | (refine St_gate ?_; refine xS ?_) | (refine StN_gate ?_; refine xN ?_)); clear H; intro w H))
    refine St_uO (j := id * 3 + 1) H (by repeat first | exact Upd.head | apply Upd.tail) rfl (by rw [rowLen row3_len]; have := (List.getElem?_eq_some_iff.1 hx).1; omega) (row_off hx) ?_
    clear H; intro w H
    (repeat first | refine go ?_ | ((try conv => whnf); (first | (refine St_gate ?_; refine xS ?_) | (refine StN_gate ?_; refine xN ?_)); clear H; intro w H))
    refine Ret_in (.inr ⟨rfl, hno, engClose (r := ⟨tb, some ⟨cb, 0, none⟩, cc, RC.set id (a0, k0, { c with on := false }), wa, wc, RW, fa, fc, ya, yc⟩) ⟨by
      have h := hr.C
      simp only [] at h ⊢
      rw [List.map_set, h], hr.W⟩ ?_⟩)
    have e : (s.C.set id { c with on := false }).length = s.C.length := List.length_set
    unfold eng eP cP
    simp only [e]
    unfold lP
    simp only []
    rw [big_same hx (y := (a0, k0, { c with on := false })) rfl]
    exact H
end
end Go.Proofs.YtcibiidebknkgaaGreat
