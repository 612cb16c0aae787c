/- Plain: a visit, clause by clause. -/
import Derived.Test.YtcibiidebknkgaaGreatWatchP
set_option linter.unusedVariables false
set_option linter.unusedSimpArgs false
namespace Go.Watch
open Go.Trail

theorem wSet_wSet {W : List (List Nat)} {x : Int} {A B : List Nat} : wSet (wSet W x A) x B = wSet W x B := by unfold wSet; rw [List.set_set]
theorem wSet_comm {W : List (List Nat)} {x z : Int} {A B : List Nat} (h : pl x ≠ pl z) : wSet (wSet W x A) z B = wSet (wSet W z B) x A := by unfold wSet; rw [List.set_comm _ _ h]
theorem wSet_same {W : List (List Nat)} {x : Int} : wSet W x (wAt W x) = W := by
  unfold wSet wAt
  apply List.ext_getElem?
  intro j
  rw [List.getElem?_set]
  by_cases h : pl x = j
  · subst h
    rw [if_pos rfl]
    split
    · rename_i hl; rw [List.getD_eq_getElem?_getD, List.getElem?_eq_getElem hl]; rfl
    · rename_i hl; rw [List.getElem?_eq_none (by omega)]
  · rw [if_neg h]
theorem relit_twice {s : St} {id : Nat} {c : Cls} {a b : List Int} {W W' : List (List Nat)} : relit (relit s id c a W) id { c with lits := a } b W' = relit s id c b W' := by
  unfold relit
  simp only [List.set_set]
theorem Ext.relit {s : St} {id : Nat} {c : Cls} {lits : List Int} {W : List (List Nat)} (hc : s.C[id]? = some c) (hp : lits.Perm c.lits) : Ext s (relit s id c lits W) := by
  refine ⟨rfl, rfl, ⟨[], by simp [Watch.relit], by simp⟩, List.length_set, fun i k hk => ?_⟩
  refine ⟨_, setC_get hc hk, ?_⟩
  split
  · rename_i e; subst e; rw [hc] at hk; cases hk; exact ⟨rfl, rfl, hp⟩
  · exact ⟨rfl, rfl, List.Perm.refl _⟩
theorem Ext.setW {s : St} {x : Int} {L : List Nat} : Ext s (setW s x L) := ⟨rfl, rfl, ⟨[], by simp [Watch.setW], by simp⟩, rfl, fun id c h => ⟨c, h, rfl, rfl, List.Perm.refl _⟩⟩
theorem Ext.again {s : St} {id : Nat} : Ext s (again s id) := ⟨rfl, rfl, ⟨[], by simp [Watch.again], by simp⟩, rfl, fun id c h => ⟨c, h, rfl, rfl, List.Perm.refl _⟩⟩
theorem Ext.put {s : St} {x : Int} {id : Nat} : Ext s (put s x id) := ⟨rfl, rfl, ⟨[⟨x, s.D, id⟩], rfl, fun g hg => by rw [List.mem_singleton] at hg; subst hg; exact ⟨rfl, Int.natCast_nonneg _⟩⟩, rfl, fun id c h => ⟨c, h, rfl, rfl, List.Perm.refl _⟩⟩
theorem again_len {s : St} {id : Nat} : (again s id).Y.length ≤ s.Y.length + 1 := by
  unfold again; simp only []; split
  · simp
  · omega

/-- How far a visit is: the first i of the row L0 were looked at, k of them are kept. -/
structure VInv (S : Nat → Prop) (s0 : St) (x : Int) (L0 : List Nat) (i : Nat) (s : St) (k : List Nat) (conf : Option Nat) : Prop where
  good : Good S s
  ext : Ext s0 s
  row : wAt s.W x = k ++ L0.drop i
  le : k.length ≤ i
  le2 : i ≤ L0.length
  F : s.F = s0.F
  h : s.h = s0.h
  Y : s.Y.length ≤ s0.Y.length + i
  tr : conf = none → ∀ id ∈ k, ∀ c, s.C[id]? = some c → c.on = true → ∃ y ∈ c.lits, tru s.E y
  cf : ∀ id, conf = some id → ∃ c, s.C[id]? = some c ∧ c.on = true ∧ c.idle = false ∧ ∀ y ∈ c.lits, tru s.E (-y)

section
variable {S : Nat → Prop} {s0 s : St} {x : Int} {L0 k : List Nat} {i id : Nat} {c : Cls}

theorem VInv.start (hg : Good S s) : VInv S s x (wAt s.W x) 0 s [] none :=
  ⟨hg, Ext.refl s, by simp, Nat.le_refl _, Nat.zero_le _, rfl, rfl, by omega, fun _ id h => (by cases h), fun id h => (by cases h)⟩
theorem VInv.drop_eq (hi : L0[i]? = some id) : L0.drop i = id :: L0.drop (i + 1) := by
  obtain ⟨h1, h2⟩ := List.getElem?_eq_some_iff.1 hi
  rw [List.drop_eq_getElem_cons h1, h2]
theorem VInv.row' (v : VInv S s0 x L0 i s k none) (hi : L0[i]? = some id) : wAt s.W x = k ++ id :: L0.drop (i + 1) := by rw [v.row, VInv.drop_eq hi]
theorem VInv.lt (hi : L0[i]? = some id) : i < L0.length := (List.getElem?_eq_some_iff.1 hi).1

theorem VInv.off (v : VInv S s0 x L0 i s k none) (hl : okLit x = true) (hn : var x ≤ s.n) (hi : L0[i]? = some id) (hc : s.C[id]? = some c) (ho : c.on = false) : VInv S s0 x L0 (i + 1) (setW s x (k ++ L0.drop (i + 1))) k none where
  good := v.good.drop hl hn (v.row' hi) hc ho
  ext := v.ext.trans Ext.setW
  row := by
    show wAt (wSet s.W x _) x = _
    rw [wAt_set (by rw [v.good.wl]; exact pl_lt hl hn) hl hl, if_pos rfl]
  le := by have := v.le; omega
  le2 := VInv.lt hi
  F := v.F
  h := v.h
  Y := by have := v.Y; show s.Y.length ≤ _; omega
  tr := v.tr
  cf := fun id h => by cases h
theorem perm_tr {lits : List Int} (hp : lits.Perm c.lits) (hc : s.C[id]? = some c) (h : ∀ j ∈ k, ∀ c, s.C[j]? = some c → c.on = true → ∃ y ∈ c.lits, tru s.E y) {W : List (List Nat)} :
    ∀ j ∈ k, ∀ c', (relit s id c lits W).C[j]? = some c' → c'.on = true → ∃ y ∈ c'.lits, tru s.E y := by
  intro j hj c' hc' ho
  rcases getC_set hc' with ⟨rfl, rfl, _⟩ | ⟨_, h2⟩
  · obtain ⟨y, h1, h2⟩ := h j hj c hc ho
    exact ⟨y, hp.mem_iff.2 h1, h2⟩
  · exact h j hj c' h2 ho
theorem VInv.moved0 (v : VInv S s0 x L0 i s k none) (hl : okLit x = true) (hn : var x ≤ s.n) (hi : L0[i]? = some id) (hc : s.C[id]? = some c) {o z : Int} {q q' : List Int} (hlits : c.lits = o :: x :: (q ++ z :: q')) (hz : value s.E z ≠ -1) :
    VInv S s0 x L0 (i + 1) (relit s id c (o :: z :: (q ++ x :: q')) (wSet (wSet s.W x (k ++ L0.drop (i + 1))) z (wAt s.W z ++ [id]))) k none := by
  have hcl := v.good.cl c (List.mem_of_getElem? hc)
  have hzm : z ∈ c.lits := by rw [hlits]; simp
  have hzo := hcl.1 z hzm
  have hnz : ¬ tru s.E (-z) := fun h => hz ((v.good.valn hzo.1).2 h)
  have hxz : x ≠ z := by
    rintro rfl
    have := hcl.2.1
    rw [hlits] at this
    simp at this
  have hp : (o :: z :: (q ++ x :: q')).Perm c.lits := by
    rw [hlits]
    refine List.Perm.cons _ ?_
    have h1 : (z :: (q ++ x :: q')).Perm (z :: x :: (q ++ q')) := List.Perm.cons _ List.perm_middle
    have h2 : (x :: (q ++ z :: q')).Perm (x :: z :: (q ++ q')) := List.Perm.cons _ List.perm_middle
    exact h1.trans ((List.Perm.swap ..).trans h2.symm)
  have hlt : pl x < s.W.length := by rw [v.good.wl]; exact pl_lt hl hn
  refine ⟨v.good.moved hl hn (v.row' hi) hc hlits hnz, v.ext.trans (Ext.relit hc hp), ?_, by have := v.le; omega, VInv.lt hi, v.F, v.h, ?_, fun _ => perm_tr hp hc (v.tr rfl), fun id h => by cases h⟩
  · show wAt (wSet (wSet s.W x _) z _) x = _
    rw [wAt_set (by unfold wSet; rw [List.length_set, v.good.wl]; exact pl_lt hzo.1 hzo.2) hzo.1 hl, if_neg hxz.symm, wAt_set hlt hl hl, if_pos rfl]
  · have := v.Y; show s.Y.length ≤ _; omega
theorem VInv.swap (v : VInv S s0 x L0 i s k none) {a b : Int} {r : List Int} (hc : s.C[id]? = some c) (hlits : c.lits = a :: b :: r) : VInv S s0 x L0 i (relit s id c (b :: a :: r) s.W) k none := by
  have hp : (b :: a :: r).Perm c.lits := by rw [hlits]; exact List.Perm.swap ..
  exact ⟨v.good.swapped hc hlits, v.ext.trans (Ext.relit hc hp), v.row, v.le, v.le2, v.F, v.h, v.Y, fun _ => perm_tr hp hc (v.tr rfl), fun id h => by cases h⟩
theorem relit_get {lits : List Int} {W : List (List Nat)} (hc : s.C[id]? = some c) : (relit s id c lits W).C[id]? = some { c with lits := lits } := by
  show (s.C.set id _)[id]? = _
  rw [List.getElem?_set_self (List.getElem?_eq_some_iff.1 hc).1]
theorem VInv.moved (v : VInv S s0 x L0 i s k none) (hl : okLit x = true) (hn : var x ≤ s.n) (hi : L0[i]? = some id) (hc : s.C[id]? = some c) {o z : Int} {q q' : List Int} (hlits : c.lits = o :: x :: (q ++ z :: q') ∨ c.lits = x :: o :: (q ++ z :: q')) (hz : value s.E z ≠ -1) :
    VInv S s0 x L0 (i + 1) (relit s id c (o :: z :: (q ++ x :: q')) (wSet (wSet s.W x (k ++ L0.drop (i + 1))) z (wAt s.W z ++ [id]))) k none := by
  rcases hlits with h | h
  · exact v.moved0 hl hn hi hc h hz
  · have := (v.swap hc h).moved0 hl hn hi (relit_get hc) (c := { c with lits := o :: x :: (q ++ z :: q') }) rfl hz
    rw [relit_twice] at this
    exact this
/-- The clause's false literal comes second. -/
theorem VInv.second (v : VInv S s0 x L0 i s k none) {o : Int} {t : List Int} (hc : s.C[id]? = some c) (hlits : c.lits = o :: x :: t ∨ c.lits = x :: o :: t) : VInv S s0 x L0 i (relit s id c (o :: x :: t) s.W) k none := by
  rcases hlits with h | h
  · have e : relit s id c (o :: x :: t) s.W = s := by
      unfold relit
      rw [← h]
      have : s.C.set id c = s.C := by
        apply List.ext_getElem?
        intro j
        rw [List.getElem?_set]
        by_cases e : id = j
        · subst e; rw [if_pos rfl, if_pos (List.getElem?_eq_some_iff.1 hc).1, hc]
        · rw [if_neg e]
      cases c; rw [this]
    rw [e]; exact v
  · exact v.swap hc h
theorem VInv.again (v : VInv S s0 x L0 i s k none) (hi : L0[i]? = some id) (hc : s.C[id]? = some c) (hid : c.idle = false) (hY : s.Y.length ≤ s0.Y.length + i) : Good S (again s id) ∧ Ext s0 (again s id) ∧ (again s id).Y.length ≤ s0.Y.length + (i + 1) :=
  ⟨v.good.again hc hid, v.ext.trans Ext.again, by have := again_len (s := s) (id := id); omega⟩
/-- A clause is kept. -/
theorem VInv.kept {s' : St} {conf : Option Nat} (v : VInv S s0 x L0 i s k none) (hi : L0[i]? = some id) (hg : Good S s') (he : Ext s0 s') (hW : s'.W = s.W) (hF : s'.F = s.F) (hh : s'.h = s.h) (hC : s'.C = s.C) (hE : ∀ y, tru s.E y → tru s'.E y) (hY : s'.Y.length ≤ s0.Y.length + (i + 1))
    (htr : conf = none → ∀ c, s'.C[id]? = some c → c.on = true → ∃ y ∈ c.lits, tru s'.E y)
    (hcf : ∀ id, conf = some id → ∃ c, s'.C[id]? = some c ∧ c.on = true ∧ c.idle = false ∧ ∀ y ∈ c.lits, tru s'.E (-y)) : VInv S s0 x L0 (i + 1) s' (k ++ [id]) conf where
  good := hg
  ext := he
  row := by rw [hW, v.row' hi]; simp
  le := by have := v.le; simp; exact this
  le2 := VInv.lt hi
  F := hF.trans v.F
  h := hh.trans v.h
  Y := hY
  tr := by
    intro hn j hj c hc ho
    rw [List.mem_append, List.mem_singleton] at hj
    rcases hj with hj | rfl
    · rw [hC] at hc
      obtain ⟨y, h1, h2⟩ := v.tr rfl j hj c hc ho
      exact ⟨y, h1, hE y h2⟩
    · exact htr hn c hc ho
  cf := hcf
end
end Go.Watch
