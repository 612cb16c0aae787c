/- What a conflict teaches: the plain law. -/
import Derived.Test.YtcibiidebknkgaaGreatWatchL
set_option linter.unusedVariables false
set_option linter.unusedSimpArgs false
namespace Go.Watch
open Go.Trail
/-- A variable's level; its reason. -/
def lvE (E : List Ent) (v : Int) : Int := (Go.Proofs.YtcibiidebknkgaaGreat.knownOf E v).2.1
def reE (E : List Ent) (v : Int) : Int := (Go.Proofs.YtcibiidebknkgaaGreat.knownOf E v).2.2
section
variable {S : Nat → Prop} {s s' : St}
theorem Good.lv_at (hg : Good S s) {e : Ent} (he : e ∈ s.E) {x : Int} (hx : var x = var e.lit) : lvE s.E (var x : Int) = (e.lev : Int) ∧ reE s.E (var x : Int) = e.rea := by
  unfold lvE reE Go.Proofs.YtcibiidebknkgaaGreat.knownOf
  rw [hx, hg.find_at he]
  exact ⟨rfl, rfl⟩
theorem Good.lv_neg (hg : Good S s) {e : Ent} (he : e ∈ s.E) {x : Int} (hx : e.lit = -x) : lvE s.E (var x : Int) = (e.lev : Int) ∧ reE s.E (var x : Int) = e.rea := hg.lv_at he (by rw [hx, var_neg])
theorem Good.same_at (hg : Good S s) {e g : Ent} (he : e ∈ s.E) (hg' : g ∈ s.E) (h : var e.lit = var g.lit) : e = g := by
  have h1 := hg.find_at he
  rw [h, hg.find_at hg'] at h1
  exact (Option.some.inj h1).symm
theorem lv_none {E : List Ent} {v : Int} (h : find E v = none) : lvE E v = -1 ∧ reE E v = -1 := by
  unfold lvE reE Go.Proofs.YtcibiidebknkgaaGreat.knownOf
  rw [h]; exact ⟨rfl, rfl⟩
theorem Good.lv_range (hg : Good S s) (v : Int) : (lvE s.E v = -1 ∧ find s.E v = none) ∨ ∃ e ∈ s.E, (var e.lit : Int) = v ∧ lvE s.E v = (e.lev : Int) ∧ reE s.E v = e.rea := by
  cases hf : find s.E v with
  | none => exact .inl ⟨(lv_none hf).1, rfl⟩
  | some e =>
    obtain ⟨h1, h2, h3⟩ := find_some hf
    refine .inr ⟨e, h1, h2, ?_⟩
    unfold lvE reE Go.Proofs.YtcibiidebknkgaaGreat.knownOf
    rw [hf]; exact ⟨rfl, rfl⟩

/-- Decisions have levels of their own. -/
structure Dp (E : List Ent) : Prop where
  pos : ∀ e ∈ E, e.rea = -1 → 1 ≤ e.lev
  first : E.Pairwise fun a b => b.rea = -1 → a.lev < b.lev
theorem Dp.nil : Dp [] := ⟨by simp, by simp⟩
theorem Dp.add {E : List Ent} (h : Dp E) {D : Nat} (hD : ∀ e ∈ E, e.lev ≤ D) (x : Int) : Dp (E ++ [⟨x, D + 1, -1⟩]) := by
  refine ⟨fun e he hr => ?_, ?_⟩
  · rw [List.mem_append, List.mem_singleton] at he
    rcases he with he | rfl
    · exact h.pos e he hr
    · exact Nat.succ_le_succ (Nat.zero_le _)
  · rw [List.pairwise_append]
    refine ⟨h.first, by simp, fun a ha b hb _ => ?_⟩
    rw [List.mem_singleton] at hb
    subst hb
    exact Nat.lt_succ_of_le (hD a ha)
theorem Dp.ext (h : Dp s.E) (x : Ext s s') : Dp s'.E := by
  obtain ⟨G, hG, hGl⟩ := x.E
  rw [hG]
  refine ⟨fun e he hr => ?_, ?_⟩
  · rw [List.mem_append] at he
    rcases he with he | he
    · exact h.pos e he hr
    · have := (hGl e he).2; omega
  · rw [List.pairwise_append]
    refine ⟨h.first, List.pairwise_iff_getElem.2 fun i j hi hj hij hr => ?_, fun a ha b hb hr => ?_⟩
    · have := (hGl _ (List.getElem_mem hj)).2; omega
    · have := (hGl b hb).2; omega
theorem Dp.upto {E : List Ent} (h : Dp E) (k : Nat) : Dp (upto E k) := by
  unfold Trail.upto
  exact ⟨fun e he => h.pos e (List.mem_filter.1 he).1, h.first.sublist List.filter_sublist⟩

/-! What is learnt, as it grows: the literals of the greatest level, the others -/
def SeenB (T R : List Int) (v : Nat) : Prop := ∃ x ∈ T ++ R, var x = v
instance (T R : List Int) (v : Nat) : Decidable (SeenB T R v) := inferInstanceAs (Decidable (∃ x ∈ T ++ R, var x = v))
theorem SeenB.mono {T R T' R' : List Int} {v : Nat} (h : SeenB T R v) (h1 : ∀ x ∈ T, x ∈ T') (h2 : ∀ x ∈ R, x ∈ R') : SeenB T' R' v := by
  obtain ⟨x, hx, hv⟩ := h
  rw [List.mem_append] at hx
  exact ⟨x, List.mem_append.2 (hx.imp (h1 x) (h2 x)), hv⟩
structure SOk (E : List Ent) (top : Int) (T R : List Int) : Prop where
  fls : ∀ x ∈ T ++ R, tru E (-x)
  tops : ∀ x ∈ T, lvE E (var x) = top
  low : ∀ x ∈ R, 1 ≤ lvE E (var x) ∧ lvE E (var x) < top
  once : (T ++ R).Pairwise fun x y => var x ≠ var y
  pos : 1 ≤ top

def seeP (E : List Ent) (top but : Int) (p : List Int × List Int) (y : Int) : List Int × List Int :=
  if SeenB p.1 p.2 (var y) ∨ (var y : Int) = but ∨ lvE E (var y) ≤ 0 then p else if lvE E (var y) = top then (p.1 ++ [y], p.2) else (p.1, p.2 ++ [y])

theorem SOk.add {E : List Ent} {top but : Int} {p : List Int × List Int} (h : SOk E top p.1 p.2) {y : Int} (hy : (var y : Int) ≠ but → tru E (-y) ∧ lvE E (var y) ≤ top) :
    SOk E top (seeP E top but p y).1 (seeP E top but p y).2 ∧ (∀ x ∈ p.1, x ∈ (seeP E top but p y).1) ∧ (∀ x ∈ p.2, x ∈ (seeP E top but p y).2) ∧ ((var y : Int) = but ∨ lvE E (var y) ≤ 0 ∨ SeenB (seeP E top but p y).1 (seeP E top but p y).2 (var y)) ∧
      (∀ x ∈ (seeP E top but p y).1, x ∈ p.1 ∨ (x = y ∧ (var y : Int) ≠ but)) := by
  obtain ⟨T, R⟩ := p
  simp only [] at h ⊢
  unfold seeP
  simp only []
  by_cases h1 : SeenB T R (var y) ∨ (var y : Int) = but ∨ lvE E (var y) ≤ 0
  · rw [if_pos h1]
    refine ⟨h, fun x hx => hx, fun x hx => hx, ?_, fun x hx => .inl hx⟩
    rcases h1 with h1 | h1 | h1
    · exact .inr (.inr h1)
    · exact .inl h1
    · exact .inr (.inl h1)
  · rw [if_neg h1]
    have hb : (var y : Int) ≠ but := fun e => h1 (.inr (.inl e))
    have hp : ¬ lvE E (var y) ≤ 0 := fun e => h1 (.inr (.inr e))
    have hs : ∀ x ∈ T ++ R, var x ≠ var y := fun x hx e => h1 (.inl ⟨x, hx, e⟩)
    obtain ⟨hf, ht⟩ := hy hb
    by_cases h2 : lvE E (var y) = top
    · rw [if_pos h2]
      refine ⟨⟨fun x hx => ?_, fun x hx => ?_, h.low, ?_, h.pos⟩, fun x hx => List.mem_append_left _ hx, fun x hx => hx, .inr (.inr ⟨y, by simp, rfl⟩), fun x hx => ?_⟩
      · simp only [List.mem_append, List.mem_singleton] at hx
        rcases hx with (hx | rfl) | hx
        · exact h.fls x (List.mem_append_left _ hx)
        · exact hf
        · exact h.fls x (List.mem_append_right _ hx)
      · rw [List.mem_append, List.mem_singleton] at hx
        rcases hx with hx | rfl
        · exact h.tops x hx
        · exact h2
      · have ho := h.once
        rw [List.pairwise_append] at ho
        rw [List.append_assoc, List.pairwise_append]
        refine ⟨ho.1, ?_, fun a ha b hb => ?_⟩
        · rw [List.singleton_append, List.pairwise_cons]
          exact ⟨fun b hb e => hs b (List.mem_append_right _ hb) e.symm, ho.2.1⟩
        · rw [List.singleton_append, List.mem_cons] at hb
          rcases hb with rfl | hb
          · exact hs a (List.mem_append_left _ ha)
          · exact ho.2.2 a ha b hb
      · rw [List.mem_append, List.mem_singleton] at hx
        exact hx.imp id fun e => ⟨e, hb⟩
    · rw [if_neg h2]
      refine ⟨⟨fun x hx => ?_, h.tops, fun x hx => ?_, ?_, h.pos⟩, fun x hx => hx, fun x hx => List.mem_append_left _ hx, .inr (.inr ⟨y, by simp, rfl⟩), fun x hx => .inl hx⟩
      · simp only [List.mem_append, List.mem_singleton] at hx
        rcases hx with hx | hx | rfl
        · exact h.fls x (List.mem_append_left _ hx)
        · exact h.fls x (List.mem_append_right _ hx)
        · exact hf
      · rw [List.mem_append, List.mem_singleton] at hx
        rcases hx with hx | rfl
        · exact h.low x hx
        · omega
      · rw [← List.append_assoc, List.pairwise_append]
        refine ⟨h.once, by simp, fun a ha b hb => ?_⟩
        rw [List.mem_singleton] at hb
        subst hb
        exact hs a ha

def seeL (E : List Ent) (top but : Int) (p : List Int × List Int) (ys : List Int) : List Int × List Int := ys.foldl (seeP E top but) p
theorem SOk.addL {E : List Ent} {top but : Int} : ∀ {ys : List Int} {p : List Int × List Int}, SOk E top p.1 p.2 → (∀ y ∈ ys, (var y : Int) ≠ but → tru E (-y) ∧ lvE E (var y) ≤ top) →
    SOk E top (seeL E top but p ys).1 (seeL E top but p ys).2 ∧ (∀ x ∈ p.1, x ∈ (seeL E top but p ys).1) ∧ (∀ x ∈ p.2, x ∈ (seeL E top but p ys).2) ∧ (∀ y ∈ ys, (var y : Int) = but ∨ lvE E (var y) ≤ 0 ∨ SeenB (seeL E top but p ys).1 (seeL E top but p ys).2 (var y)) ∧
      (∀ x ∈ (seeL E top but p ys).1, x ∈ p.1 ∨ (x ∈ ys ∧ (var x : Int) ≠ but))
  | [], p, h, _ => ⟨h, fun x hx => hx, fun x hx => hx, fun y hy => (by cases hy), fun x hx => .inl hx⟩
  | y :: ys, p, h, hy => by
    obtain ⟨a1, a2, a3, a4, a5⟩ := h.add (hy y (List.mem_cons_self ..))
    obtain ⟨b1, b2, b3, b4, b5⟩ := SOk.addL (ys := ys) a1 fun z hz => hy z (List.mem_cons_of_mem _ hz)
    have e : Watch.seeL E top but p (y :: ys) = Watch.seeL E top but (seeP E top but p y) ys := rfl
    rw [e]
    refine ⟨b1, fun x hx => b2 x (a2 x hx), fun x hx => b3 x (a3 x hx), fun z hz => ?_, fun x hx => ?_⟩
    · rw [List.mem_cons] at hz
      rcases hz with rfl | hz
      · exact a4.imp id (Or.imp id fun h => h.mono b2 b3)
      · exact b4 z hz
    · rcases b5 x hx with h1 | ⟨h1, h2⟩
      · rcases a5 x h1 with h3 | ⟨rfl, h3⟩
        · exact .inl h3
        · exact .inr ⟨List.mem_cons_self .., h3⟩
      · exact .inr ⟨List.mem_cons_of_mem _ h1, h2⟩

/-- What was resolved away is there by what is seen. -/
def Cov (s : St) (T R : List Int) (M : Nat → Prop) : Prop := ∀ v, M v → ∃ (e : Ent) (id : Nat) (c : Cls), e ∈ s.E ∧ var e.lit = v ∧ e.rea = (id : Int) ∧ s.C[id]? = some c ∧
  ∀ y ∈ c.lits, var y = v ∨ lvE s.E (var y) ≤ 0 ∨ SeenB T R (var y) ∨ M (var y)
def Neg (T R : List Int) (z : Int) : Prop := ∃ y ∈ T ++ R, z = -y

/-- All that was met follows of what is learnt's other signs. -/
theorem cov_fo (hg : Good S s) (hd : Dp s.E) {top : Int} {T R : List Int} {M : Nat → Prop} (hs : SOk s.E top T R) (hc : Cov s T R M) :
    ∀ (i : Nat) e, s.E[i]? = some e → e.lev = 0 ∨ SeenB T R (var e.lit) ∨ M (var e.lit) → Fo (Gam s) (Neg T R) e.lit := by
  intro i
  induction i using Nat.strongRecOn with
  | ind i ih =>
    intro e he hk
    have hem : e ∈ s.E := List.mem_of_getElem? he
    -- of an entry whose reason's other literals are met
    have hgo : ∀ (id : Nat) (c : Cls), e.rea = (id : Int) → s.C[id]? = some c → (∀ y ∈ c.lits, var y ≠ var e.lit → lvE s.E (var y) ≤ 0 ∨ SeenB T R (var y) ∨ M (var y)) → Fo (Gam s) (Neg T R) e.lit := by
      intro id c hr hc2 hy
      rcases hg.why i e he with h | ⟨id', c', h1, h2, h3, h4, h5, h6⟩
      · omega
      obtain rfl : id' = id := by omega
      rw [h2] at hc2; cases hc2
      refine .cls (c := c.lits) ⟨c, List.mem_of_getElem? h2, h3, h4, fun x => Iff.rfl⟩ h5 fun y hyc hne => ?_
      obtain ⟨g, hgm, hgl⟩ := h6 y hyc hne
      obtain ⟨j, hj⟩ := List.getElem?_of_mem hgm
      have hji : j < i := by
        have := (List.getElem?_eq_some_iff.1 hj).1
        rw [List.length_take] at this; omega
      rw [List.getElem?_take, if_pos hji] at hj
      have hgE : g ∈ s.E := List.mem_of_getElem? hj
      have hvy : var g.lit = var y := by rw [hgl, var_neg]
      have hvn : var y ≠ var e.lit := by
        intro h
        obtain ⟨i1, i2⟩ := List.getElem?_eq_some_iff.1 he
        obtain ⟨j1, j2⟩ := List.getElem?_eq_some_iff.1 hj
        have := List.pairwise_iff_getElem.1 hg.inv.once j i j1 i1 hji
        rw [i2, j2] at this
        exact this (hvy.trans h)
      rw [← hgl]
      refine ih j hji g hj ?_
      have hl := (hg.lv_at hgE hvy.symm).1
      rcases hy y hyc hvn with h | h | h
      · exact .inl (by omega)
      · exact .inr (.inl (by rw [hvy]; exact h))
      · exact .inr (.inr (by rw [hvy]; exact h))
    rcases hk with h0 | ⟨x, hx, hxv⟩ | hm
    · rcases hg.why i e he with h | ⟨id, c, h1, h2, h3, h4, h5, h6⟩
      · have := hd.pos e hem h; omega
      · refine hgo id c h1 h2 fun y hy hne => .inl ?_
        obtain ⟨g, hgm, hgl⟩ := h6 y hy fun h => hne (by rw [h])
        obtain ⟨j, hj⟩ := List.getElem?_of_mem hgm
        have hji : j < i := by
          have := (List.getElem?_eq_some_iff.1 hj).1
          rw [List.length_take] at this; omega
        rw [List.getElem?_take, if_pos hji] at hj
        have hgE : g ∈ s.E := List.mem_of_getElem? hj
        have hvy : var g.lit = var y := by rw [hgl, var_neg]
        rw [(hg.lv_at hgE hvy.symm).1]
        obtain ⟨i1, i2⟩ := List.getElem?_eq_some_iff.1 he
        obtain ⟨j1, j2⟩ := List.getElem?_eq_some_iff.1 hj
        have := List.pairwise_iff_getElem.1 hg.inv.rise j i j1 i1 hji
        rw [i2, j2] at this
        omega
    · refine .dec ⟨x, hx, ?_⟩
      obtain ⟨g, hgm, hgl⟩ := hs.fls x hx
      have : g = e := hg.same_at hgm hem (by rw [hgl, var_neg]; exact hxv)
      rw [← this]; exact hgl
    · obtain ⟨g, id, c, h1, h2, h3, h4, h5⟩ := hc _ hm
      have : g = e := hg.same_at h1 hem h2
      subst this
      exact hgo id c h3 h4 fun y hy hne => (h5 y hy).resolve_left hne
theorem cov_conf (hg : Good S s) (hd : Dp s.E) {top : Int} {T R : List Int} {M : Nat → Prop} (hs : SOk s.E top T R) (hc : Cov s T R M) {id : Nat} {c0 : Cls} (h0 : s.C[id]? = some c0) (h1 : c0.on = true) (h2 : c0.idle = false)
    (h3 : ∀ y ∈ c0.lits, tru s.E (-y)) (h4 : ∀ y ∈ c0.lits, lvE s.E (var y) ≤ 0 ∨ SeenB T R (var y) ∨ M (var y)) : Conf (Gam s) (Neg T R) := by
  refine ⟨c0.lits, ⟨c0, List.mem_of_getElem? h0, h1, h2, fun x => Iff.rfl⟩, fun y hy => ?_⟩
  obtain ⟨g, hgm, hgl⟩ := h3 y hy
  obtain ⟨j, hj⟩ := List.getElem?_of_mem hgm
  have hvy : var g.lit = var y := by rw [hgl, var_neg]
  have hl := (hg.lv_at hgm hvy.symm).1
  rw [← hgl]
  refine cov_fo hg hd hs hc j g hj ?_
  rcases h4 y hy with h | h | h
  · exact .inl (by omega)
  · exact .inr (.inl (by rw [hvy]; exact h))
  · exact .inr (.inr (by rw [hvy]; exact h))
end
end Go.Watch
