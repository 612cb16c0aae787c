/- Plain: what the clauses say. -/
import Derived.Test.YtpllmfoaahaciaaKnitM
set_option linter.unusedVariables false
set_option linter.unusedSimpArgs false
namespace Go.Knit
open Go.Gate Go.Proofs.Ytpllmfoaahaciaa

theorem sv_gate {ps : List (Nat × Nat)} {base : Nat → Bool} {g : Nat} {p : Nat × Nat} (hg : GOk ps) (h : ps[g]? = some p) (hp : p ≠ (0, 0)) : sv ps base (2 * g) = (sv ps base p.1 && sv ps base p.2) := by
  obtain ⟨hlt, e⟩ := List.getElem?_eq_some_iff.1 h
  have hs : ps = ps.take g ++ p :: ps.drop (g + 1) := by
    rw [← e]; simp
  have hl : (ps.take g).length = g := by rw [List.length_take]; omega
  rcases hg.ok g p h with h0 | ⟨o1, o2, o3, o4⟩
  · exact (hp h0).elim
  have key := sv_at (ps := ps.take g) (qs := ps.drop (g + 1)) (base := base) hp
  rw [← hs, hl] at key
  rw [key]
  have e1 := sv_app (ps := ps.take g) (base := base) (p :: ps.drop (g + 1)) (a := p.1) (by rw [hl]; omega)
  have e2 := sv_app (ps := ps.take g) (base := base) (p :: ps.drop (g + 1)) (a := p.2) (by rw [hl]; omega)
  rw [← hs] at e1 e2
  rw [e1, e2]
theorem sv_false {ps : List (Nat × Nat)} {base : Nat → Bool} (hg : GOk ps) (hb : base 0 = false) : sv ps base 0 = false := by
  obtain ⟨p, r, rfl⟩ : ∃ p r, ps = p :: r := by
    have := hg.pos
    cases ps with
    | nil => simp at this
    | cons p r => exact ⟨p, r, rfl⟩
  have h0 := hg.zero
  simp at h0
  subst h0
  have : sv ([(0, 0)] ++ r) base 0 = sv [(0, 0)] base 0 := sv_app r (by simp)
  rw [List.singleton_append] at this
  rw [this]
  show says [if ((0, 0) : Nat × Nat) = (0, 0) then base 0 else _] 0 = false
  simp [says, hb]

/-- Does a literal hold in a model? -/
def hold (M : List Bool) (x : Int) : Bool := if x < 0 then !(M[(-x - 1).toNat]?.getD false) else M[(x - 1).toNat]?.getD false
theorem hold_neg {M : List Bool} {x : Int} (h : x ≠ 0) : hold M (-x) = !hold M x := by
  unfold hold
  by_cases h0 : x < 0
  · rw [if_neg (by omega), if_pos h0, Bool.not_not]
  · rw [if_pos (by omega), if_neg h0, Int.neg_neg]
theorem hold_pos {M : List Bool} {n : Nat} : hold M ((n + 1 : Nat) : Int) = M[n]?.getD false := by
  unfold hold
  rw [if_neg (by omega), show ((n + 1 : Nat) : Int) - 1 = n by omega, Int.toNat_natCast]
theorem hold_lit {D : List Nat} {M : List Bool} {a : Nat} {i : Nat} (hi : varOf D (a / 2) = i + 1) : hold M (litOf D a) = (M[i]?.getD false != decide (a % 2 = 1)) ∧ litOf D a ≠ 0 := by
  unfold litOf
  rw [hi]
  rcases Nat.mod_two_eq_zero_or_one a with h | h
  · rw [h, if_neg (by omega), hold_pos]
    exact ⟨by simp, by omega⟩
  · rw [h, if_pos rfl, hold_neg (by omega), hold_pos]
    exact ⟨by simp, by omega⟩

/-- What the gates that have a variable say. -/
def modelOf (ps : List (Nat × Nat)) (base : Nat → Bool) (D : List Nat) : List Bool := D.map fun g => sv ps base (2 * g)
theorem sv_half {ps : List (Nat × Nat)} {base : Nat → Bool} {a : Nat} : sv ps base a = (sv ps base (2 * (a / 2)) != decide (a % 2 = 1)) := by
  unfold sv says
  rw [Nat.mul_div_cancel_left _ (by omega), Nat.mul_mod_right]
  cases ((vals ps base)[a / 2]?.getD false) <;> simp
theorem hold_model {ps : List (Nat × Nat)} {base : Nat → Bool} {D : List Nat} {a : Nat} (h : a / 2 ∈ D) : hold (modelOf ps base D) (litOf D a) = sv ps base a := by
  obtain ⟨i, h1, h2, h3⟩ := varOf_mem h
  rw [(hold_lit h1).1, sv_half]
  unfold modelOf
  rw [List.getElem?_map, h3]
  rfl
theorem litOf_ne {D : List Nat} {a : Nat} (h : a / 2 ∈ D) : litOf D a ≠ 0 := by
  obtain ⟨i, h1, h2, h3⟩ := varOf_mem h
  exact (hold_lit (M := []) h1).2
theorem var_lit {D : List Nat} {g : Nat} : (varOf D g : Int) = litOf D (2 * g) := by
  unfold litOf
  rw [Nat.mul_mod_right, if_neg (by omega), Nat.mul_div_cancel_left _ (by omega)]

section
variable {ps : List (Nat × Nat)} {base : Nat → Bool} {D : List Nat} {C : List (List Int)}

theorem holds_all (hg : GOk ps) (hb : base 0 = false) (hk : KOk ps D C) {c : List Int} (hc : c ∈ C) : c.any (hold (modelOf ps base D)) = true := by
  obtain ⟨g, hgD, h⟩ := (hk.cls c).1 hc
  have hv : hold (modelOf ps base D) (varOf D g) = sv ps base (2 * g) := by rw [var_lit]; exact hold_model (by rw [Nat.mul_div_cancel_left _ (by omega)]; exact hgD)
  have hne : (varOf D g : Int) ≠ 0 := by have := varOf_pos.2 hgD; omega
  unfold clsOf at h
  split at h
  · rename_i h0
    subst h0
    rw [List.mem_singleton] at h
    subst h
    simp [hold_neg hne, hv, sv_false hg hb]
  · split at h
    · rename_i h1 h2
      obtain ⟨p, hp, hp0, e1, e2⟩ := parts_some h2
      obtain ⟨m1, m2⟩ := hk.clo g hgD h2
      rw [e1] at m1 h
      rw [e2] at m2 h
      have hs := sv_gate (base := base) hg hp hp0
      have n1 := litOf_ne m1
      have n2 := litOf_ne m2
      have v1 := hold_model (ps := ps) (base := base) m1
      have v2 := hold_model (ps := ps) (base := base) m2
      simp only [List.mem_cons, List.not_mem_nil, or_false] at h
      rcases h with rfl | rfl | rfl
      · simp only [List.any_cons, List.any_nil, Bool.or_false, hold_neg hne, hv, v1, hs]
        cases sv ps base p.1 <;> cases sv ps base p.2 <;> rfl
      · simp only [List.any_cons, List.any_nil, Bool.or_false, hold_neg hne, hv, v2, hs]
        cases sv ps base p.1 <;> cases sv ps base p.2 <;> rfl
      · simp only [List.any_cons, List.any_nil, Bool.or_false, hold_neg n1, hold_neg n2, hv, v1, v2, hs]
        cases sv ps base p.1 <;> cases sv ps base p.2 <;> rfl
    · cases h

theorem set_get {L : List Bool} {i j : Nat} {v : Bool} (h : i < L.length) : (L.set i v)[j]?.getD false = if i = j then v else L[j]?.getD false := by
  rw [List.getElem?_set]
  by_cases e : i = j
  · subst e; rw [if_pos rfl, if_pos rfl, if_pos h]; rfl
  · rw [if_neg e, if_neg e]

/-- With one variable turned, that is no input's, a clause doesn't hold. -/
theorem turned_not (hg : GOk ps) (hb : base 0 = false) (hk : KOk ps D C) {v g : Nat} (hv : D[v]? = some g) (hf : g = 0 ∨ (partsP ps g).2.2 = true) :
    ∃ c ∈ C, c.any (hold ((modelOf ps base D).set v (!sv ps base (2 * g)))) = false := by
  have hgD := List.mem_of_getElem? hv
  have hvl : v < (modelOf ps base D).length := by unfold modelOf; rw [List.length_map]; exact (List.getElem?_eq_some_iff.1 hv).1
  have hx := varOf_at hk.nodup hv
  generalize hM : (modelOf ps base D).set v (!sv ps base (2 * g)) = M
  have hMv : M[v]?.getD false = !sv ps base (2 * g) := by rw [← hM, set_get hvl, if_pos rfl]
  have hne : (varOf D g : Int) ≠ 0 := by omega
  have h1 : hold M (varOf D g) = !sv ps base (2 * g) := by rw [hx, hold_pos, hMv]
  by_cases h0 : g = 0
  · subst h0
    refine ⟨[-(varOf D 0 : Int)], (hk.cls _).2 ⟨0, hgD, by unfold clsOf; simp⟩, ?_⟩
    rw [List.any_cons, hold_neg hne, h1]
    have := sv_false (base := base) hg hb
    simp [this]
  · have hp2 : (partsP ps g).2.2 = true := by rcases hf with h | h; exact (h0 h).elim; exact h
    obtain ⟨p, hp, hp0, e1, e2⟩ := parts_some hp2
    obtain ⟨m1, m2⟩ := hk.clo g hgD hp2
    have hs := sv_gate (base := base) hg hp hp0
    rcases hg.ok g p hp with h' | ⟨o1, o2, o3, o4⟩
    · exact (hp0 h').elim
    have hcl : clsOf ps D g = [[-(varOf D g : Int), litOf D p.1], [-(varOf D g : Int), litOf D p.2], [(varOf D g : Int), -litOf D p.1, -litOf D p.2]] := by
      unfold clsOf; rw [if_neg h0, if_pos hp2, e1, e2]
    rw [e1] at m1
    rw [e2] at m2
    have n1 := litOf_ne m1
    have n2 := litOf_ne m2
    have other : ∀ a, a / 2 ∈ D → a / 2 ≠ g → hold M (litOf D a) = sv ps base a := by
      intro a ha hne
      rw [← hold_model ha]
      obtain ⟨i, i1, i2, i3⟩ := varOf_mem ha
      have : v ≠ i := by rintro rfl; rw [hv] at i3; cases i3; exact hne rfl
      rw [(hold_lit i1).1, (hold_lit i1).1, ← hM, set_get hvl, if_neg this]
    have v1 := other p.1 m1 (by omega)
    have v2 := other p.2 m2 (by omega)
    have mem : ∀ c, c ∈ clsOf ps D g → c ∈ C := fun c h => (hk.cls c).2 ⟨g, hgD, h⟩
    cases hq1 : sv ps base p.1 with
    | false =>
      refine ⟨_, mem _ (by rw [hcl]; exact List.mem_cons_self ..), ?_⟩
      simp [hold_neg hne, h1, v1, hs, hq1]
    | true =>
      cases hq2 : sv ps base p.2 with
      | false =>
        refine ⟨_, mem _ (by rw [hcl]; exact List.mem_cons_of_mem _ (List.mem_cons_self ..)), ?_⟩
        simp [hold_neg hne, h1, v2, hs, hq1, hq2]
      | true =>
        refine ⟨_, mem _ (by rw [hcl]; exact List.mem_cons_of_mem _ (List.mem_cons_of_mem _ (List.mem_cons_self ..))), ?_⟩
        simp [hold_neg n1, hold_neg n2, h1, v1, v2, hs, hq1, hq2]

/-- All literals are of variables that there are. -/
theorem lits_in (hk : KOk ps D C) {c : List Int} (hc : c ∈ C) {x : Int} (hx : x ∈ c) : x ≠ 0 ∧ -(D.length : Int) ≤ x ∧ x ≤ D.length := by
  obtain ⟨g, hgD, h⟩ := (hk.cls c).1 hc
  have lit : ∀ a, a / 2 ∈ D → litOf D a ≠ 0 ∧ -(D.length : Int) ≤ litOf D a ∧ litOf D a ≤ D.length := by
    intro a ha
    have h1 := varOf_pos.2 ha
    have h2 := varOf_le D (a / 2)
    unfold litOf
    split <;> omega
  have h1 := varOf_pos.2 hgD
  have h2 := varOf_le D g
  unfold clsOf at h
  split at h
  · rw [List.mem_singleton] at h
    subst h
    rw [List.mem_singleton] at hx
    omega
  · split at h
    · rename_i hp2
      obtain ⟨m1, m2⟩ := hk.clo g hgD hp2
      have l1 := lit _ m1
      have l2 := lit _ m2
      simp only [List.mem_cons, List.not_mem_nil, or_false] at h
      rcases h with rfl | rfl | rfl <;> simp only [List.mem_cons, List.not_mem_nil, or_false] at hx
      · omega
      · omega
      · omega
    · cases h
end
end Go.Knit
