/- Plain: a graph of gates as a list of pairs; what edges say. -/
import Derived.Test.YtpllmfoaahaciaaMap
set_option linter.unusedVariables false
set_option linter.unusedSimpArgs false
namespace Go.Gate

/-- The other edge of a gate. -/
def flip (a : Nat) : Nat := a ^^^ 1
theorem flip_eq (a : Nat) : flip a = if a % 2 = 0 then a + 1 else a - 1 := by
  unfold flip
  apply Nat.eq_of_testBit_eq
  intro i
  cases i with
  | zero => split <;> simp [Nat.testBit_xor, Nat.testBit_zero] <;> omega
  | succ i =>
    rw [Nat.testBit_xor, Nat.testBit_succ, Nat.testBit_succ, Nat.testBit_succ]
    have h1 : 1 / 2 = 0 := rfl
    rw [h1, Nat.zero_testBit, Bool.xor_false]
    congr 1
    split <;> omega
theorem flip_div (a : Nat) : flip a / 2 = a / 2 := by rw [flip_eq]; split <;> omega
theorem flip_mod (a : Nat) : flip a % 2 = 1 - a % 2 := by rw [flip_eq]; split <;> omega
theorem flip_flip (a : Nat) : flip (flip a) = a := by unfold flip; rw [Nat.xor_assoc, Nat.xor_self, Nat.xor_zero]

structure GOk (ps : List (Nat × Nat)) : Prop where
  pos : 1 ≤ ps.length
  zero : ps[0]? = some (0, 0)
  ok : ∀ (k : Nat) (p : Nat × Nat), ps[k]? = some p → p = (0, 0) ∨ (2 ≤ p.1 ∧ p.1 < p.2 ∧ p.2 / 2 < k ∧ p.1 / 2 ≠ p.2 / 2)
  once : ∀ (i k : Nat) (p : Nat × Nat), ps[i]? = some p → ps[k]? = some p → p ≠ (0, 0) → i = k

/-- Which gate is of these two edges? -/
def known (ps : List (Nat × Nat)) (p : Nat × Nat) : Option Nat := if p = (0, 0) then none else ps.findIdx? (· = p)

/-- What edges say, of what the gates are. -/
def says (vs : List Bool) (a : Nat) : Bool := (vs[a / 2]?.getD false) != decide (a % 2 = 1)
def step (base : Nat → Bool) (vs : List Bool) (p : Nat × Nat) : List Bool := vs ++ [if p = (0, 0) then base vs.length else says vs p.1 && says vs p.2]
def vals (ps : List (Nat × Nat)) (base : Nat → Bool) : List Bool := ps.foldl (step base) []

theorem vals_add (ps : List (Nat × Nat)) (p : Nat × Nat) (base : Nat → Bool) : vals (ps ++ [p]) base = step base (vals ps base) p := by simp [vals]
theorem vals_len (base : Nat → Bool) (ps : List (Nat × Nat)) : (vals ps base).length = ps.length := by
  have : ∀ (ps : List (Nat × Nat)) vs, (ps.foldl (step base) vs).length = vs.length + ps.length := by
    intro ps
    induction ps with
    | nil => intro vs; simp
    | cons p ps ih => intro vs; rw [List.foldl_cons, ih]; simp [step]; omega
  simpa [vals] using this ps []
theorem vals_app (base : Nat → Bool) (ps qs : List (Nat × Nat)) : ∃ r, vals (ps ++ qs) base = vals ps base ++ r := by
  have : ∀ (qs : List (Nat × Nat)) vs, ∃ r, qs.foldl (step base) vs = vs ++ r := by
    intro qs
    induction qs with
    | nil => intro vs; exact ⟨[], by simp⟩
    | cons p qs ih =>
      intro vs
      obtain ⟨r, hr⟩ := ih (step base vs p)
      exact ⟨_, by rw [List.foldl_cons, hr]; unfold step; rw [List.append_assoc]⟩
  obtain ⟨r, hr⟩ := this qs (vals ps base)
  exact ⟨r, by unfold vals at hr ⊢; rw [List.foldl_append]; exact hr⟩

/-- What an edge says in a graph. -/
def sv (ps : List (Nat × Nat)) (base : Nat → Bool) (a : Nat) : Bool := says (vals ps base) a

theorem sv_app {base : Nat → Bool} {ps : List (Nat × Nat)} (qs : List (Nat × Nat)) {a : Nat} (h : a / 2 < ps.length) : sv (ps ++ qs) base a = sv ps base a := by
  obtain ⟨r, hr⟩ := vals_app base ps qs
  unfold sv says
  rw [hr, List.getElem?_append_left (by rw [vals_len]; exact h)]
theorem sv_flip {base : Nat → Bool} {ps : List (Nat × Nat)} {a : Nat} : sv ps base (flip a) = !sv ps base a := by
  unfold sv says
  rw [flip_div, flip_mod]
  rcases Nat.mod_two_eq_zero_or_one a with h | h <;> rw [h] <;> cases ((vals ps base)[a / 2]?.getD false) <;> rfl
theorem sv_at {base : Nat → Bool} {ps qs : List (Nat × Nat)} {p : Nat × Nat} (h : p ≠ (0, 0)) : sv (ps ++ p :: qs) base (2 * ps.length) = (sv ps base p.1 && sv ps base p.2) := by
  have e : ps ++ p :: qs = (ps ++ [p]) ++ qs := by simp
  rw [e, sv_app _ (by simp)]
  unfold sv says
  rw [vals_add]
  unfold step
  have h1 : 2 * ps.length / 2 = (vals ps base).length := by rw [vals_len]; omega
  have h2 : 2 * ps.length % 2 = 0 := by omega
  rw [h1, h2, List.getElem?_append_right (Nat.le_refl _), Nat.sub_self]
  simp [h]
  rfl

/-- One gate more. -/
theorem GOk.add {ps : List (Nat × Nat)} (h : GOk ps) {p : Nat × Nat} (hp : p = (0, 0) ∨ (2 ≤ p.1 ∧ p.1 < p.2 ∧ p.2 / 2 < ps.length ∧ p.1 / 2 ≠ p.2 / 2 ∧ known ps p = none)) : GOk (ps ++ [p]) := by
  have hnew : p ≠ (0, 0) → ∀ i : Nat, ps[i]? ≠ some p := by
    intro hne i hi
    rcases hp with hp | ⟨_, _, _, _, hk⟩
    · exact hne hp
    · unfold known at hk
      rw [if_neg hne, List.findIdx?_eq_none_iff] at hk
      have := hk p (List.mem_of_getElem? hi)
      simp at this
  refine ⟨by simp, ?_, ?_, ?_⟩
  · rw [List.getElem?_append_left h.pos]; exact h.zero
  · intro k q hq
    rcases Nat.lt_or_ge k ps.length with hk | hk
    · rw [List.getElem?_append_left hk] at hq; exact h.ok k q hq
    · rw [List.getElem?_append_right hk] at hq
      obtain ⟨h0, hq⟩ := List.getElem?_eq_some_iff.1 hq
      simp at h0 hq
      subst hq
      rcases hp with hp | ⟨h1, h2, h3, h4, _⟩
      · exact .inl hp
      · exact .inr ⟨h1, h2, by omega, h4⟩
  · intro i k q hi hk hne
    rcases Nat.lt_or_ge i ps.length with hi' | hi' <;> rcases Nat.lt_or_ge k ps.length with hk' | hk'
    · rw [List.getElem?_append_left hi'] at hi
      rw [List.getElem?_append_left hk'] at hk
      exact h.once i k q hi hk hne
    · rw [List.getElem?_append_left hi'] at hi
      rw [List.getElem?_append_right hk'] at hk
      obtain ⟨h0, hk⟩ := List.getElem?_eq_some_iff.1 hk
      simp at h0 hk
      subst hk
      exact (hnew hne i hi).elim
    · rw [List.getElem?_append_left hk'] at hk
      rw [List.getElem?_append_right hi'] at hi
      obtain ⟨h0, hi⟩ := List.getElem?_eq_some_iff.1 hi
      simp at h0 hi
      subst hi
      exact (hnew hne k hk).elim
    · have h1 : i < ps.length + 1 := by have := (List.getElem?_eq_some_iff.1 hi).1; simpa using this
      have h2 : k < ps.length + 1 := by have := (List.getElem?_eq_some_iff.1 hk).1; simpa using this
      omega

theorem known_some {ps : List (Nat × Nat)} {p : Nat × Nat} {k : Nat} (h : known ps p = some k) : p ≠ (0, 0) ∧ ps[k]? = some p := by
  unfold known at h
  split at h
  · cases h
  · rename_i hne
    obtain ⟨hlt, h1, _⟩ := List.findIdx?_eq_some_iff_getElem.1 h
    simp at h1
    exact ⟨hne, by rw [List.getElem?_eq_getElem hlt, h1]⟩
theorem known_none {ps : List (Nat × Nat)} {p : Nat × Nat} (hne : p ≠ (0, 0)) (h : known ps p = none) (k : Nat) : ps[k]? ≠ some p := by
  intro hk
  unfold known at h
  rw [if_neg hne, List.findIdx?_eq_none_iff] at h
  have := h p (List.mem_of_getElem? hk)
  simp at this
theorem known_add {ps : List (Nat × Nat)} {p q : Nat × Nat} : known (ps ++ [p]) q = if p ≠ (0, 0) ∧ p = q then (match known ps q with | some k => some k | none => some ps.length) else known ps q := by
  unfold known
  by_cases h0 : q = (0, 0)
  · rw [if_pos h0, if_pos h0, if_neg (by rintro ⟨h1, h2⟩; exact h1 (h2.trans h0))]
  · rw [if_neg h0, if_neg h0, List.findIdx?_append]
    by_cases h1 : p = q
    · subst h1
      rw [if_pos ⟨h0, rfl⟩]
      cases List.findIdx? (fun x => decide (x = p)) ps <;> simp
    · rw [if_neg (by rintro ⟨_, h⟩; exact h1 h)]
      cases List.findIdx? (fun x => decide (x = q)) ps <;> simp [h1]

/-- Both of two edges. -/
def bothG (ps : List (Nat × Nat)) (a b : Nat) : List (Nat × Nat) × Nat × Bool :=
  if min a b = 0 ∨ flip (min a b) = max a b then (ps, 0, true)
  else if min a b = 1 ∨ min a b = max a b then (ps, max a b, true)
  else match known ps (min a b, max a b) with
    | some k => (ps, 2 * k, true)
    | none => if 1048576 ≤ ps.length then (ps, 0, false) else (ps ++ [(min a b, max a b)], 2 * ps.length, true)

theorem sv_zero {base : Nat → Bool} {ps : List (Nat × Nat)} (h : GOk ps) (hb : base 0 = false) : sv ps base 0 = false := by
  obtain ⟨p, qs, rfl⟩ : ∃ p qs, ps = p :: qs := by
    cases ps with
    | nil => have := h.pos; simp at this
    | cons p qs => exact ⟨p, qs, rfl⟩
  have h0 := h.zero
  simp at h0
  subst h0
  have : (0, 0) :: qs = [(0, 0)] ++ qs := rfl
  rw [this, sv_app qs (by simp)]
  simp [sv, says, vals, step, hb]
theorem sv_one {base : Nat → Bool} {ps : List (Nat × Nat)} (h : GOk ps) (hb : base 0 = false) : sv ps base 1 = true := by
  have : (1 : Nat) = flip 0 := rfl
  rw [this, sv_flip, sv_zero h hb]; rfl

structure BothOk (ps : List (Nat × Nat)) (a b : Nat) (ps' : List (Nat × Nat)) (x : Nat) (ok : Bool) : Prop where
  g : GOk ps'
  more : ∃ q : List (Nat × Nat), ps' = ps ++ q ∧ q.length ≤ 1
  there : x / 2 < ps'.length
  fine : ps.length < 1048576 → ok = true
  none : ok = false → ps' = ps ∧ x = 0
  says : ok = true → ∀ base : Nat → Bool, base 0 = false → sv ps' base x = (sv ps base a && sv ps base b)

theorem bothG_ok {ps : List (Nat × Nat)} (h : GOk ps) {a b : Nat} (ha : a / 2 < ps.length) (hb : b / 2 < ps.length) : BothOk ps a b (bothG ps a b).1 (bothG ps a b).2.1 (bothG ps a b).2.2 := by
  have hpos := h.pos
  have hsw : ∀ base : Nat → Bool, (sv ps base a && sv ps base b) = (sv ps base (min a b) && sv ps base (max a b)) := by
    intro base
    rcases Nat.le_total a b with hab | hab
    · rw [Nat.min_eq_left hab, Nat.max_eq_right hab]
    · rw [Nat.min_eq_right hab, Nat.max_eq_left hab, Bool.and_comm]
  have hmin : min a b / 2 < ps.length := by rcases Nat.le_total a b with hab | hab <;> simp [Nat.min_eq_left, Nat.min_eq_right, hab, ha, hb]
  have hmax : max a b / 2 < ps.length := by rcases Nat.le_total a b with hab | hab <;> simp [Nat.max_eq_left, Nat.max_eq_right, hab, ha, hb]
  have hle : min a b ≤ max a b := by omega
  generalize hlo : min a b = lo at *
  generalize hhi : max a b = hi at *
  unfold bothG
  rw [hlo, hhi]
  split
  · rename_i h1
    refine ⟨h, ⟨[], by simp, by simp⟩, by simp; omega, fun _ => rfl, fun h => (by cases h), fun _ base hb0 => ?_⟩
    rw [hsw, sv_zero h hb0]
    rcases h1 with rfl | rfl
    · rw [sv_zero h hb0]; rfl
    · rw [sv_flip]; cases sv ps base lo <;> rfl
  · rename_i h1
    split
    · rename_i h2
      refine ⟨h, ⟨[], by simp, by simp⟩, hmax, fun _ => rfl, fun h => (by cases h), fun _ base hb0 => ?_⟩
      rw [hsw]
      rcases h2 with rfl | rfl
      · rw [sv_one h hb0]; rfl
      · cases sv ps base lo <;> rfl
    · rename_i h2
      have hlo2 : 2 ≤ lo := by omega
      have hlt : lo < hi := by omega
      have hne : (lo, hi) ≠ ((0, 0) : Nat × Nat) := by intro he; cases he; omega
      have hdiv : lo / 2 ≠ hi / 2 := by
        intro he
        have := flip_eq lo
        split at this <;> omega
      split
      · rename_i k hk
        obtain ⟨_, hk'⟩ := known_some hk
        have hklt := (List.getElem?_eq_some_iff.1 hk').1
        refine ⟨h, ⟨[], by simp, by simp⟩, by simp; omega, fun _ => rfl, fun h => (by cases h), fun _ base hb0 => ?_⟩
        rw [hsw]
        obtain ⟨_, h4⟩ := List.getElem?_eq_some_iff.1 hk'
        have hsp : ps = ps.take k ++ (lo, hi) :: ps.drop (k + 1) := by
          rw [← h4, ← List.drop_eq_getElem_cons, List.take_append_drop]
        rcases h.ok k _ hk' with h5 | ⟨_, _, h6, _⟩
        · exact (hne h5).elim
        · have hlen : (ps.take k).length = k := by simp; omega
          have e1 := sv_at (base := base) (ps := ps.take k) (qs := ps.drop (k + 1)) hne
          rw [← hsp, hlen] at e1
          rw [e1]
          simp only at h6
          have e2 : ∀ c, c / 2 < k → sv (ps.take k) base c = sv ps base c := fun c hc => by
            have := sv_app (base := base) (ps := ps.take k) (ps.drop k) (a := c) (by rw [hlen]; exact hc)
            rw [List.take_append_drop] at this
            exact this.symm
          rw [e2 lo (by omega), e2 hi h6]
      · rename_i hk
        split
        · rename_i hfull
          exact ⟨h, ⟨[], by simp, by simp⟩, by simp; omega, fun h => by omega, fun _ => ⟨rfl, rfl⟩, fun h => by cases h⟩
        · refine ⟨h.add (.inr ⟨hlo2, hlt, hmax, hdiv, hk⟩), ⟨[(lo, hi)], rfl, by simp⟩, by simp, fun _ => rfl, fun h => (by cases h), fun _ base hb0 => ?_⟩
          rw [hsw]
          exact sv_at (qs := []) hne

end Go.Gate
