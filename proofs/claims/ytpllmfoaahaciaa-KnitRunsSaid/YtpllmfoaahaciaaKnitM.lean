/- Plain: gates as clauses. -/
import Derived.Test.YtpllmfoaahaciaaGateQ
set_option linter.unusedVariables false
set_option linter.unusedSimpArgs false
namespace Go.Knit
open Go.Gate Go.Proofs.Ytpllmfoaahaciaa

/-- A gate's variable: its place among those that have one, from 1 on; 0: none. -/
def varOf (D : List Nat) (g : Nat) : Nat := match D.findIdx? (· = g) with
  | some i => i + 1
  | none => 0
theorem varOf_mem {D : List Nat} {g : Nat} (h : g ∈ D) : ∃ i, varOf D g = i + 1 ∧ i < D.length ∧ D[i]? = some g := by
  unfold varOf
  cases hf : D.findIdx? (· = g) with
  | none => rw [List.findIdx?_eq_none_iff] at hf; have := hf g h; simp at this
  | some i =>
    obtain ⟨hlt, h1, _⟩ := List.findIdx?_eq_some_iff_getElem.1 hf
    simp at h1
    exact ⟨i, rfl, hlt, by rw [List.getElem?_eq_getElem hlt, h1]⟩
theorem varOf_not {D : List Nat} {g : Nat} (h : g ∉ D) : varOf D g = 0 := by
  unfold varOf
  cases hf : D.findIdx? (· = g) with
  | none => rfl
  | some i =>
    obtain ⟨hlt, h1, _⟩ := List.findIdx?_eq_some_iff_getElem.1 hf
    simp at h1
    exact (h (h1 ▸ List.getElem_mem hlt)).elim
theorem varOf_pos {D : List Nat} {g : Nat} : 0 < varOf D g ↔ g ∈ D := by
  constructor
  · intro h
    by_cases hg : g ∈ D
    · exact hg
    · rw [varOf_not hg] at h; omega
  · intro h
    obtain ⟨i, h1, _⟩ := varOf_mem h
    omega
theorem varOf_le (D : List Nat) (g : Nat) : varOf D g ≤ D.length := by
  by_cases h : g ∈ D
  · obtain ⟨i, h1, h2, _⟩ := varOf_mem h; omega
  · rw [varOf_not h]; omega
theorem varOf_at {D : List Nat} {g i : Nat} (hn : D.Nodup) (h : D[i]? = some g) : varOf D g = i + 1 := by
  obtain ⟨j, h1, h2, h3⟩ := varOf_mem (List.mem_of_getElem? h)
  rw [h1]
  congr 1
  obtain ⟨hi, e1⟩ := List.getElem?_eq_some_iff.1 h
  obtain ⟨hj, e2⟩ := List.getElem?_eq_some_iff.1 h3
  rw [List.nodup_iff_pairwise_ne, List.pairwise_iff_getElem] at hn
  rcases Nat.lt_trichotomy i j with hlt | heq | hgt
  · exact (hn i j hi hj hlt (by rw [e1, e2])).elim
  · exact heq.symm
  · exact (hn j i hj hi hgt (by rw [e1, e2])).elim
theorem varOf_old {D : List Nat} (E : List Nat) {g : Nat} (h : g ∈ D) : varOf (D ++ E) g = varOf D g := by
  unfold varOf
  rw [List.findIdx?_append]
  cases hf : D.findIdx? (· = g) with
  | none => rw [List.findIdx?_eq_none_iff] at hf; have := hf g h; simp at this
  | some i => rfl
theorem varOf_new {D : List Nat} {g : Nat} (h : g ∉ D) : varOf (D ++ [g]) g = D.length + 1 := by
  unfold varOf
  rw [List.findIdx?_append]
  cases hf : D.findIdx? (· = g) with
  | none => simp
  | some i =>
    obtain ⟨hlt, h1, _⟩ := List.findIdx?_eq_some_iff_getElem.1 hf
    simp at h1
    exact (h (h1 ▸ List.getElem_mem hlt)).elim

/-- An edge's literal. -/
def litOf (D : List Nat) (a : Nat) : Int := if a % 2 = 1 then -(varOf D (a / 2) : Int) else (varOf D (a / 2) : Int)
theorem litOf_old {D : List Nat} (E : List Nat) {a : Nat} (h : a / 2 ∈ D) : litOf (D ++ E) a = litOf D a := by unfold litOf; rw [varOf_old E h]
theorem litOf_flip {D : List Nat} {a : Nat} : litOf D (flip a) = -litOf D a := by
  unfold litOf
  rw [flip_div, flip_mod]
  rcases Nat.mod_two_eq_zero_or_one a with h | h <;> rw [h] <;> simp

/-- What says what a gate is. -/
def clsOf (ps : List (Nat × Nat)) (D : List Nat) (g : Nat) : List (List Int) :=
  if g = 0 then [[-(varOf D g : Int)]]
  else if (partsP ps g).2.2 then [[-(varOf D g : Int), litOf D (partsP ps g).1], [-(varOf D g : Int), litOf D (partsP ps g).2.1], [(varOf D g : Int), -litOf D (partsP ps g).1, -litOf D (partsP ps g).2.1]]
  else []

structure KOk (ps : List (Nat × Nat)) (D : List Nat) (C : List (List Int)) : Prop where
  nodup : D.Nodup
  lt : ∀ g ∈ D, g < ps.length
  clo : ∀ g ∈ D, (partsP ps g).2.2 = true → (partsP ps g).1 / 2 ∈ D ∧ (partsP ps g).2.1 / 2 ∈ D
  cls : ∀ c, c ∈ C ↔ ∃ g ∈ D, c ∈ clsOf ps D g
  len : C.length ≤ 3 * D.length ∧ (C.map List.length).sum ≤ 7 * D.length

theorem parts_some {ps : List (Nat × Nat)} {g : Nat} (h : (partsP ps g).2.2 = true) : ∃ p, ps[g]? = some p ∧ p ≠ (0, 0) ∧ (partsP ps g).1 = p.1 ∧ (partsP ps g).2.1 = p.2 := by
  unfold partsP at h ⊢
  rw [if_neg (by omega)] at h ⊢
  rw [Int.toNat_natCast] at h ⊢
  cases hp : ps[g]? with
  | none => rw [hp] at h; cases h
  | some p =>
    rw [hp] at h
    simp only [] at h ⊢
    by_cases h0 : p = (0, 0)
    · subst h0; simp at h
    · rw [if_neg h0]; exact ⟨p, rfl, h0, rfl, rfl⟩
theorem parts_zero {ps : List (Nat × Nat)} (hg : GOk ps) : (partsP ps (0 : Nat)).2.2 = false := by
  cases h : (partsP ps (0 : Nat)).2.2 with
  | false => rfl
  | true =>
    obtain ⟨p, h1, h2, _⟩ := parts_some h
    rw [hg.zero] at h1
    cases h1
    exact (h2 rfl).elim

theorem clsOf_old {ps : List (Nat × Nat)} {D : List Nat} {C : List (List Int)} (h : KOk ps D C) (E : List Nat) {g : Nat} (hg : g ∈ D) : clsOf ps (D ++ E) g = clsOf ps D g := by
  unfold clsOf
  rw [varOf_old E hg]
  by_cases h0 : g = 0
  · rw [if_pos h0, if_pos h0]
  · rw [if_neg h0, if_neg h0]
    cases hp : (partsP ps g).2.2 with
    | false => rfl
    | true =>
      obtain ⟨h1, h2⟩ := h.clo g hg hp
      rw [litOf_old E h1, litOf_old E h2]

/-- A gate is defined. -/
def defP (ps : List (Nat × Nat)) (s : List Nat × List (List Int)) (g : Nat) : List Nat × List (List Int) := if g ∈ s.1 then s else (s.1 ++ [g], s.2 ++ clsOf ps (s.1 ++ [g]) g)

theorem clsOf_len (ps : List (Nat × Nat)) (D : List Nat) (g : Nat) : (clsOf ps D g).length ≤ 3 ∧ ((clsOf ps D g).map List.length).sum ≤ 7 := by
  unfold clsOf
  split
  · simp
  · split <;> simp

theorem KOk.defd {ps : List (Nat × Nat)} {D : List Nat} {C : List (List Int)} (h : KOk ps D C) {g : Nat} (hg : g < ps.length) (hp : (partsP ps g).2.2 = true → (partsP ps g).1 / 2 ∈ D ∧ (partsP ps g).2.1 / 2 ∈ D) :
    KOk ps (defP ps (D, C) g).1 (defP ps (D, C) g).2 := by
  unfold defP
  by_cases hm : g ∈ D
  · rw [if_pos hm]; exact h
  rw [if_neg hm]
  have hl := clsOf_len ps (D ++ [g]) g
  refine ⟨?_, ?_, ?_, ?_, ?_⟩
  · rw [List.nodup_append]
    exact ⟨h.nodup, by simp, fun a ha b hb => by rw [List.mem_singleton] at hb; subst hb; exact fun e => hm (e ▸ ha)⟩
  · intro x hx
    rw [List.mem_append, List.mem_singleton] at hx
    rcases hx with hx | rfl
    · exact h.lt x hx
    · exact hg
  · intro x hx hx2
    rw [List.mem_append, List.mem_singleton] at hx
    rcases hx with hx | rfl
    · obtain ⟨h1, h2⟩ := h.clo x hx hx2
      exact ⟨List.mem_append_left _ h1, List.mem_append_left _ h2⟩
    · obtain ⟨h1, h2⟩ := hp hx2
      exact ⟨List.mem_append_left _ h1, List.mem_append_left _ h2⟩
  · intro c
    rw [List.mem_append, h.cls]
    constructor
    · rintro (⟨x, h1, h2⟩ | h1)
      · exact ⟨x, List.mem_append_left _ h1, by rw [clsOf_old h [g] h1]; exact h2⟩
      · exact ⟨g, by simp, h1⟩
    · rintro ⟨x, h1, h2⟩
      rw [List.mem_append, List.mem_singleton] at h1
      rcases h1 with h1 | rfl
      · rw [clsOf_old h [g] h1] at h2
        exact .inl ⟨x, h1, h2⟩
      · exact .inr h2
  · have := h.len
    simp only [List.length_append, List.length_singleton, List.map_append, List.sum_append]
    omega

theorem defP_grow (ps : List (Nat × Nat)) (s : List Nat × List (List Int)) (g : Nat) : ∃ E, (defP ps s g).1 = s.1 ++ E := by
  unfold defP
  split
  · exact ⟨[], by simp⟩
  · exact ⟨[g], rfl⟩
theorem defP_in (ps : List (Nat × Nat)) (s : List Nat × List (List Int)) (g : Nat) : g ∈ (defP ps s g).1 := by
  unfold defP
  split
  · assumption
  · simp
theorem fold_grow (ps : List (Nat × Nat)) : ∀ (L : List Nat) (s : List Nat × List (List Int)), ∃ E, (L.foldl (defP ps) s).1 = s.1 ++ E
  | [], s => ⟨[], by simp⟩
  | g :: L, s => by
    obtain ⟨E1, h1⟩ := defP_grow ps s g
    obtain ⟨E2, h2⟩ := fold_grow ps L (defP ps s g)
    exact ⟨E1 ++ E2, by rw [List.foldl_cons, h2, h1, List.append_assoc]⟩
theorem fold_in (ps : List (Nat × Nat)) : ∀ (L : List Nat) (s : List Nat × List (List Int)), ∀ g ∈ L, g ∈ (L.foldl (defP ps) s).1
  | [], s, g, h => by cases h
  | x :: L, s, g, h => by
    rw [List.foldl_cons]
    rcases List.mem_cons.1 h with rfl | h
    · obtain ⟨E, hE⟩ := fold_grow ps L (defP ps s g)
      rw [hE]
      exact List.mem_append_left _ (defP_in ps s g)
    · exact fold_in ps L _ g h

/-- A row of gates of which each one's parts stand ahead of it. -/
structure Row (ps : List (Nat × Nat)) (L : List Nat) : Prop where
  lt : ∀ g ∈ L, g < ps.length
  parts : ∀ (i g : Nat), L[i]? = some g → (partsP ps g).2.2 = true → (partsP ps g).1 / 2 ∈ L.take i ∧ (partsP ps g).2.1 / 2 ∈ L.take i

theorem Row.take {ps : List (Nat × Nat)} {L : List Nat} (h : Row ps L) {D : List Nat} {C : List (List Int)} (hk : KOk ps D C) : ∀ i, i ≤ L.length → KOk ps ((L.take i).foldl (defP ps) (D, C)).1 ((L.take i).foldl (defP ps) (D, C)).2
  | 0, _ => hk
  | i + 1, hi => by
    have ih := h.take hk i (by omega)
    have hx : L[i]? = some L[i] := List.getElem?_eq_getElem (by omega)
    rw [List.take_add_one, hx, List.foldl_append]
    refine ih.defd (h.lt _ (List.getElem_mem (by omega))) fun hp => ?_
    obtain ⟨h1, h2⟩ := h.parts i _ hx hp
    exact ⟨fold_in ps _ _ _ h1, fold_in ps _ _ _ h2⟩

/-- The gates that an edge's literal needs. -/
def rowOf (ps : List (Nat × Nat)) (a : Nat) : List Nat := if a / 2 = 0 then coneP ps [a] ++ [0] else coneP ps [a]
theorem asc_take {L : List Nat} (h : L.Pairwise (· < ·)) {i g x : Nat} (hi : L[i]? = some g) (hx : x ∈ L) (hlt : x < g) : x ∈ L.take i := by
  obtain ⟨j, hj⟩ := List.getElem?_of_mem hx
  obtain ⟨h1, e1⟩ := List.getElem?_eq_some_iff.1 hi
  obtain ⟨h2, e2⟩ := List.getElem?_eq_some_iff.1 hj
  rw [List.pairwise_iff_getElem] at h
  have : j < i := by
    rcases Nat.lt_trichotomy j i with h3 | h3 | h3
    · exact h3
    · subst h3; rw [e1] at e2; omega
    · have := h i j h1 h2 h3; rw [e1, e2] at this; omega
  exact List.mem_take_iff_getElem.2 ⟨j, by omega, e2⟩
theorem rowOf_row {ps : List (Nat × Nat)} (hg : GOk ps) (a : Nat) : Row ps (rowOf ps a) := by
  have key : Row ps (coneP ps [a]) := by
    refine ⟨fun g h => (mem_coneP.1 h).2.1, fun i g hi hp => ?_⟩
    obtain ⟨p, h1, h2, e1, e2⟩ := parts_some hp
    obtain ⟨m1, m2, m3⟩ := mem_coneP.1 (List.mem_of_getElem? hi)
    obtain ⟨t1, t2⟩ := turn_parts hg h1 h2 m3
    rcases hg.ok g p h1 with h' | ⟨o1, o2, o3, o4⟩
    · exact (h2 h').elim
    rw [e1, e2]
    have o5 : p.1 / 2 ≤ p.2 / 2 := Nat.div_le_div_right (by omega)
    refine ⟨asc_take coneP_asc hi (mem_coneP.2 ⟨by omega, by omega, t1⟩) (by omega), asc_take coneP_asc hi (mem_coneP.2 ⟨by omega, by omega, t2⟩) (by omega)⟩
  unfold rowOf
  split
  · refine ⟨fun g h => ?_, fun i g hi hp => ?_⟩
    · rw [List.mem_append, List.mem_singleton] at h
      rcases h with h | rfl
      · exact key.lt g h
      · exact hg.pos
    · rcases Nat.lt_or_ge i (coneP ps [a]).length with hlt | hge
      · rw [List.getElem?_append_left hlt] at hi
        rw [List.take_append_of_le_length (by omega)]
        exact key.parts i g hi hp
      · rw [List.getElem?_append_right hge] at hi
        obtain ⟨_, e⟩ := List.getElem?_eq_some_iff.1 hi
        have : g = 0 := by simpa using e.symm
        subst this
        rw [parts_zero hg] at hp
        cases hp
  · exact key
theorem rowOf_in {ps : List (Nat × Nat)} (hg : GOk ps) {a : Nat} (h : a / 2 < ps.length) : a / 2 ∈ rowOf ps a := by
  unfold rowOf
  split
  · rename_i h0; rw [h0]; simp
  · exact mem_coneP.2 ⟨by omega, h, turn_root hg h⟩

/-- An edge has a literal. -/
def litP (ps : List (Nat × Nat)) (s : List Nat × List (List Int)) (a : Nat) : List Nat × List (List Int) := if a / 2 ∈ s.1 then s else (rowOf ps a).foldl (defP ps) s
theorem litP_ok {ps : List (Nat × Nat)} (hg : GOk ps) {D : List Nat} {C : List (List Int)} (hk : KOk ps D C) {a : Nat} (h : a / 2 < ps.length) :
    KOk ps (litP ps (D, C) a).1 (litP ps (D, C) a).2 ∧ a / 2 ∈ (litP ps (D, C) a).1 ∧ ∃ E, (litP ps (D, C) a).1 = D ++ E := by
  unfold litP
  by_cases hm : a / 2 ∈ D
  · rw [if_pos hm]; exact ⟨hk, hm, [], by simp⟩
  · rw [if_neg hm]
    have := (rowOf_row hg a).take hk (rowOf ps a).length (Nat.le_refl _)
    rw [List.take_length] at this
    exact ⟨this, fold_in ps _ _ _ (rowOf_in hg h), fold_grow ps _ _⟩
theorem KOk.few {ps : List (Nat × Nat)} {D : List Nat} {C : List (List Int)} (h : KOk ps D C) : D.length ≤ ps.length := by
  have key : ∀ (n : Nat) (D : List Nat), D.Nodup → (∀ g ∈ D, g < n) → D.length ≤ n := by
    intro n
    induction n with
    | zero =>
      intro D _ h
      cases D with
      | nil => exact Nat.le_refl _
      | cons x D => have := h x (by simp); omega
    | succ n ih =>
      intro D hd h
      have := ih (D.erase n) (hd.erase n) fun g hg => by
        rw [hd.mem_erase_iff] at hg
        have := h g hg.2
        have := hg.1
        omega
      by_cases hm : n ∈ D
      · rw [List.length_erase_of_mem hm] at this; omega
      · rw [List.erase_of_not_mem hm] at this; omega
  exact key _ _ h.nodup h.lt
theorem KOk.nil (ps : List (Nat × Nat)) : KOk ps [] [] := ⟨List.nodup_nil, by simp, by simp, by simp, by simp⟩
end Go.Knit
