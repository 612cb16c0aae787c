/- A bench: an engine, and of each clause's literals those at hand: what is added, what is dropped. -/
import Derived.Test.YtkgmgjiomniijaaDoorProofK
set_option linter.unusedVariables false
set_option linter.unusedSimpArgs false
namespace Go.Watch
/-- A clause's literals, and the numbers of those at hand: where they lie. -/
abbrev Ids : Type := List Int × Option Go.Addr × Nat × List Nat
def mOf (R : List Ids) : List Int → Option Go.Value := fun k => (R.find? fun x => decide (x.1 = k)).map fun x => .slice x.2.1 x.2.2.2.length x.2.2.1
structure ROk (R : List Ids) (A : List (List Int × Bool)) : Prop where
  once : R.Pairwise fun x y => x.1 ≠ y.1
  ids : ∀ x ∈ R, x.2.2.2 = idsOf A x.1
  no : ∀ k, (∀ x ∈ R, x.1 ≠ k) → idsOf A k = []
section
variable {R : List Ids} {A : List (List Int × Bool)} {k : List Int}
theorem ROk.nil : ROk [] [] := ⟨.nil, fun x h => (by cases h), fun k _ => rfl⟩
theorem ROk.at' (h : ROk R A) {i : Nat} {x : Ids} (hx : R[i]? = some x) : R.find? (fun y => decide (y.1 = x.1)) = some x := by
  rw [List.find?_eq_some_iff_getElem]
  obtain ⟨h1, h2⟩ := List.getElem?_eq_some_iff.1 hx
  refine ⟨by simp, i, h1, h2, fun j hj => ?_⟩
  have := List.pairwise_iff_getElem.1 h.once j i (by omega) h1 hj
  rw [h2] at this
  simpa using this
theorem mOf_none (h : ∀ x ∈ R, x.1 ≠ k) : mOf R k = none := by
  unfold mOf
  rw [List.find?_eq_none.2 fun x hx => by simpa using h x hx]; rfl
theorem mOf_app (h : ∀ x ∈ R, x.1 ≠ k) {a : Option Go.Addr} {c : Nat} {l : List Nat} : mOf (R ++ [(k, a, c, l)]) = Vc.putM (mOf R) k (.slice a l.length c) := by
  funext q
  unfold mOf Vc.putM
  rw [List.find?_append]
  by_cases hq : q = k
  · subst hq
    rw [if_pos rfl, List.find?_eq_none.2 fun x hx => by simpa using h x hx]
    simp
  · rw [if_neg hq]
    have : ([(k, a, c, l)] : List Ids).find? (fun x => decide (x.1 = q)) = none := by
      have e : decide (k = q) = false := decide_eq_false fun e => hq e.symm
      rw [List.find?_cons]
      simp only [e, List.find?_nil]
    rw [this, Option.or_none]
theorem mOf_set (h : ROk R A) {i : Nat} {x : Ids} (hx : R[i]? = some x) {a : Option Go.Addr} {c : Nat} {l : List Nat} : mOf (R.set i (x.1, a, c, l)) = Vc.putM (mOf R) x.1 (.slice a l.length c) := by
  have hi := (List.getElem?_eq_some_iff.1 hx).1
  have honce : (R.set i (x.1, a, c, l)).Pairwise fun x y => x.1 ≠ y.1 := by
    rw [List.pairwise_iff_getElem]
    intro p q hp hq hpq
    rw [List.length_set] at hp hq
    have h0 := List.pairwise_iff_getElem.1 h.once p q hp hq hpq
    have hx2 := (List.getElem?_eq_some_iff.1 hx).2
    rw [List.getElem_set, List.getElem_set]
    split
    · rename_i e; subst e
      rw [if_neg (by omega)]
      rw [hx2] at h0; exact h0
    · split
      · rename_i e; subst e
        rw [hx2] at h0; exact h0
      · exact h0
  funext q
  unfold Vc.putM
  by_cases hq : q = x.1
  · subst hq
    rw [if_pos rfl]
    unfold mOf
    have : (R.set i (x.1, a, c, l)).find? (fun y => decide (y.1 = x.1)) = some (x.1, a, c, l) := by
      rw [List.find?_eq_some_iff_getElem]
      refine ⟨by simp, i, by simpa using hi, by simp, fun j hj => ?_⟩
      have := List.pairwise_iff_getElem.1 honce j i (by rw [List.length_set]; omega) (by simpa using hi) hj
      rw [List.getElem_set_self] at this
      simpa using this
    rw [this]; rfl
  · rw [if_neg hq]
    unfold mOf
    congr 1
    have aux : ∀ (R : List Ids) (i : Nat), R[i]? = some x → (R.set i (x.1, a, c, l)).find? (fun y => decide (y.1 = q)) = R.find? (fun y => decide (y.1 = q)) := by
      intro R
      induction R with
      | nil => intro i h; simp at h
      | cons y R ih2 =>
        intro i h
        cases i with
        | zero =>
          simp at h; subst h
          rw [List.set_cons_zero, List.find?_cons, List.find?_cons]
          have e : decide (y.1 = q) = false := decide_eq_false fun e => hq e.symm
          simp only [e]
        | succ i =>
          rw [List.set_cons_succ, List.find?_cons, List.find?_cons, ih2 i (by simpa using h)]
    exact aux R i hx
theorem idsOf_app {b : List Int} : idsOf (A ++ [(b, true)]) k = if k = b then idsOf A k ++ [A.length] else idsOf A k := by
  unfold idsOf
  rw [List.length_append, List.length_singleton, List.range_succ, List.filter_append]
  have h1 : (List.range A.length).filter (fun i => decide ((A ++ [(b, true)])[i]? = some (k, true))) = (List.range A.length).filter fun i => decide (A[i]? = some (k, true)) := by
    apply List.filter_congr
    intro i hi
    rw [List.mem_range] at hi
    rw [List.getElem?_append_left hi]
  rw [h1]
  by_cases hk : k = b
  · subst hk; simp
  · rw [if_neg hk]
    have : (b, true) ≠ (k, true) := fun e => hk (by cases e; rfl)
    simp [fun e => hk (Eq.symm e)]
    exact fun e => hk e.symm
theorem ROk.add_new (h : ROk R A) (hk : ∀ x ∈ R, x.1 ≠ k) {a : Option Go.Addr} {c : Nat} : ROk (R ++ [(k, a, c, [A.length])]) (A ++ [(k, true)]) := by
  refine ⟨?_, fun x hx => ?_, fun q hq => ?_⟩
  · rw [List.pairwise_append]
    exact ⟨h.once, by simp, fun x hx y hy => by rw [List.mem_singleton] at hy; subst hy; exact hk x hx⟩
  · rw [List.mem_append, List.mem_singleton] at hx
    rw [idsOf_app]
    rcases hx with hx | rfl
    · rw [if_neg (hk x hx), h.ids x hx]
    · rw [if_pos rfl, h.no k hk]; rfl
  · rw [idsOf_app, if_neg, h.no q fun x hx => hq x (List.mem_append_left _ hx)]
    exact fun e => hq (k, a, c, [A.length]) (by simp) e.symm
theorem ROk.add_old (h : ROk R A) {i : Nat} {x : Ids} (hx : R[i]? = some x) {a : Option Go.Addr} {c : Nat} : ROk (R.set i (x.1, a, c, x.2.2.2 ++ [A.length])) (A ++ [(x.1, true)]) := by
  have hi := (List.getElem?_eq_some_iff.1 hx).1
  have hx2 := (List.getElem?_eq_some_iff.1 hx).2
  have hkeys : ∀ (p : Nat) (y : Ids), (R.set i (x.1, a, c, x.2.2.2 ++ [A.length]))[p]? = some y → ∃ z, R[p]? = some z ∧ z.1 = y.1 ∧ (p ≠ i → z = y) ∧ (p = i → y = (x.1, a, c, x.2.2.2 ++ [A.length])) := by
    intro p y hy
    rcases set_get hy with ⟨rfl, rfl⟩ | ⟨hne, h1⟩
    · exact ⟨x, hx, rfl, fun h => (h rfl).elim, fun _ => rfl⟩
    · exact ⟨y, h1, rfl, fun _ => rfl, fun e => (hne e.symm).elim⟩
  refine ⟨?_, fun y hy => ?_, fun q hq => ?_⟩
  · rw [List.pairwise_iff_getElem]
    intro p q hp hq hpq
    obtain ⟨z, h1, h2, _⟩ := hkeys p _ (List.getElem?_eq_getElem hp)
    obtain ⟨z', h3, h4, _⟩ := hkeys q _ (List.getElem?_eq_getElem hq)
    obtain ⟨p1, p2⟩ := List.getElem?_eq_some_iff.1 h1
    obtain ⟨q1, q2⟩ := List.getElem?_eq_some_iff.1 h3
    rw [← h2, ← h4, ← p2, ← q2]
    exact List.pairwise_iff_getElem.1 h.once p q p1 q1 hpq
  · obtain ⟨p, hp⟩ := List.getElem?_of_mem hy
    obtain ⟨z, h1, h2, h3, h4⟩ := hkeys p y hp
    rw [idsOf_app]
    by_cases hpi : p = i
    · rw [h4 hpi]
      simp only []
      rw [if_pos trivial, h.ids x (List.mem_of_getElem? hx)]
    · have := h3 hpi
      subst this
      have hne : z.1 ≠ x.1 := by
        obtain ⟨p1, p2⟩ := List.getElem?_eq_some_iff.1 h1
        intro e
        rcases Nat.lt_or_ge p i with hlt | hge
        · exact List.pairwise_iff_getElem.1 h.once p i p1 hi hlt (by rw [p2, hx2]; exact e)
        · exact List.pairwise_iff_getElem.1 h.once i p hi p1 (by omega) (by rw [p2, hx2]; exact e.symm)
      rw [if_neg hne, h.ids z (List.mem_of_getElem? h1)]
  · have hq' : ∀ y ∈ R, y.1 ≠ q := by
      intro y hy e
      obtain ⟨p, hp⟩ := List.getElem?_of_mem hy
      have hpl := (List.getElem?_eq_some_iff.1 hp).1
      by_cases hpi : p = i
      · subst hpi
        rw [hx] at hp; cases hp
        exact hq (x.1, a, c, x.2.2.2 ++ [A.length]) (List.mem_of_getElem? (List.getElem?_set_self hi)) e
      · exact hq y (List.mem_of_getElem? (i := p) (by rw [List.getElem?_set_ne (fun e => hpi e.symm)]; exact hp)) e
    rw [idsOf_app, if_neg, h.no q hq']
    intro e
    exact hq' x (List.mem_of_getElem? hx) e.symm
theorem ids_set {i : Nat} (hi : A[i]? = some (k, true)) (q : List Int) : idsOf (A.set i (k, false)) q = if q = k then (idsOf A q).filter fun j => decide (j ≠ i) else idsOf A q := by
  unfold idsOf
  rw [List.length_set]
  have hlt := (List.getElem?_eq_some_iff.1 hi).1
  by_cases hq : q = k
  · subst hq
    rw [if_pos rfl, List.filter_filter]
    apply List.filter_congr
    intro j hj
    by_cases e : i = j
    · subst e
      rw [List.getElem?_set_self hlt]; simp
    · rw [List.getElem?_set_ne e]
      simp [fun h => e (Eq.symm h)]
      exact fun _ h => e h.symm
  · rw [if_neg hq]
    apply List.filter_congr
    intro j hj
    by_cases e : i = j
    · subst e
      rw [List.getElem?_set_self hlt, hi]
      simp [fun h => hq (Eq.symm h)]
      exact fun h => hq h.symm
    · rw [List.getElem?_set_ne e]
theorem ids_asc : (idsOf A k).Pairwise (· < ·) := List.Pairwise.filter _ List.pairwise_lt_range
theorem last_off {l : List Nat} {i : Nat} (ha : l.Pairwise (· < ·)) (hl : l.getLast? = some i) : l.filter (fun j => decide (j ≠ i)) = l.dropLast := by
  obtain ⟨r, rfl⟩ : ∃ r, l = r ++ [i] := by
    rw [List.getLast?_eq_some_iff] at hl
    exact hl
  rw [List.pairwise_append] at ha
  rw [List.filter_append, List.dropLast_concat]
  have : r.filter (fun j => decide (j ≠ i)) = r := by
    rw [List.filter_eq_self]
    intro j hj
    have := ha.2.2 j hj i (by simp)
    simp; omega
  rw [this]; simp
theorem ROk.drop (h : ROk R A) {p i : Nat} {x : Ids} (hx : R[p]? = some x) (hl : x.2.2.2.getLast? = some i) : ROk (R.set p (x.1, x.2.1, x.2.2.1, x.2.2.2.dropLast)) (A.set i (x.1, false)) := by
  have hp := (List.getElem?_eq_some_iff.1 hx).1
  have hx2 := (List.getElem?_eq_some_iff.1 hx).2
  have hids := h.ids x (List.mem_of_getElem? hx)
  rw [hids] at hl
  have hA := mem_ids.1 (List.mem_of_getLast? hl)
  have hkeys : ∀ (q : Nat) (y : Ids), (R.set p (x.1, x.2.1, x.2.2.1, x.2.2.2.dropLast))[q]? = some y → ∃ z, R[q]? = some z ∧ z.1 = y.1 ∧ (q ≠ p → z = y) ∧ (q = p → y = (x.1, x.2.1, x.2.2.1, x.2.2.2.dropLast)) := by
    intro q y hy
    rcases set_get hy with ⟨rfl, rfl⟩ | ⟨hne, h1⟩
    · exact ⟨x, hx, rfl, fun h => (h rfl).elim, fun _ => rfl⟩
    · exact ⟨y, h1, rfl, fun _ => rfl, fun e => (hne e.symm).elim⟩
  refine ⟨?_, fun y hy => ?_, fun q hq => ?_⟩
  · rw [List.pairwise_iff_getElem]
    intro u v hu hv huv
    obtain ⟨z, h1, h2, _⟩ := hkeys u _ (List.getElem?_eq_getElem hu)
    obtain ⟨z', h3, h4, _⟩ := hkeys v _ (List.getElem?_eq_getElem hv)
    obtain ⟨p1, p2⟩ := List.getElem?_eq_some_iff.1 h1
    obtain ⟨q1, q2⟩ := List.getElem?_eq_some_iff.1 h3
    rw [← h2, ← h4, ← p2, ← q2]
    exact List.pairwise_iff_getElem.1 h.once u v p1 q1 huv
  · obtain ⟨u, hu⟩ := List.getElem?_of_mem hy
    obtain ⟨z, h1, h2, h3, h4⟩ := hkeys u y hu
    rw [ids_set hA]
    by_cases hup : u = p
    · rw [h4 hup]
      simp only []
      rw [if_pos trivial, last_off ids_asc hl, hids]
    · have := h3 hup
      subst this
      have hne : z.1 ≠ x.1 := by
        obtain ⟨p1, p2⟩ := List.getElem?_eq_some_iff.1 h1
        intro e
        rcases Nat.lt_or_ge u p with hlt | hge
        · exact List.pairwise_iff_getElem.1 h.once u p p1 hp hlt (by rw [p2, hx2]; exact e)
        · exact List.pairwise_iff_getElem.1 h.once p u hp p1 (by omega) (by rw [p2, hx2]; exact e.symm)
      rw [if_neg hne, h.ids z (List.mem_of_getElem? h1)]
  · have hq' : ∀ y ∈ R, y.1 ≠ q := by
      intro y hy e
      obtain ⟨u, hu⟩ := List.getElem?_of_mem hy
      by_cases hup : u = p
      · subst hup
        rw [hx] at hu; cases hu
        exact hq (x.1, x.2.1, x.2.2.1, x.2.2.2.dropLast) (List.mem_of_getElem? (List.getElem?_set_self hp)) e
      · exact hq y (List.mem_of_getElem? (i := u) (by rw [List.getElem?_set_ne (fun e => hup e.symm)]; exact hu)) e
    rw [ids_set hA, if_neg, h.no q hq']
    intro e
    exact hq' x (List.mem_of_getElem? hx) e.symm
theorem ROk.find (R : List Ids) (k : List Int) : (∀ x ∈ R, x.1 ≠ k) ∨ ∃ (i : Nat) (x : Ids), R[i]? = some x ∧ x.1 = k := by
  by_cases h : ∃ x ∈ R, x.1 = k
  · obtain ⟨x, hx, hk⟩ := h
    obtain ⟨i, hi⟩ := List.getElem?_of_mem hx
    exact .inr ⟨i, x, hi, hk⟩
  · exact .inl fun x hx e => h ⟨x, hx, e⟩
end
end Go.Watch
