/- Plain: cones. -/
import Derived.Test.YtpllmfoaahaciaaGateP
set_option linter.unusedVariables false
set_option linter.unusedSimpArgs false
namespace Go.Gate
open Go.Proofs.Ytpllmfoaahaciaa

section
variable {ps : List (Nat × Nat)} {xs : List Nat}

/-- Is it marked when its turn comes? -/
def turn (ps : List (Nat × Nat)) (xs : List Nat) (x : Nat) : Bool := (coneTo ps xs (ps.length - 1 - x)).1[x]?.getD false

theorem set_get {L : List Bool} {i j : Nat} {v : Bool} (h : i < L.length) : (L.set i v)[j]?.getD false = if i = j then v else L[j]?.getD false := by
  rw [List.getElem?_set]
  by_cases e : i = j
  · subst e; rw [if_pos rfl, if_pos rfl, if_pos h]; rfl
  · rw [if_neg e, if_neg e]

theorem step_other (hg : GOk ps) {k x : Nat} (hk : k < ps.length) (hx : ps.length - 1 - k ≤ x) : (coneTo ps xs (k + 1)).1[x]?.getD false = (coneTo ps xs k).1[x]?.getD false := by
  have hlen := (coneTo_len (ps := ps) (xs := xs) k).1
  simp only [coneTo, coneStep]
  split
  · rfl
  split
  · rfl
  · rename_i h0
    have hp : ps[ps.length - 1 - k]? = some (ps[ps.length - 1 - k]?.getD (0, 0)) := by rw [List.getElem?_eq_getElem (by omega)]; rfl
    rcases hg.ok _ _ hp with h | ⟨h1, h2, h3, h4⟩
    · exact (h0 h).elim
    · rw [set_get (by rw [List.length_set]; omega), set_get (by omega), if_neg (by omega), if_neg (by omega)]

theorem turn_stays (hg : GOk ps) {x : Nat} (hx : x < ps.length) : ∀ {d : Nat}, ps.length - 1 - x + d ≤ ps.length → (coneTo ps xs (ps.length - 1 - x + d)).1[x]?.getD false = turn ps xs x
  | 0, _ => rfl
  | d + 1, h => by
    rw [← Nat.add_assoc, step_other hg (by omega) (by omega)]
    exact turn_stays hg hx (by omega)

theorem step_mono (hg : GOk ps) {k x : Nat} (hk : k < ps.length) (h : (coneTo ps xs k).1[x]?.getD false = true) : (coneTo ps xs (k + 1)).1[x]?.getD false = true := by
  have hlen := (coneTo_len (ps := ps) (xs := xs) k).1
  simp only [coneTo, coneStep]
  split
  · exact h
  split
  · exact h
  · rename_i h0
    have hp : ps[ps.length - 1 - k]? = some (ps[ps.length - 1 - k]?.getD (0, 0)) := by rw [List.getElem?_eq_getElem (by omega)]; rfl
    rcases hg.ok _ _ hp with h' | ⟨h1, h2, h3, h4⟩
    · exact (h0 h').elim
    · rw [set_get (by rw [List.length_set]; omega), set_get (by omega)]
      split
      · rfl
      split
      · rfl
      · exact h

theorem marks_mono (hg : GOk ps) {k x : Nat} : ∀ {d : Nat}, k + d ≤ ps.length → (coneTo ps xs k).1[x]?.getD false = true → (coneTo ps xs (k + d)).1[x]?.getD false = true
  | 0, _, h => h
  | d + 1, hd, h => by
    rw [← Nat.add_assoc]
    exact step_mono hg (by omega) (marks_mono hg (by omega) h)

theorem turn_of (hg : GOk ps) {k x : Nat} (hk : k + x ≤ ps.length - 1) (hx : x < ps.length) (h : (coneTo ps xs k).1[x]?.getD false = true) : turn ps xs x = true := by
  have := marks_mono hg (k := k) (x := x) (d := ps.length - 1 - x - k) (by omega) h
  have e : k + (ps.length - 1 - x - k) = ps.length - 1 - x := by omega
  rw [e] at this
  exact this

theorem turn_root (hg : GOk ps) {root : Nat} (h : root / 2 < ps.length) : turn ps [root] (root / 2) = true := by
  refine turn_of hg (k := 0) (by omega) h ?_
  show (inTo ps.length [root] 1)[root / 2]?.getD false = true
  simp only [inTo]
  rw [show [root].getD 0 0 = root from rfl, set_get (by simp; omega), if_pos rfl]

theorem turn_parts (hg : GOk ps) {x : Nat} {p : Nat × Nat} (hp : ps[x]? = some p) (h0 : p ≠ (0, 0)) (h : turn ps xs x = true) : turn ps xs (p.1 / 2) = true ∧ turn ps xs (p.2 / 2) = true := by
  have hx := (List.getElem?_eq_some_iff.1 hp).1
  rcases hg.ok x p hp with h' | ⟨h1, h2, h3, h4⟩
  · exact (h0 h').elim
  have hlen := (coneTo_len (ps := ps) (xs := xs) (ps.length - 1 - x)).1
  have hi : ps.length - 1 - (ps.length - 1 - x) = x := by omega
  have hx0 : x ≠ 0 := by omega
  have e : (coneTo ps xs (ps.length - 1 - x + 1)).1 = ((coneTo ps xs (ps.length - 1 - x)).1.set (p.1 / 2) true).set (p.2 / 2) true := by
    simp only [coneTo, coneStep]
    rw [hi, hp]
    unfold turn at h
    rw [h, if_neg (by rintro (h | h); exact Bool.noConfusion h; exact hx0 h)]
    simp only [Option.getD_some]
    rw [if_neg h0]
  refine ⟨turn_of hg (k := ps.length - 1 - x + 1) (by omega) (by omega) ?_, turn_of hg (k := ps.length - 1 - x + 1) (by omega) (by omega) ?_⟩
  · rw [e, set_get (by rw [List.length_set]; omega), set_get (by omega)]
    split
    · rfl
    · rw [if_pos rfl]
  · rw [e, set_get (by rw [List.length_set]; omega), if_pos rfl]

/-- What is in a cone. -/
theorem mem_coneTo : ∀ {k x : Nat}, k ≤ ps.length → (x ∈ (coneTo ps xs k).2 ↔ 1 ≤ x ∧ ps.length - k ≤ x ∧ x < ps.length ∧ turn ps xs x = true)
  | 0, x, _ => by simp [coneTo]; omega
  | k + 1, x, hk => by
    have ih := mem_coneTo (k := k) (x := x) (by omega)
    have hi : ps.length - 1 - (ps.length - 1 - k) = k := by omega
    have key : turn ps xs (ps.length - 1 - k) = (coneTo ps xs k).1[ps.length - 1 - k]?.getD false := by unfold turn; rw [hi]
    have e : (coneTo ps xs (k + 1)).2 = if turn ps xs (ps.length - 1 - k) = false ∨ ps.length - 1 - k = 0 then (coneTo ps xs k).2 else (coneTo ps xs k).2 ++ [ps.length - 1 - k] := by
      simp only [coneTo, coneStep]
      rw [← key]
      split
      · rfl
      · split <;> rfl
    rw [e]
    split
    · rename_i h
      rw [ih]
      constructor
      · rintro ⟨h1, h2, h3, h4⟩; exact ⟨h1, by omega, h3, h4⟩
      · rintro ⟨h1, h2, h3, h4⟩
        refine ⟨h1, ?_, h3, h4⟩
        rcases Nat.lt_or_ge x (ps.length - k) with hlt | hge
        · have : x = ps.length - 1 - k := by omega
          subst this
          rcases h with h | h
          · rw [h] at h4; cases h4
          · omega
        · exact hge
    · rename_i h
      rw [List.mem_append, List.mem_singleton, ih]
      constructor
      · rintro (⟨h1, h2, h3, h4⟩ | rfl)
        · exact ⟨h1, by omega, h3, h4⟩
        · refine ⟨?_, by omega, by omega, ?_⟩
          · rcases Nat.eq_zero_or_pos (ps.length - 1 - k) with h0 | h0
            · exact (h (.inr h0)).elim
            · exact h0
          · cases ht : turn ps xs (ps.length - 1 - k) with
            | true => rfl
            | false => exact (h (.inl ht)).elim
      · rintro ⟨h1, h2, h3, h4⟩
        rcases Nat.lt_or_ge x (ps.length - k) with hlt | hge
        · exact .inr (by omega)
        · exact .inl ⟨h1, hge, h3, h4⟩

theorem coneTo_desc : ∀ {k : Nat}, k ≤ ps.length → (coneTo ps xs k).2.Pairwise (· > ·)
  | 0, _ => by simp [coneTo]
  | k + 1, hk => by
    have ih := coneTo_desc (k := k) (by omega)
    simp only [coneTo, coneStep]
    have hnew : ((coneTo ps xs k).2 ++ [ps.length - 1 - k]).Pairwise (· > ·) := by
      rw [List.pairwise_append]
      refine ⟨ih, by simp, fun a ha b hb => ?_⟩
      rw [List.mem_singleton] at hb
      subst hb
      have := (mem_coneTo (ps := ps) (xs := xs) (k := k) (by omega)).1 ha
      omega
    split
    · exact ih
    · split <;> exact hnew

theorem mem_coneP {x : Nat} : x ∈ coneP ps xs ↔ 1 ≤ x ∧ x < ps.length ∧ turn ps xs x = true := by
  unfold coneP
  rw [List.mem_reverse, mem_coneTo (Nat.le_refl _)]
  constructor
  · rintro ⟨h1, _, h3, h4⟩; exact ⟨h1, h3, h4⟩
  · rintro ⟨h1, h3, h4⟩; exact ⟨h1, by omega, h3, h4⟩
theorem coneP_asc : (coneP ps xs).Pairwise (· < ·) := by
  unfold coneP
  rw [List.pairwise_reverse]
  exact coneTo_desc (Nat.le_refl _)
theorem coneP_next {i : Nat} {x y : Nat} (h1 : (coneP ps xs)[i]? = some x) (h2 : (coneP ps xs)[i + 1]? = some y) : x < y := by
  have := coneP_asc (ps := ps) (xs := xs)
  rw [List.pairwise_iff_getElem] at this
  obtain ⟨a, rfl⟩ := List.getElem?_eq_some_iff.1 h1
  obtain ⟨b, rfl⟩ := List.getElem?_eq_some_iff.1 h2
  exact this i (i + 1) a b (by omega)

/-- A cone's marks. -/
def marks (n : Nat) (cs : List Nat) : Nat → List Bool
  | 0 => List.replicate n false
  | i + 1 => (marks n cs i).set (cs.getD i 0) true
theorem marks_len {n : Nat} {cs : List Nat} : ∀ i, (marks n cs i).length = n
  | 0 => by simp [marks]
  | i + 1 => by simp [marks, marks_len i]
theorem marks_get {n : Nat} {cs : List Nat} (hc : ∀ x ∈ cs, x < n) : ∀ {i x : Nat}, i ≤ cs.length → ((marks n cs i)[x]?.getD false = true ↔ x ∈ cs.take i)
  | 0, x, _ => by
    simp only [marks, List.take_zero, List.not_mem_nil, iff_false]
    rw [List.getElem?_replicate]
    split <;> simp
  | i + 1, x, h => by
    have hi : cs[i]? = some cs[i] := List.getElem?_eq_getElem (by omega)
    have hlt := hc _ (List.getElem_mem (show i < cs.length by omega))
    have e : cs.getD i 0 = cs[i] := by rw [List.getD_eq_getElem?_getD, hi]; rfl
    simp only [marks]
    rw [e, set_get (by rw [marks_len]; exact hlt), List.take_add_one, hi, List.mem_append]
    simp only [Option.toList_some, List.mem_singleton]
    have ih := marks_get hc (i := i) (x := x) (by omega)
    split
    · rename_i e2; simp [e2]
    · rename_i e2
      rw [ih]
      constructor
      · exact .inl
      · rintro (h | h)
        · exact h
        · exact (e2 h.symm).elim
theorem marks_turn {x : Nat} (h1 : 1 ≤ x) (h2 : x < ps.length) : (marks ps.length (coneP ps xs) (coneP ps xs).length)[x]?.getD false = turn ps xs x := by
  rw [Bool.eq_iff_iff, marks_get (fun x hx => (mem_coneP.1 hx).2.1) (Nat.le_refl _), List.take_length, mem_coneP]
  exact ⟨fun h => h.2.2, fun h => ⟨h1, h2, h⟩⟩

/-- What lies outside of a cone doesn't count. -/
theorem vals_turn (hg : GOk ps) {b1 b2 : Nat → Bool} (hb : ∀ x, x < ps.length → turn ps xs x = true → ps[x]? = some (0, 0) → b1 x = b2 x) :
    ∀ (N x : Nat), x < N → x < ps.length → turn ps xs x = true → (vals ps b1)[x]? = (vals ps b2)[x]?
  | 0, x, h, _, _ => by omega
  | N + 1, x, hN, hx, ht => by
    have hp : ps[x]? = some ps[x] := List.getElem?_eq_getElem hx
    generalize ps[x] = p at hp
    have split3 : ps = ps.take x ++ p :: ps.drop (x + 1) := by
      obtain ⟨h, e⟩ := List.getElem?_eq_some_iff.1 hp
      rw [← e, ← List.drop_eq_getElem_cons, List.take_append_drop]
    have hl : (ps.take x).length = x := by simp; omega
    have at_ : ∀ b : Nat → Bool, (vals ps b)[x]? = some (if p = (0, 0) then b x else sv ps b p.1 && sv ps b p.2) := by
      intro b
      have e : ps = (ps.take x ++ [p]) ++ ps.drop (x + 1) := by rw [List.append_assoc]; exact split3
      obtain ⟨r, hr⟩ := vals_app b (ps.take x ++ [p]) (ps.drop (x + 1))
      rw [← e] at hr
      rw [hr, List.getElem?_append_left (by rw [vals_len]; simp; omega), vals_add]
      unfold step
      have hv : (vals (ps.take x) b).length = x := by rw [vals_len, hl]
      rw [List.getElem?_append_right (by omega), hv, Nat.sub_self]
      simp only [List.getElem?_cons_zero]
      congr 1
      split
      · rfl
      · rename_i h0
        rcases hg.ok x p hp with h' | ⟨h1, h2, h3, h4⟩
        · exact (h0 h').elim
        · have e2 : ∀ c, c / 2 < x → says (vals (ps.take x) b) c = sv ps b c := fun c hc => by
            have := sv_app (base := b) (ps := ps.take x) (ps.drop x) (a := c) (by rw [hl]; exact hc)
            rw [List.take_append_drop] at this
            exact this.symm
          rw [e2 _ (by omega), e2 _ h3]
    rw [at_, at_]
    congr 1
    split
    · rename_i h0
      subst h0
      exact hb x hx ht hp
    · rename_i h0
      rcases hg.ok x p hp with h' | ⟨h1, h2, h3, h4⟩
      · exact (h0 h').elim
      · obtain ⟨t1, t2⟩ := turn_parts hg hp h0 ht
        unfold sv says
        rw [vals_turn hg hb N (p.1 / 2) (by omega) (by omega) t1, vals_turn hg hb N (p.2 / 2) (by omega) (by omega) t2]
theorem sv_turn (hg : GOk ps) {b1 b2 : Nat → Bool} {root : Nat} (hr : root / 2 < ps.length) (hb : ∀ x, x < ps.length → turn ps [root] x = true → ps[x]? = some (0, 0) → b1 x = b2 x) : sv ps b1 root = sv ps b2 root := by
  unfold sv says
  rw [vals_turn hg hb _ _ (Nat.lt_succ_self _) hr (turn_root hg hr)]
end

/-- A row of values in which what is marked is taken of another one. -/
def mixTo (M V : List Bool) (W : List Bool) : Nat → List Bool
  | 0 => W
  | k + 1 => if M[k + 1]?.getD false then (mixTo M V W k).set k (V.getD k false) else mixTo M V W k
theorem mixTo_len {M V W : List Bool} : ∀ k, (mixTo M V W k).length = W.length
  | 0 => rfl
  | k + 1 => by simp only [mixTo]; split <;> simp [mixTo_len k]
theorem set_get' {L : List Bool} {i j : Nat} {v : Bool} (h : j < L.length) : (L.set i v)[j]?.getD false = if i = j then v else L[j]?.getD false := by
  rw [List.getElem?_set]
  by_cases e : i = j
  · subst e; rw [if_pos rfl, if_pos rfl, if_pos h]; rfl
  · rw [if_neg e, if_neg e]
theorem mixTo_get {M V W : List Bool} {j : Nat} (hj : j < W.length) : ∀ k, (mixTo M V W k)[j]?.getD false = if j < k ∧ M[j + 1]?.getD false = true then V.getD j false else W[j]?.getD false
  | 0 => by rw [if_neg (by omega)]; rfl
  | k + 1 => by
    have ih := mixTo_get (M := M) (V := V) hj k
    simp only [mixTo]
    by_cases hm : M[k + 1]?.getD false = true
    · rw [if_pos hm, set_get' (by rw [mixTo_len]; exact hj)]
      · by_cases hk : k = j
        · subst hk; rw [if_pos rfl, if_pos ⟨by omega, hm⟩]
        · rw [if_neg hk, ih]
          by_cases hc : j < k ∧ M[j + 1]?.getD false = true
          · rw [if_pos hc, if_pos ⟨by omega, hc.2⟩]
          · rw [if_neg hc, if_neg (fun h => hc ⟨by omega, h.2⟩)]
    · rw [if_neg hm, ih]
      by_cases hc : j < k ∧ M[j + 1]?.getD false = true
      · rw [if_pos hc, if_pos ⟨by omega, hc.2⟩]
      · rw [if_neg hc, if_neg]
        rintro ⟨h1, h2⟩
        rcases Nat.lt_or_ge j k with h | h
        · exact hc ⟨h, h2⟩
        · have : j = k := by omega
          subst this
          exact hm h2

end Go.Gate
