/- The heap of those that wait, plain. -/
import Derived.Test.YtcibiidebknkgaaGreatSep
set_option linter.unusedVariables false
set_option linter.unusedSimpArgs false
namespace Go.Rank
open Go Go.Vc

/-- Which of two comes first: by falling scores, of the same ones by rising numbers. -/
def lt (sc : List Int) (a b : Nat) : Bool := if sc.getD a 0 = sc.getD b 0 then decide (a < b) else decide (sc.getD b 0 < sc.getD a 0)

theorem lt_irrefl (sc : List Int) (a : Nat) : lt sc a a = false := by simp [lt]
theorem lt_trans {sc : List Int} {a b c : Nat} (h1 : lt sc a b = true) (h2 : lt sc b c = true) : lt sc a c = true := by
  unfold lt at *
  split at h1 <;> split at h2 <;> simp only [decide_eq_true_eq] at h1 h2 <;> split <;> simp only [decide_eq_true_eq] <;> omega
theorem lt_total {sc : List Int} {a b : Nat} (h : a ≠ b) : lt sc a b = true ∨ lt sc b a = true := by
  unfold lt
  by_cases h1 : sc.getD a 0 = sc.getD b 0
  · rw [if_pos h1, if_pos h1.symm]; simp only [decide_eq_true_eq]; omega
  · rw [if_neg h1, if_neg (fun h => h1 h.symm)]; simp only [decide_eq_true_eq]; omega
theorem lt_asymm {sc : List Int} {a b : Nat} (h : lt sc a b = true) : lt sc b a = false := by
  cases h2 : lt sc b a with
  | false => rfl
  | true => have := lt_trans h h2; rw [lt_irrefl] at this; cases this
theorem not_lt_trans {sc : List Int} {a b c : Nat} (h1 : lt sc b a = false) (h2 : lt sc c b = false) : lt sc c a = false := by
  cases h : lt sc c a with
  | false => rfl
  | true =>
    by_cases hab : a = b
    · subst hab; rw [h] at h2; cases h2
    · rcases lt_total (sc := sc) hab with h3 | h3
      · rw [lt_trans h h3] at h2; cases h2
      · rw [h3] at h1; cases h1

def at_ (L : List Nat) (i : Nat) : Nat := L.getD i 0
def swap (L : List Nat) (i j : Nat) : List Nat := (L.set i (at_ L j)).set j (at_ L i)

theorem swap_len (L : List Nat) (i j : Nat) : (swap L i j).length = L.length := by simp [swap]
theorem swap_at {L : List Nat} {i j : Nat} (hi : i < L.length) (hj : j < L.length) (k : Nat) : at_ (swap L i j) k = if k = j then at_ L i else if k = i then at_ L j else at_ L k := by
  unfold at_ swap
  rw [List.getD_eq_getElem?_getD, List.getElem?_set, List.length_set]
  by_cases h1 : k = j
  · subst h1; rw [if_pos rfl, if_pos hj, if_pos rfl]; rfl
  · rw [if_neg (fun h => h1 h.symm), if_neg h1, List.getElem?_set]
    by_cases h2 : k = i
    · subst h2; rw [if_pos rfl, if_pos hi, if_pos rfl]; rfl
    · rw [if_neg (fun h => h2 h.symm), if_neg h2, List.getD_eq_getElem?_getD]

theorem swap_self {L : List Nat} {i : Nat} (hi : i < L.length) : swap L i i = L := by
  apply List.ext_getElem?
  intro k
  unfold swap at_
  rw [List.getElem?_set, List.length_set, List.getElem?_set]
  by_cases h : i = k
  · subst h; rw [if_pos rfl, if_pos hi, List.getD_eq_getElem?_getD, List.getElem?_eq_getElem hi]; rfl
  · rw [if_neg h, if_neg h]

theorem swap_perm {L : List Nat} {i j : Nat} (hi : i < L.length) (hj : j < L.length) : (swap L i j).Perm L := by
  rw [List.perm_iff_count]
  intro a
  unfold swap at_
  by_cases h : i = j
  · subst h
    have := swap_self hi
    unfold swap at_ at this
    rw [this]
  · have e1 : L.getD i 0 = L[i] := by rw [List.getD_eq_getElem?_getD, List.getElem?_eq_getElem hi]; rfl
    have e2 : L.getD j 0 = L[j] := by rw [List.getD_eq_getElem?_getD, List.getElem?_eq_getElem hj]; rfl
    rw [List.count_set (by rw [List.length_set]; exact hj), List.count_set hi, e1, e2, List.getElem_set_ne (by omega)]
    have c1 : L[i] == a → 0 < List.count a L := fun h => by
      have : L[i] = a := by simpa using h
      rw [← this]; exact List.count_pos_iff.2 (List.getElem_mem hi)
    have c2 : L[j] == a → 0 < List.count a L := fun h => by
      have : L[j] = a := by simpa using h
      rw [← this]; exact List.count_pos_iff.2 (List.getElem_mem hj)
    by_cases h1 : (L[i] == a) = true <;> by_cases h2 : (L[j] == a) = true <;> simp only [h1, h2, if_true, Bool.false_eq_true, if_false] <;> (try have := c1 h1) <;> (try have := c2 h2) <;> omega

def par (i : Nat) : Nat := (i - 1) / 2
def ok (sc : List Int) (L : List Nat) (k : Nat) : Prop := lt sc (at_ L k) (at_ L (par k)) = false
/-- A heap, below a node and of so many. -/
def HeapFrom (sc : List Int) (r n : Nat) (L : List Nat) : Prop := ∀ k, 0 < k → k < n → r ≤ par k → ok sc L k
def Heap (sc : List Int) (L : List Nat) : Prop := HeapFrom sc 0 L.length L

theorem heap_top {sc : List Int} {L : List Nat} (h : Heap sc L) : ∀ {i : Nat}, i < L.length → lt sc (at_ L i) (at_ L 0) = false
  | i, hi => by
    induction i using Nat.strongRecOn with
    | _ i ih =>
      by_cases h0 : i = 0
      · subst h0; exact lt_irrefl _ _
      · have h1 := h i (by omega) hi (Nat.zero_le _)
        have h2 := ih (par i) (by unfold par; omega) (by unfold par; omega)
        exact not_lt_trans h2 h1

/-! Up -/
def upL (sc : List Int) (L : List Nat) (j : Nat) : List Nat :=
  if h : j = 0 then L else if lt sc (at_ L j) (at_ L (par j)) = true then upL sc (swap L (par j) j) (par j) else L
termination_by j
decreasing_by unfold par; omega

structure UpInv (sc : List Int) (L : List Nat) (j : Nat) : Prop where
  here : j < L.length
  rest : ∀ k, 0 < k → k < L.length → k ≠ j → ok sc L k
  kids : 0 < j → ∀ c, 0 < c → c < L.length → par c = j → lt sc (at_ L c) (at_ L (par j)) = false

theorem up_step {sc : List Int} {L : List Nat} {j : Nat} (h : UpInv sc L j) (h0 : 0 < j) (hl : lt sc (at_ L j) (at_ L (par j)) = true) : UpInv sc (swap L (par j) j) (par j) := by
  have hj := h.here
  have hp : par j < j := by unfold par; omega
  have hsw := swap_at (L := L) (i := par j) (j := j) (by omega) hj
  refine ⟨by rw [swap_len]; omega, ?_, ?_⟩
  · intro k k0 hk hkp
    rw [swap_len] at hk
    unfold ok
    rw [hsw k, hsw (par k)]
    by_cases h1 : k = j
    · subst h1
      rw [if_pos rfl, if_neg (by omega), if_pos rfl]
      exact lt_asymm hl
    · rw [if_neg h1, if_neg hkp]
      by_cases h2 : par k = j
      · rw [if_pos h2]; exact h.kids h0 k k0 hk h2
      · rw [if_neg h2]
        by_cases h3 : par k = par j
        · rw [if_pos h3]
          have := h.rest k k0 hk h1
          unfold ok at this
          rw [h3] at this
          exact not_lt_trans (lt_asymm hl) this
        · rw [if_neg h3]; exact h.rest k k0 hk h1
  · intro hp0 c c0 hc hcp
    rw [swap_len] at hc
    have hcp' : c ≠ par j := by intro e; rw [e] at hcp; unfold par at hcp hp0; omega
    have hpp : par (par j) < par j := by unfold par at hp0 ⊢; omega
    rw [hsw (par (par j)), if_neg (by omega), if_neg (by omega), hsw c]
    have hpok := h.rest (par j) hp0 (by omega) (by omega)
    unfold ok at hpok
    by_cases h1 : c = j
    · rw [if_pos h1]; exact hpok
    · rw [if_neg h1, if_neg hcp']
      have := h.rest c c0 hc h1
      unfold ok at this
      rw [hcp] at this
      exact not_lt_trans hpok this

theorem upL_spec {sc : List Int} {L : List Nat} {j : Nat} (h : UpInv sc L j) : Heap sc (upL sc L j) ∧ (upL sc L j).Perm L := by
  induction j using Nat.strongRecOn generalizing L with
  | _ j ih =>
    unfold upL
    split
    · rename_i h0; subst h0
      exact ⟨fun k k0 hk _ => h.rest k k0 hk (by omega), List.Perm.refl _⟩
    · rename_i h0
      split
      · rename_i hl
        have hp : par j < j := by unfold par; omega
        obtain ⟨h1, h2⟩ := ih (par j) hp (up_step h (by omega) hl)
        exact ⟨h1, h2.trans (swap_perm (by have := h.here; omega) h.here)⟩
      · rename_i hl
        refine ⟨fun k k0 hk _ => ?_, List.Perm.refl _⟩
        by_cases hkj : k = j
        · subst hkj; unfold ok; simpa using hl
        · exact h.rest k k0 hk hkj

theorem upL_len (sc : List Int) (L : List Nat) (j : Nat) : (upL sc L j).length = L.length := by
  induction j using Nat.strongRecOn generalizing L with
  | _ j ih =>
    unfold upL
    split
    · rfl
    · rename_i h0
      split
      · rw [ih (par j) (by unfold par; omega), swap_len]
      · rfl

/-! Down -/
/-- Which child goes up, if one does. -/
def kid (sc : List Int) (L : List Nat) (i n : Nat) : Nat := if 2 * i + 2 < n ∧ lt sc (at_ L (2 * i + 2)) (at_ L (2 * i + 1)) = true then 2 * i + 2 else 2 * i + 1

theorem kid_cases (sc : List Int) (L : List Nat) (i n : Nat) : (kid sc L i n = 2 * i + 1) ∨ (kid sc L i n = 2 * i + 2 ∧ 2 * i + 2 < n) := by
  unfold kid; split
  · rename_i h; exact .inr ⟨rfl, h.1⟩
  · exact .inl rfl

def downL (sc : List Int) (L : List Nat) (i n : Nat) : List Nat × Nat :=
  if h : n ≤ 2 * i + 1 then (L, i) else if lt sc (at_ L (kid sc L i n)) (at_ L i) = true then downL sc (swap L i (kid sc L i n)) (kid sc L i n) n else (L, i)
termination_by n - i
decreasing_by rcases kid_cases sc L i n with h | ⟨h, _⟩ <;> omega

structure DownInv (sc : List Int) (r : Nat) (L : List Nat) (i n : Nat) : Prop where
  size : n ≤ L.length
  root : r ≤ i
  rest : ∀ k, 0 < k → k < n → r ≤ par k → par k ≠ i → ok sc L k
  kids : 0 < i → r ≤ par i → ∀ c, 0 < c → c < n → par c = i → lt sc (at_ L c) (at_ L (par i)) = false

theorem kid_least {sc : List Int} {L : List Nat} {i n : Nat} (h : 2 * i + 1 < n) {c : Nat} (c0 : 0 < c) (hc : c < n) (hp : par c = i) : lt sc (at_ L c) (at_ L (kid sc L i n)) = false := by
  have hcc : c = 2 * i + 1 ∨ c = 2 * i + 2 := by unfold par at hp; omega
  unfold kid
  split
  · rename_i hk
    rcases hcc with rfl | rfl
    · exact lt_asymm hk.2
    · exact lt_irrefl _ _
  · rename_i hk
    rcases hcc with rfl | rfl
    · exact lt_irrefl _ _
    · cases hl : lt sc (at_ L (2 * i + 2)) (at_ L (2 * i + 1)) with
      | false => rfl
      | true => exact absurd ⟨hc, hl⟩ hk

theorem down_step {sc : List Int} {r : Nat} {L : List Nat} {i n : Nat} (h : DownInv sc r L i n) (hn : 2 * i + 1 < n) (hl : lt sc (at_ L (kid sc L i n)) (at_ L i) = true) :
    DownInv sc r (swap L i (kid sc L i n)) (kid sc L i n) n := by
  have hsz := h.size
  have hk := kid_cases sc L i n
  have hkn : kid sc L i n < n := by omega
  have hpk : par (kid sc L i n) = i := by unfold par; omega
  have hleast := fun c => kid_least (sc := sc) (L := L) (i := i) (n := n) hn (c := c)
  generalize kid sc L i n = q at *
  have hsw := swap_at (L := L) (i := i) (j := q) (by omega) (by omega)
  have hiq : i < q := by omega
  refine ⟨by rw [swap_len]; exact hsz, by have := h.root; omega, ?_, ?_⟩
  · intro k k0 hkn' hr hkq
    unfold ok
    rw [hsw k, hsw (par k), if_neg hkq]
    by_cases h1 : k = q
    · subst h1
      rw [if_pos rfl, if_pos hpk]
      exact lt_asymm hl
    · rw [if_neg h1]
      by_cases h2 : k = i
      · rw [if_pos h2]
        have hki : par k ≠ i := by unfold par; omega
        rw [if_neg hki, h2]
        exact h.kids (by omega) (by rw [← h2]; exact hr) q (by omega) hkn hpk
      · rw [if_neg h2]
        by_cases h3 : par k = i
        · rw [if_pos h3]
          exact hleast k k0 hkn' h3
        · rw [if_neg h3]; exact h.rest k k0 hkn' hr h3
  · intro q0 hr c c0 hc hpc
    rw [hsw c, hsw (par q), hpk]
    have hcq : c ≠ q := by intro e; rw [e, hpk] at hpc; omega
    have hci : c ≠ i := by intro e; rw [e] at hpc; unfold par at hpc; omega
    rw [if_neg hcq, if_neg hci, if_neg (by omega), if_pos rfl]
    have := h.rest c c0 hc (by rw [hpc]; have := h.root; omega) (by omega)
    unfold ok at this
    rw [hpc] at this
    exact this

theorem downL_spec {sc : List Int} {r : Nat} {L : List Nat} {i n : Nat} (h : DownInv sc r L i n) (hi : i < L.length ∨ n ≤ 2 * i + 1) : HeapFrom sc r n (downL sc L i n).1 ∧ (downL sc L i n).1.Perm L ∧ (∀ k, n ≤ k → at_ (downL sc L i n).1 k = at_ L k) := by
  generalize hm : n - i = m
  induction m using Nat.strongRecOn generalizing L i with
  | _ m ih =>
    unfold downL
    split
    · rename_i hn
      refine ⟨fun k k0 hk hr => h.rest k k0 hk hr (by unfold par; omega), List.Perm.refl _, fun _ _ => rfl⟩
    · rename_i hn
      have hk := kid_cases sc L i n
      have hsz := h.size
      split
      · rename_i hl
        obtain ⟨h1, h2, h3⟩ := ih (n - kid sc L i n) (by omega) (down_step h (by omega) hl) (.inl (by rw [swap_len]; omega)) rfl
        refine ⟨h1, h2.trans (swap_perm (by omega) (by omega)), fun k hk' => ?_⟩
        rw [h3 k hk', swap_at (by omega) (by omega), if_neg (by omega), if_neg (by omega)]
      · rename_i hl
        refine ⟨fun k k0 hk' hr => ?_, List.Perm.refl _, fun _ _ => rfl⟩
        by_cases hp : par k = i
        · unfold ok
          rw [hp]
          exact not_lt_trans (by simpa using hl) (kid_least (by omega) k0 hk' hp)
        · exact h.rest k k0 hk' hr hp

theorem downL_len (sc : List Int) (L : List Nat) (i n : Nat) : (downL sc L i n).1.length = L.length := by
  generalize hm : n - i = m
  induction m using Nat.strongRecOn generalizing L i with
  | _ m ih =>
    unfold downL
    split
    · rfl
    · have hk := kid_cases sc L i n
      split
      · rw [ih (n - kid sc L i n) (by omega) (L := swap L i (kid sc L i n)) (i := kid sc L i n) rfl, swap_len]
      · rfl

theorem downL_high {sc : List Int} {L : List Nat} {i n : Nat} (h : n ≤ L.length) : ∀ k, n ≤ k → at_ (downL sc L i n).1 k = at_ L k := by
  generalize hm : n - i = m
  induction m using Nat.strongRecOn generalizing L i with
  | _ m ih =>
    intro k hk
    unfold downL
    split
    · rfl
    · have hc := kid_cases sc L i n
      split
      · rw [ih (n - kid sc L i n) (by omega) (L := swap L i (kid sc L i n)) (i := kid sc L i n) (by rw [swap_len]; exact h) rfl k hk, swap_at (by omega) (by omega), if_neg (by omega), if_neg (by omega)]
      · rfl

/-- Where the children are in order nothing moves. -/
theorem downL_stay {sc : List Int} {L : List Nat} {i n : Nat} (h : ∀ c, 0 < c → c < n → par c = i → lt sc (at_ L c) (at_ L i) = false) : downL sc L i n = (L, i) := by
  unfold downL
  split
  · rfl
  · have hk := kid_cases sc L i n
    rw [if_neg]
    rw [h (kid sc L i n) (by omega) (by omega) (by unfold par; omega)]
    exact Bool.false_ne_true

/-! Init -/
def initL (sc : List Int) (n : Nat) : Nat → List Nat → List Nat
  | 0, L => L
  | i + 1, L => initL sc n i (downL sc L i n).1

theorem initL_spec {sc : List Int} {n : Nat} : ∀ {i : Nat} {L : List Nat}, n = L.length → HeapFrom sc i n L → 2 * i ≤ n → HeapFrom sc 0 n (initL sc n i L) ∧ (initL sc n i L).Perm L
  | 0, L, hn, h, _ => ⟨h, List.Perm.refl _⟩
  | i + 1, L, hn, h, hi => by
    obtain ⟨h1, h2, _⟩ := downL_spec (sc := sc) (r := i) (L := L) (i := i) (n := n) ⟨by omega, Nat.le_refl _, fun k k0 hk hr hp => h k k0 hk (by omega), fun i0 hr => absurd hr (by unfold par; omega)⟩ (.inl (by omega))
    obtain ⟨h3, h4⟩ := initL_spec (i := i) (L := (downL sc L i n).1) (by rw [downL_len]; exact hn) h1 (by omega)
    exact ⟨h3, h4.trans h2⟩
theorem pigeons : ∀ (n : Nat) (l : List Nat), l.Pairwise (· ≠ ·) → (∀ x ∈ l, 1 ≤ x ∧ x ≤ n) → l.length ≤ n
  | 0, l, _, h => by
    cases l with
    | nil => exact Nat.le_refl _
    | cons x l => have := h x (by simp); omega
  | n + 1, l, hp, h => by
    have hl : (l.filter fun x => decide (x ≠ n + 1)).length ≤ n := pigeons n _ (hp.filter _) (by
      intro x hx
      simp only [List.mem_filter, decide_eq_true_eq] at hx
      have := h x hx.1; omega)
    have hc : (l.filter fun x => decide (x = n + 1)).length ≤ 1 := by
      have hq := hp.filter fun x => decide (x = n + 1)
      generalize hm : l.filter (fun x => decide (x = n + 1)) = m at hq
      have hall : ∀ x ∈ m, x = n + 1 := by
        intro x hx
        rw [← hm] at hx
        simpa using (List.mem_filter.1 hx).2
      match m, hq, hall with
      | [], _, _ => simp
      | [x], _, _ => simp
      | x :: y :: r, hq, hall =>
        have := (List.pairwise_cons.1 hq).1 y (by simp)
        rw [hall x (by simp), hall y (by simp)] at this
        exact absurd rfl this
    have hs : l.length = (l.filter fun x => decide (x = n + 1)).length + (l.filter fun x => decide (x ≠ n + 1)).length := by
      clear hp h hl hc
      induction l with
      | nil => rfl
      | cons x l ih =>
        by_cases hx : x = n + 1
        · rw [List.filter_cons_of_pos (by simpa using hx), List.filter_cons_of_neg (by simpa using hx)]; simp only [List.length_cons, ih]; omega
        · rw [List.filter_cons_of_neg (by simpa using hx), List.filter_cons_of_pos (by simpa using hx)]; simp only [List.length_cons, ih]; omega
    omega

end Go.Rank
