/- Plain: literals, clauses, what a cleaned clause is. -/
import Derived.Test.YtcibiidebknkgaaGreatSep
set_option linter.unusedVariables false
set_option linter.unusedSimpArgs false
namespace Go.Lit

/-- Is it a literal? -/
def one (x : Int) : Bool := decide (x ≠ 0 ∧ -262144 ≤ x ∧ x ≤ 262144)
theorem one_iff {x : Int} : one x = true ↔ x ≠ 0 ∧ -262144 ≤ x ∧ x ≤ 262144 := by simp [one]
theorem one_not {x : Int} : one x = false ↔ x = 0 ∨ x < -262144 ∨ 262144 < x := by
  rw [one, decide_eq_false_iff_not]; omega
theorem one_neg {x : Int} : one (-x) = one x := by unfold one; rw [decide_eq_decide]; omega
def var (x : Int) : Int := if one x then (if x < 0 then -x else x) else 0
def place (x : Int) : Int := 2 * var x + (if x < 0 ∧ 0 < 2 * var x then 1 else 0)
theorem place_one {x : Int} (h : one x = true) : place x = if x < 0 then 2 * (-x) + 1 else 2 * x := by
  have := one_iff.1 h
  unfold place var
  rw [h]
  simp only [if_true]
  by_cases h0 : x < 0
  · simp only [h0, if_true, true_and]; rw [if_pos (by omega)]
  · simp only [h0, if_false, false_and]; omega
theorem place_inj {x y : Int} (hx : one x = true) (hy : one y = true) (h : place x = place y) : x = y := by
  rw [place_one hx, place_one hy] at h
  split at h <;> split at h <;> omega
def notL (x : Int) : Int := if one x then -x else 0
/-- The literal of a number. -/
def at_ (p : Int) : Int := if p < 2 ∨ 524289 < p then 0 else if p % 2 = 1 then -(p / 2) else p / 2

/-- A cleaned clause: each once, in order. -/
structure Clean (xs out : List Int) : Prop where
  asc : out.Pairwise fun x y => place x < place y
  mem : ∀ x, x ∈ out ↔ x ∈ xs

theorem asc_same : ∀ {l l' : List Int}, (∀ x ∈ l, one x = true) → l.Pairwise (fun x y => place x < place y) → l'.Pairwise (fun x y => place x < place y) → (∀ x, x ∈ l ↔ x ∈ l') → l = l'
  | [], [], _, _, _, _ => rfl
  | [], y :: l', _, _, _, h => by have := (h y).2 (List.mem_cons_self ..); cases this
  | x :: l, [], _, _, _, h => by have := (h x).1 (List.mem_cons_self ..); cases this
  | x :: l, y :: l', ho, h1, h2, h => by
    rw [List.pairwise_cons] at h1 h2
    have hxy : x = y := by
      rcases List.mem_cons.1 ((h x).1 (List.mem_cons_self ..)) with hx | hx
      · exact hx
      · rcases List.mem_cons.1 ((h y).2 (List.mem_cons_self ..)) with hy | hy
        · exact hy.symm
        · have a := h1.1 y hy
          have b := h2.1 x hx
          omega
    subst hxy
    congr 1
    refine asc_same (fun z hz => ho z (List.mem_cons_of_mem _ hz)) h1.2 h2.2 fun z => ?_
    constructor
    · intro hz
      rcases List.mem_cons.1 ((h z).1 (List.mem_cons_of_mem _ hz)) with e | e
      · subst e; have := h1.1 z hz; omega
      · exact e
    · intro hz
      rcases List.mem_cons.1 ((h z).2 (List.mem_cons_of_mem _ hz)) with e | e
      · subst e; have := h2.1 z hz; omega
      · exact e
theorem Clean.same {xs ys a b : List Int} (ho : ∀ x ∈ xs, one x = true) (ha : Clean xs a) (hb : Clean ys b) (h : ∀ x, x ∈ xs ↔ x ∈ ys) : a = b :=
  asc_same (fun x hx => ho x ((ha.mem x).1 hx)) ha.asc hb.asc fun x => by rw [ha.mem, hb.mem, h]

/-- Is a variable there by both signs? -/
def bothB (xs : List Int) : Bool := xs.any fun x => decide (-x ∈ xs)
theorem bothB_iff {xs : List Int} : bothB xs = true ↔ ∃ x, x ∈ xs ∧ -x ∈ xs := by simp [bothB]
theorem bothB_congr {xs ys : List Int} (h : ∀ x, x ∈ xs ↔ x ∈ ys) : bothB xs = bothB ys := by
  rw [Bool.eq_iff_iff, bothB_iff, bothB_iff]
  constructor
  · rintro ⟨x, h1, h2⟩; exact ⟨x, (h x).1 h1, (h _).1 h2⟩
  · rintro ⟨x, h1, h2⟩; exact ⟨x, (h x).2 h1, (h _).2 h2⟩

/-- Neighbours that are alike go. -/
def squeeze : List Int → List Int
  | [] => []
  | [x] => [x]
  | x :: y :: r => if x = y then squeeze (y :: r) else x :: squeeze (y :: r)
theorem squeeze_mem : ∀ {l : List Int} {x : Int}, x ∈ squeeze l ↔ x ∈ l
  | [], x => Iff.rfl
  | [y], x => Iff.rfl
  | y :: z :: r, x => by
    unfold squeeze
    split
    · rename_i h
      subst h
      rw [squeeze_mem]
      simp
    · rw [List.mem_cons, squeeze_mem]
      simp only [List.mem_cons]
theorem squeeze_asc : ∀ {l : List Int}, (∀ x ∈ l, one x = true) → l.Pairwise (fun x y => place x ≤ place y) → (squeeze l).Pairwise (fun x y => place x < place y)
  | [], _, _ => List.Pairwise.nil
  | [x], _, _ => List.pairwise_singleton _ _
  | x :: y :: r, ho, h => by
    have ih := squeeze_asc (l := y :: r) (fun z hz => ho z (List.mem_cons_of_mem _ hz)) (List.pairwise_cons.1 h).2
    unfold squeeze
    split
    · exact ih
    · rename_i hne
      rw [List.pairwise_cons]
      refine ⟨fun z hz => ?_, ih⟩
      rw [squeeze_mem] at hz
      have h1 := (List.pairwise_cons.1 h).1 z hz
      have hxy := (List.pairwise_cons.1 h).1 y (List.mem_cons_self ..)
      have hx := ho x (List.mem_cons_self ..)
      have hy := ho y (List.mem_cons_of_mem _ (List.mem_cons_self ..))
      rcases Int.lt_or_eq_of_le hxy with hlt | heq
      · rcases List.mem_cons.1 hz with rfl | hz2
        · exact hlt
        · have := (List.pairwise_cons.1 (List.pairwise_cons.1 h).2).1 z hz2
          omega
      · exact (hne (place_inj hx hy heq)).elim
theorem squeeze_clean {xs l : List Int} (ho : ∀ x ∈ xs, one x = true) (hs : l.Pairwise (fun x y => place x ≤ place y)) (hp : ∀ x, x ∈ l ↔ x ∈ xs) : Clean xs (squeeze l) :=
  ⟨squeeze_asc (fun x hx => ho x ((hp x).1 hx)) hs, fun x => by rw [squeeze_mem, hp]⟩

theorem squeeze_snoc : ∀ (l : List Int) (y x : Int), squeeze (l ++ [y] ++ [x]) = if x = y then squeeze (l ++ [y]) else squeeze (l ++ [y]) ++ [x]
  | [], y, x => by
    by_cases h : x = y
    · subst h; simp [squeeze]
    · have : ¬ y = x := fun e => h e.symm
      simp [squeeze, h, this]
  | [z], y, x => by
    by_cases hz : z = y
    · subst hz
      have := squeeze_snoc [] z x
      simpa [squeeze] using this
    · by_cases h : x = y
      · subst h; simp [squeeze, hz]
      · have : ¬ y = x := fun e => h e.symm
        simp [squeeze, hz, h, this]
  | z :: u :: l, y, x => by
    have ih := squeeze_snoc (u :: l) y x
    simp only [List.cons_append] at ih ⊢
    by_cases hz : z = u
    · rw [squeeze, if_pos hz, ih, squeeze, if_pos hz]
    · rw [squeeze, if_neg hz, ih, squeeze, if_neg hz]
      split <;> rfl
theorem squeeze_take {xs : List Int} {m : Nat} (h1 : 1 ≤ m) (h2 : m < xs.length) : squeeze (xs.take (m + 1)) = if xs.getD m 0 = xs.getD (m - 1) 0 then squeeze (xs.take m) else squeeze (xs.take m) ++ [xs.getD m 0] := by
  obtain ⟨q, rfl⟩ : ∃ q, m = q + 1 := ⟨m - 1, by omega⟩
  have e1 : xs.take (q + 1) = xs.take q ++ [xs.getD q 0] := by rw [List.take_add_one, List.getD_eq_getElem?_getD, List.getElem?_eq_getElem (by omega)]; rfl
  have e2 : xs.take (q + 1 + 1) = xs.take (q + 1) ++ [xs.getD (q + 1) 0] := by rw [List.take_add_one (i := q + 1), List.getD_eq_getElem?_getD, List.getElem?_eq_getElem (by omega)]; rfl
  rw [e2, e1, squeeze_snoc, Nat.add_sub_cancel]
theorem squeeze_pre {xs : List Int} : ∀ {m : Nat}, m ≤ xs.length → (∀ j, 0 < j → j < m → xs.getD j 0 ≠ xs.getD (j - 1) 0) → squeeze (xs.take m) = xs.take m
  | 0, _, _ => rfl
  | 1, h, _ => by
    rw [List.take_add_one, List.take_zero, List.getElem?_eq_getElem (by omega)]; rfl
  | m + 2, h, hn => by
    rw [squeeze_take (by omega) (by omega), if_neg (hn (m + 1) (by omega) (by omega)), squeeze_pre (by omega) (fun j h1 h2 => hn j h1 (by omega)), List.take_add_one (i := m + 1), List.getD_eq_getElem?_getD, List.getElem?_eq_getElem (by omega)]
    rfl
theorem squeeze_len : ∀ l : List Int, (squeeze l).length ≤ l.length
  | [] => Nat.le_refl _
  | [x] => Nat.le_refl _
  | x :: y :: r => by
    have := squeeze_len (y :: r)
    unfold squeeze
    split
    · simp only [List.length_cons] at this ⊢; omega
    · simp only [List.length_cons] at this ⊢; omega

/-- In a cleaned clause the two signs of a variable are neighbours. -/
def nearB (l : List Int) : Nat → Bool
  | 0 => false
  | i + 1 => nearB l i || decide (0 < i ∧ l.getD i 0 = -l.getD (i - 1) 0)
theorem nearB_iff {l : List Int} : ∀ {n : Nat}, nearB l n = true ↔ ∃ i, 0 < i ∧ i < n ∧ l.getD i 0 = -l.getD (i - 1) 0
  | 0 => by simp [nearB]
  | n + 1 => by
    simp only [nearB, Bool.or_eq_true, decide_eq_true_eq]
    rw [nearB_iff]
    constructor
    · rintro (⟨i, h1, h2, h3⟩ | ⟨h1, h2⟩)
      · exact ⟨i, h1, by omega, h3⟩
      · exact ⟨n, h1, by omega, h2⟩
    · rintro ⟨i, h1, h2, h3⟩
      by_cases hi : i = n
      · subst hi; exact .inr ⟨h1, h3⟩
      · exact .inl ⟨i, h1, by omega, h3⟩
theorem near_both {xs out : List Int} (ho : ∀ x ∈ xs, one x = true) (h : Clean xs out) : nearB out out.length = bothB xs := by
  have ho2 : ∀ x ∈ out, one x = true := fun x hx => ho x ((h.mem x).1 hx)
  rw [Bool.eq_iff_iff, nearB_iff, bothB_iff]
  constructor
  · rintro ⟨i, h1, h2, h3⟩
    have e1 : out.getD i 0 ∈ out := by rw [List.getD_eq_getElem?_getD, List.getElem?_eq_getElem h2]; exact List.getElem_mem h2
    have e2 : out.getD (i - 1) 0 ∈ out := by rw [List.getD_eq_getElem?_getD, List.getElem?_eq_getElem (by omega)]; exact List.getElem_mem _
    refine ⟨out.getD (i - 1) 0, (h.mem _).1 e2, ?_⟩
    rw [← h3]
    exact (h.mem _).1 e1
  · rintro ⟨x, h1, h2⟩
    obtain ⟨v, hv, m1, m2⟩ : ∃ v, 0 < v ∧ v ∈ out ∧ -v ∈ out := by
      have hx := one_iff.1 (ho x h1)
      rcases Int.lt_trichotomy x 0 with hlt | heq | hgt
      · exact ⟨-x, by omega, (h.mem _).2 h2, by rw [Int.neg_neg]; exact (h.mem _).2 h1⟩
      · exact (hx.1 heq).elim
      · exact ⟨x, hgt, (h.mem _).2 h1, (h.mem _).2 h2⟩
    obtain ⟨i, hi⟩ := List.getElem?_of_mem m1
    obtain ⟨j, hj⟩ := List.getElem?_of_mem m2
    obtain ⟨hil, ei⟩ := List.getElem?_eq_some_iff.1 hi
    obtain ⟨hjl, ej⟩ := List.getElem?_eq_some_iff.1 hj
    have pv := place_one (ho2 v m1)
    have pw := place_one (ho2 _ m2)
    rw [if_neg (by omega)] at pv
    rw [if_pos (by omega)] at pw
    have hasc := h.asc
    rw [List.pairwise_iff_getElem] at hasc
    have hij : i < j := by
      rcases Nat.lt_trichotomy i j with hlt | heq | hgt
      · exact hlt
      · subst heq; rw [ei] at ej; omega
      · have := hasc j i hjl hil hgt
        rw [ei, ej] at this
        omega
    have hj1 : j = i + 1 := by
      rcases Nat.lt_or_ge (i + 1) j with hlt | hge
      · have a := hasc i (i + 1) hil (by omega) (by omega)
        have b := hasc (i + 1) j (by omega) hjl hlt
        rw [ei] at a
        rw [ej] at b
        omega
      · omega
    subst hj1
    refine ⟨i + 1, by omega, hjl, ?_⟩
    rw [Nat.add_sub_cancel, List.getD_eq_getElem?_getD, List.getD_eq_getElem?_getD, hi, hj]; rfl

end Go.Lit
