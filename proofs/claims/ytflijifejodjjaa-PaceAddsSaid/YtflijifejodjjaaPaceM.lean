/- Luby's numbers, in plain Lean. -/
namespace Go.Luby

def lubyF : Nat → Nat → Nat
  | 0, _ => 0
  | f + 1, i => if i = 2 ^ Nat.log2 (i + 1) - 1 then 2 ^ Nat.log2 (i + 1) / 2 else lubyF f (i - (2 ^ Nat.log2 (i + 1) - 1))

/-- One of Luby's numbers. -/
def luby (i : Nat) : Nat := lubyF i i

theorem pow_log {n : Nat} (h : n ≠ 0) : 2 ^ Nat.log2 n ≤ n := Nat.log2_self_le h
theorem log_lt (n : Nat) : n < 2 ^ (Nat.log2 n + 1) := Nat.lt_log2_self

theorem log_pos {i : Nat} (h : 1 ≤ i) : 2 ≤ 2 ^ Nat.log2 (i + 1) := by
  have h1 := log_lt (i + 1)
  rw [Nat.pow_succ] at h1
  have : 1 ≤ Nat.log2 (i + 1) := by
    rcases Nat.eq_zero_or_pos (Nat.log2 (i + 1)) with h0 | h0
    · rw [h0] at h1; omega
    · exact h0
  calc 2 = 2 ^ 1 := rfl
    _ ≤ _ := Nat.pow_le_pow_right (by omega) this

theorem lubyF_fuel : ∀ (f g i : Nat), i ≤ f → i ≤ g → 1 ≤ i → lubyF f i = lubyF g i
  | 0, _, i, h, _, h1 => by omega
  | _ + 1, 0, i, _, h, h1 => by omega
  | f + 1, g + 1, i, hf, hg, h1 => by
    unfold lubyF
    split
    · rfl
    · rename_i hne
      have h2 := log_pos h1
      have h3 := pow_log (n := i + 1) (by omega)
      exact lubyF_fuel f g _ (by omega) (by omega) (by omega)

theorem luby_eq {i : Nat} (h : 1 ≤ i) : luby i = if i = 2 ^ Nat.log2 (i + 1) - 1 then 2 ^ Nat.log2 (i + 1) / 2 else luby (i - (2 ^ Nat.log2 (i + 1) - 1)) := by
  have h2 := log_pos h
  have h3 := pow_log (n := i + 1) (by omega)
  obtain ⟨f, rfl⟩ : ∃ f, i = f + 1 := ⟨i - 1, by omega⟩
  show lubyF (f + 1) (f + 1) = _
  rw [lubyF]
  split
  · rfl
  · rename_i hne
    exact lubyF_fuel _ _ _ (by omega) (by omega) (by omega)

theorem log2_of {n k : Nat} (h1 : 2 ^ k ≤ n) (h2 : n < 2 ^ (k + 1)) : Nat.log2 n = k := by
  have hn : n ≠ 0 := by have := Nat.two_pow_pos k; omega
  have h3 := pow_log hn
  have h4 := log_lt n
  have a : Nat.log2 n < k + 1 := (Nat.pow_lt_pow_iff_right (by omega : 1 < 2)).1 (Nat.lt_of_le_of_lt h3 h2)
  have b : k < Nat.log2 n + 1 := (Nat.pow_lt_pow_iff_right (by omega : 1 < 2)).1 (Nat.lt_of_le_of_lt h1 h4)
  omega

/-- A power of two less one. -/
theorem luby_top (k : Nat) : luby (2 ^ (k + 1) - 1) = 2 ^ k := by
  have h := Nat.two_pow_pos k
  have hp : (2 : Nat) ^ (k + 1) = 2 * 2 ^ k := by rw [Nat.pow_succ]; omega
  rw [luby_eq (by omega)]
  have hl : Nat.log2 (2 ^ (k + 1) - 1 + 1) = k + 1 := by
    rw [show 2 ^ (k + 1) - 1 + 1 = 2 ^ (k + 1) by omega]
    exact log2_of (Nat.le_refl _) (by rw [Nat.pow_succ 2 (k + 1)]; omega)
  rw [hl, if_pos rfl]
  omega

/-- Each row is the one before it twice, and one more. -/
theorem luby_again {k j : Nat} (h1 : 1 ≤ j) (h2 : j ≤ 2 ^ (k + 1) - 1) : luby (2 ^ (k + 1) - 1 + j) = luby j := by
  have h := Nat.two_pow_pos k
  have hp : (2 : Nat) ^ (k + 1) = 2 * 2 ^ k := by rw [Nat.pow_succ]; omega
  rw [luby_eq (by omega)]
  have hl : Nat.log2 (2 ^ (k + 1) - 1 + j + 1) = k + 1 := log2_of (by omega) (by rw [Nat.pow_succ 2 (k + 1)]; omega)
  rw [hl, if_neg (by omega)]
  congr 1
  omega

theorem luby_pos : ∀ (n i : Nat), i ≤ n → 1 ≤ i → 1 ≤ luby i
  | 0, i, h, h1 => by omega
  | n + 1, i, h, h1 => by
    have h2 := log_pos h1
    have h3 := pow_log (n := i + 1) (by omega)
    rw [luby_eq h1]
    split
    · omega
    · exact luby_pos n _ (by omega) (by omega)

theorem luby_le : ∀ (n i : Nat), i ≤ n → 1 ≤ i → luby i ≤ i
  | 0, i, h, h1 => by omega
  | n + 1, i, h, h1 => by
    have h2 := log_pos h1
    have h3 := pow_log (n := i + 1) (by omega)
    rw [luby_eq h1]
    split
    · omega
    · exact Nat.le_trans (luby_le n _ (by omega) (by omega)) (by omega)

/-- The first numbers together. -/
def sum : Nat → Nat
  | 0 => 0
  | n + 1 => sum n + luby (n + 1)

theorem sum_mono {m n : Nat} (h : m ≤ n) : sum m ≤ sum n := by
  induction n with
  | zero => have : m = 0 := by omega
            subst this; exact Nat.le_refl _
  | succ n ih =>
    by_cases hm : m = n + 1
    · subst hm; exact Nat.le_refl _
    · exact Nat.le_trans (ih (by omega)) (Nat.le_add_right _ _)

theorem sum_add {k : Nat} : ∀ j, j ≤ 2 ^ (k + 1) - 1 → sum (2 ^ (k + 1) - 1 + j) = sum (2 ^ (k + 1) - 1) + sum j
  | 0, _ => rfl
  | j + 1, h => by
    rw [show 2 ^ (k + 1) - 1 + (j + 1) = (2 ^ (k + 1) - 1 + j) + 1 by omega, sum, sum_add j (by omega), sum]
    have := luby_again (k := k) (j := j + 1) (by omega) h
    rw [show 2 ^ (k + 1) - 1 + j + 1 = 2 ^ (k + 1) - 1 + (j + 1) by omega, this]
    omega

theorem sum_top : ∀ k, 2 * sum (2 ^ (k + 1) - 1) = (k + 1) * 2 ^ (k + 1)
  | 0 => rfl
  | k + 1 => by
    have h := Nat.two_pow_pos k
    have hp : (2 : Nat) ^ (k + 1) = 2 * 2 ^ k := by rw [Nat.pow_succ]; omega
    have hp2 : (2 : Nat) ^ (k + 1 + 1) = 2 * 2 ^ (k + 1) := by rw [Nat.pow_succ]; omega
    have ih := sum_top k
    have e : 2 ^ (k + 1 + 1) - 1 = (2 ^ (k + 1) - 1 + (2 ^ (k + 1) - 1)) + 1 := by omega
    rw [e, sum, sum_add _ (Nat.le_refl _), ← e, luby_top]
    rw [hp2]
    generalize 2 ^ (k + 1) = q at *
    generalize sum (q - 1) = s at *
    have : (k + 1 + 1) * (2 * q) = 2 * ((k + 1) * q) + 2 * q := by
      rw [Nat.add_mul (k + 1) 1]; rw [Nat.mul_left_comm]; omega
    omega

/-- Each one is at most all before together, and one. -/
theorem luby_grows : ∀ (n i : Nat), i ≤ n → 1 ≤ i → luby i ≤ sum (i - 1) + 1
  | 0, i, h, h1 => by omega
  | n + 1, i, h, h1 => by
    have h2 := log_pos h1
    have h3 := pow_log (n := i + 1) (by omega)
    rw [luby_eq h1]
    split
    · rename_i he
      generalize hk : Nat.log2 (i + 1) = k at *
      cases k with
      | zero => simp at h2
      | succ k =>
        cases k with
        | zero => simp
        | succ k =>
          have h := Nat.two_pow_pos k
          have hp2 : (2 : Nat) ^ (k + 1 + 1) = 2 * 2 ^ (k + 1) := by rw [Nat.pow_succ]; omega
          have hs := sum_add (k := k) _ (Nat.le_refl _)
          have ht := sum_top k
          rw [he, show 2 ^ (k + 1 + 1) - 1 - 1 = 2 ^ (k + 1) - 1 + (2 ^ (k + 1) - 1) by omega, hs, hp2]
          have : 1 * 2 ^ (k + 1) ≤ (k + 1) * 2 ^ (k + 1) := Nat.mul_le_mul_right _ (by omega)
          omega
    · rename_i he
      have := luby_grows n (i - (2 ^ Nat.log2 (i + 1) - 1)) (by omega) (by omega)
      exact Nat.le_trans this (Nat.add_le_add_right (sum_mono (by omega)) 1)

end Go.Luby
