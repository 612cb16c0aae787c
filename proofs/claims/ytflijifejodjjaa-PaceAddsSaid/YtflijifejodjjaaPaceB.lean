/- The statements of the chapter on pace: each law's function answers true. -/
import Derived.Test.YtflijifejodjjaaPaceW
import Derived.Test.YtflijifejodjjaaClose
namespace Go.Proofs.Ytflijifejodjjaa
open Go Go.Vc Go.Luby Go.ChangeShapes Go.WideShapes Go.ChangeAt Go.RowKit
set_option linter.unusedVariables false

def ones : Nat → Nat
  | 0 => 0
  | n + 1 => ones n + if luby (n + 1) = 1 then 1 else 0

theorem ones_le : ∀ n, ones n ≤ n
  | 0 => Nat.le_refl _
  | n + 1 => by have := ones_le n; unfold ones; split <;> omega

theorem ones_add {k : Nat} : ∀ j, j ≤ 2 ^ (k + 1) - 1 → ones (2 ^ (k + 1) - 1 + j) = ones (2 ^ (k + 1) - 1) + ones j
  | 0, _ => rfl
  | j + 1, h => by
    rw [show 2 ^ (k + 1) - 1 + (j + 1) = (2 ^ (k + 1) - 1 + j) + 1 by omega, ones, ones_add j (by omega), ones]
    have := luby_again (k := k) (j := j + 1) (by omega) h
    rw [show 2 ^ (k + 1) - 1 + j + 1 = 2 ^ (k + 1) - 1 + (j + 1) by omega, this]
    omega

theorem ones_top : ∀ k, 2 * ones (2 ^ (k + 1) - 1) = max (2 ^ (k + 1)) 2
  | 0 => by
    have : luby 1 = 1 := by decide +kernel
    simp [ones, this]
  | k + 1 => by
    have h := Nat.two_pow_pos k
    have hp : (2 : Nat) ^ (k + 1) = 2 * 2 ^ k := by rw [Nat.pow_succ]; omega
    have hp2 : (2 : Nat) ^ (k + 1 + 1) = 2 * 2 ^ (k + 1) := by rw [Nat.pow_succ]; omega
    have ih := ones_top k
    have e : 2 ^ (k + 1 + 1) - 1 = (2 ^ (k + 1) - 1 + (2 ^ (k + 1) - 1)) + 1 := by omega
    rw [e, ones, ones_add _ (Nat.le_refl _), ← e, luby_top, if_neg (by omega)]
    omega

/-- The law's own loop: so many numbers. -/
theorem adds (k : Int) (w : World) : Does Try.prog 5 #[.int .i64 k] w fun v w' => v = .bool true ∧ Fr (fun _ => False) w w' := by
  refine Does_intro tok (Try.call5 _ _) Try.func5 rfl (by rfl) ?_
  refine Call_of (alive _) ?_
  rintro v w1 ⟨rfl, hf⟩
  (repeat (first | refine Br_true ?_ | refine Br_false ?_))
  refine Br_dec (fun h1 => ?_) (fun h1 => ?_)
  · (repeat (first | refine Br_true ?_ | refine Br_false ?_))
    exact Ret_in ⟨rfl, hf⟩
  (repeat (first | refine Br_true ?_ | refine Br_false ?_))
  refine Br_dec (fun h2 => ?_) (fun h2 => ?_)
  · exact Ret_in ⟨rfl, hf⟩
  obtain ⟨n, rfl⟩ : ∃ n : Nat, k = ((n + 1 : Nat) : Int) := ⟨k.toNat - 1, by omega⟩
  have hst := sum_top n
  have hot := ones_top n
  have hlt := luby_top n
  have h2n := Nat.two_pow_pos n
  have hp : (2 : Nat) ^ (n + 1) = 2 * 2 ^ n := by rw [Nat.pow_succ]; omega
  have hpb : (2 : Nat) ^ (n + 1) ≤ 4096 := Nat.pow_le_pow_right (n := 2) (i := n + 1) (j := 12) (by omega) (by omega)
  have hs := shl_pow (n + 1) (by omega)
  have hsm := shl_pow n (by omega)
  have hsb : (n + 1) * 2 ^ (n + 1) ≤ 12 * 4096 := Nat.mul_le_mul (by omega) hpb
  have hprod : (((n + 1 : Nat) : Int) * ((2 ^ (n + 1) : Nat) : Int)) = (((n + 1) * 2 ^ (n + 1) : Nat) : Int) := by simp
  generalize (n + 1) * 2 ^ (n + 1) = pr at *
  generalize hN : 2 ^ (n + 1) = N at *
  refine Loop_intro (fun i : Nat => [(3, .int .i64 (sum i : Nat)), (4, .int .i64 (ones i : Nat)), (5, .int .i64 ((i + 1 : Nat) : Int))]) (fun i w' => w' = w1 ∧ i + 1 ≤ N) (fun i => N - i) 0 ⟨rfl, rfl, rfl, trivial⟩ ⟨rfl, by omega⟩ ?_
  rintro i w2 ⟨rfl, hi⟩
  have hsi := sum_mono (m := i) (n := N - 1) (by omega)
  have hoi := ones_le i
  refine Nn_in (by omega) (Ar_is _ hs ?_)
  refine Br_dec (fun h3 => ?_) (fun h3 => ?_)
  · have hsi' := sum_mono (m := i + 1) (n := N - 1) (by omega)
    have hl1 := luby_pos _ (i + 1) (Nat.le_refl _) (by omega)
    have hss : sum (i + 1) = sum i + luby (i + 1) := rfl
    have hoo : ones (i + 1) = ones i + if luby (i + 1) = 1 then 1 else 0 := rfl
    refine Call_of (luby_yes _ (i + 1) _ rfl (by omega) (by omega)) ?_
    rintro v w1 ⟨rfl, rfl⟩
    (repeat (first | refine Br_true ?_ | refine Br_false ?_))
    refine Br_dec_no (by omega) ?_
    refine Ar_i64 (by omega) (by omega) ?_
    refine Join_dup (Br_eq (fun h4 => ?_) (fun h4 => ?_))
    · rw [if_pos (by omega)] at hoo
      (repeat (first | refine Br_true ?_ | refine Br_false ?_ | refine Ar_i64 (by omega) (by omega) ?_ | refine Eqv_in ?_ | refine Br_dec_yes (by omega) ?_ | refine Br_dec_no (by omega) ?_ | refine Br_eq_yes (by omega) ?_ | refine Br_eq_no (by omega) ?_ | refine Br_ne_yes (by omega) ?_ | refine Br_ne_no (by omega) ?_ | refine Br_not ?_ | refine Join_dup (Br_dec_yes (by omega) ?_) | refine Join_dup (Br_dec_no (by omega) ?_) | refine Join_dup (Br_eq_yes (by omega) ?_) | refine Join_dup (Br_eq_no (by omega) ?_) | refine Join_dup (Br_ne_yes (by omega) ?_) | refine Join_dup (Br_ne_no (by omega) ?_) | refine Ar_i32 (by omega) (by omega) ?_ | refine Ar_u64 (by omega) (by omega) ?_ | refine Ar_u32 (by omega) (by omega) ?_ | refine Nn_in (by omega) ?_ | refine Nz_in (by omega) ?_))
      exact ⟨i + 1, ⟨congrArg some (vint (by omega)), congrArg some (vint (by omega)), congrArg some (vint (by omega)), trivial⟩, ⟨rfl, by omega⟩, by omega⟩
    · rw [if_neg (by omega)] at hoo
      (repeat (first | refine Br_true ?_ | refine Br_false ?_ | refine Ar_i64 (by omega) (by omega) ?_ | refine Eqv_in ?_ | refine Br_dec_yes (by omega) ?_ | refine Br_dec_no (by omega) ?_ | refine Br_eq_yes (by omega) ?_ | refine Br_eq_no (by omega) ?_ | refine Br_ne_yes (by omega) ?_ | refine Br_ne_no (by omega) ?_ | refine Br_not ?_ | refine Join_dup (Br_dec_yes (by omega) ?_) | refine Join_dup (Br_dec_no (by omega) ?_) | refine Join_dup (Br_eq_yes (by omega) ?_) | refine Join_dup (Br_eq_no (by omega) ?_) | refine Join_dup (Br_ne_yes (by omega) ?_) | refine Join_dup (Br_ne_no (by omega) ?_) | refine Ar_i32 (by omega) (by omega) ?_ | refine Ar_u64 (by omega) (by omega) ?_ | refine Ar_u32 (by omega) (by omega) ?_ | refine Nn_in (by omega) ?_ | refine Nz_in (by omega) ?_))
      exact ⟨i + 1, ⟨congrArg some (vint (by omega)), congrArg some (vint (by omega)), congrArg some (vint (by omega)), trivial⟩, ⟨rfl, by omega⟩, by omega⟩
  · obtain rfl : i = N - 1 := by omega
    refine Nn_in (by omega) (Ar_is _ hs ?_)
    refine Ar_i64 (by omega) (by omega) ?_
    refine Call_of (luby_yes _ (N - 1) _ (by omega) (by omega) (by omega)) ?_
    rintro v w1 ⟨rfl, rfl⟩
    refine Ar_i64 (by omega) (by omega) ?_
    refine Nn_in (by omega) (Ar_is _ hs ?_)
    refine Ar_is (pr : Int) (by rw [hprod]; exact wrap_i64 (by omega) (by omega)) ?_
    refine Br_eq_yes (by omega) ?_
    (repeat (first | refine Br_true ?_ | refine Br_false ?_))
    refine Ar_i64 (by omega) (by omega) ?_
    (repeat (first | refine Br_true ?_ | refine Br_false ?_))
    refine Nn_in (by omega) (Ar_is _ hs ?_)
    (repeat (first | refine Br_true ?_ | refine Br_false ?_))
    refine Eqv_in ?_
    (repeat (first | refine Br_true ?_ | refine Br_false ?_))
    refine Br_eq_yes (by omega) ?_
    (repeat (first | refine Br_true ?_ | refine Br_false ?_))
    refine Ar_is (n : Int) (by rw [show ((n + 1 : Nat) : Int) - 1 = (n : Int) by omega]; exact wrap_i64 (by omega) (by omega)) ?_
    (repeat (first | refine Br_true ?_ | refine Br_false ?_))
    refine Nn_in (by omega) (Ar_is _ hsm ?_)
    (repeat (first | refine Br_true ?_ | refine Br_false ?_))
    exact Ret_in ⟨vbool (beq_iff_eq.2 (by omega)), hf⟩

/-- Any number, and any value tried first. -/
theorem tells (i seed v : Int) (w : World) : Does Try.prog 7 #[.int .i64 i, .int .u64 seed, .int .i64 v] w fun v w' => v = .bool true ∧ Fr (fun _ => False) w w' := by
  refine Does_intro tok (Try.call7 _ _) Try.func7 rfl (by rfl) ?_
  refine Call_of (alive _) ?_
  rintro v w1 ⟨rfl, hf⟩
  (repeat (first | refine Br_true ?_ | refine Br_false ?_))
  refine Call_of (first _ _ _) ?_
  rintro v w2 ⟨rfl, rfl⟩
  refine Call_of (refFirst _ _ _) ?_
  rintro v w3 ⟨rfl, rfl⟩
  refine Do_bool_ne tok rfl ?_
  refine Br_no (by simp) ?_
  refine Br_dec (fun h1 => ?_) (fun h1 => ?_)
  · (repeat (first | refine Br_true ?_ | refine Br_false ?_))
    refine Br_dec (fun h2 => ?_) (fun h2 => ?_)
    · exact Ret_in ⟨rfl, hf⟩
    refine Call_of (luby_no _ _ (by omega)) ?_
    rintro v w4 ⟨rfl, rfl⟩
    refine Call_of (refLuby_no _ _ (by omega)) ?_
    rintro v w5 ⟨rfl, rfl⟩
    (repeat (first | refine Br_true ?_ | refine Br_false ?_ | refine Ar_i64 (by omega) (by omega) ?_ | refine Eqv_in ?_ | refine Br_dec_yes (by omega) ?_ | refine Br_dec_no (by omega) ?_ | refine Br_eq_yes (by omega) ?_ | refine Br_eq_no (by omega) ?_ | refine Br_ne_yes (by omega) ?_ | refine Br_ne_no (by omega) ?_ | refine Br_not ?_ | refine Join_dup (Br_dec_yes (by omega) ?_) | refine Join_dup (Br_dec_no (by omega) ?_) | refine Join_dup (Br_eq_yes (by omega) ?_) | refine Join_dup (Br_eq_no (by omega) ?_) | refine Join_dup (Br_ne_yes (by omega) ?_) | refine Join_dup (Br_ne_no (by omega) ?_) | refine Ar_i32 (by omega) (by omega) ?_ | refine Ar_u64 (by omega) (by omega) ?_ | refine Ar_u32 (by omega) (by omega) ?_ | refine Nn_in (by omega) ?_ | refine Nz_in (by omega) ?_))
    exact Ret_in ⟨rfl, hf⟩
  · (repeat (first | refine Br_true ?_ | refine Br_false ?_))
    by_cases h3 : i < 1
    · refine Call_of (luby_no _ _ (by omega)) ?_
      rintro v w4 ⟨rfl, rfl⟩
      refine Call_of (refLuby_no _ _ (by omega)) ?_
      rintro v w5 ⟨rfl, rfl⟩
      (repeat (first | refine Br_true ?_ | refine Br_false ?_ | refine Ar_i64 (by omega) (by omega) ?_ | refine Eqv_in ?_ | refine Br_dec_yes (by omega) ?_ | refine Br_dec_no (by omega) ?_ | refine Br_eq_yes (by omega) ?_ | refine Br_eq_no (by omega) ?_ | refine Br_ne_yes (by omega) ?_ | refine Br_ne_no (by omega) ?_ | refine Br_not ?_ | refine Join_dup (Br_dec_yes (by omega) ?_) | refine Join_dup (Br_dec_no (by omega) ?_) | refine Join_dup (Br_eq_yes (by omega) ?_) | refine Join_dup (Br_eq_no (by omega) ?_) | refine Join_dup (Br_ne_yes (by omega) ?_) | refine Join_dup (Br_ne_no (by omega) ?_) | refine Ar_i32 (by omega) (by omega) ?_ | refine Ar_u64 (by omega) (by omega) ?_ | refine Ar_u32 (by omega) (by omega) ?_ | refine Nn_in (by omega) ?_ | refine Nz_in (by omega) ?_))
      exact Ret_in ⟨rfl, hf⟩
    · obtain ⟨n, rfl⟩ : ∃ n : Nat, i = (n : Int) := ⟨i.toNat, by omega⟩
      refine Call_of (luby_yes _ n _ rfl (by omega) (by omega)) ?_
      rintro v w4 ⟨rfl, rfl⟩
      refine Call_of (refLuby_yes _ n _ rfl (by omega) (by omega)) ?_
      rintro v w5 ⟨rfl, hf5⟩
      (repeat (first | refine Br_true ?_ | refine Br_false ?_ | refine Ar_i64 (by omega) (by omega) ?_ | refine Eqv_in ?_ | refine Br_dec_yes (by omega) ?_ | refine Br_dec_no (by omega) ?_ | refine Br_eq_yes (by omega) ?_ | refine Br_eq_no (by omega) ?_ | refine Br_ne_yes (by omega) ?_ | refine Br_ne_no (by omega) ?_ | refine Br_not ?_ | refine Join_dup (Br_dec_yes (by omega) ?_) | refine Join_dup (Br_dec_no (by omega) ?_) | refine Join_dup (Br_eq_yes (by omega) ?_) | refine Join_dup (Br_eq_no (by omega) ?_) | refine Join_dup (Br_ne_yes (by omega) ?_) | refine Join_dup (Br_ne_no (by omega) ?_) | refine Ar_i32 (by omega) (by omega) ?_ | refine Ar_u64 (by omega) (by omega) ?_ | refine Ar_u32 (by omega) (by omega) ?_ | refine Nn_in (by omega) ?_ | refine Nz_in (by omega) ?_))
      exact Ret_in ⟨rfl, hf.trans hf5⟩

/-- Whatever the options, how far from one beginning to the next. -/
theorem grows (seed u r c : Int) (w : World) : Does Try.prog 4 #[.agg #[.int .u64 seed, .int .i64 u, .int .i64 r], .int .i64 c] w fun v w' => v = .bool true ∧ Fr (fun _ => False) w w' := by
  refine Does_intro tok (Try.call4 _ _) Try.func4 rfl (by rfl) ?_
  refine Nw_cells (fun bo w1 e1 ho1 f1 s1 => ?_)
  refine Call_of (alive _) ?_
  rintro v w2 ⟨rfl, f2⟩
  have ho2 := ho1.fr f2 (fun h => h)
  (repeat (first | refine Br_true ?_ | refine Br_false ?_))
  refine Br_dec (fun h1 => ?_) (fun h1 => ?_)
  · (repeat (first | refine Br_true ?_ | refine Br_false ?_))
    exact Ret_in ⟨rfl, f1.trans f2⟩
  (repeat (first | refine Br_true ?_ | refine Br_false ?_))
  refine Br_dec (fun h2 => ?_) (fun h2 => ?_)
  · exact Ret_in ⟨rfl, f1.trans f2⟩
  refine LdN_all ho2 rfl ?_
  refine Call_of (new _ _ _ _) ?_
  rintro v w3 ⟨b, rfl, hb, hp, f3⟩
  have ho3 := ho2.fr f3 (fun h => h)
  refine Ld_at ho3 (by rfl) ?_
  refine Call_of (within _ _) ?_
  rintro v w4 ⟨rfl, rfl⟩
  have hU1 : 1 ≤ max 1 (min u 1048576) := by omega
  have hU2 : max 1 (min u 1048576) ≤ 1048576 := by omega
  generalize max 1 (min u 1048576) = U at *
  generalize max 1 (min r 1048576) = R at *
  have fall : Fr (fun _ => False) w w4 := (f1.trans f2).trans f3
  have hsz := fall.size
  have hsz2 := (f1.trans f2).size
  refine Loop_intro (σ := Nat × Nat × Int) (fun x => [(7, .int .i64 x.2.2), (8, .int .i64 (x.1 - x.2.2)), (9, .int .i64 (x.1 : Int))])
    (fun x w' => PaceAt w' b U R x.1 x.2.2 x.2.1 ∧ (x.1 : Int) - x.2.2 = U * (sum x.2.1 : Nat) ∧ 0 ≤ x.2.2 ∧ x.2.2 < U * (luby (x.2.1 + 1) : Nat) ∧ x.2.1 ≤ x.1 ∧ (x.1 : Int) ≤ c ∧ Fr (fun _ => False) w w')
    (fun x => c.toNat - x.1) (0, 0, 0) ⟨rfl, rfl, rfl, trivial⟩ ⟨hp, by simp [sum], by simp, ?_, by simp, by simp; omega, fall⟩ ?_
  · have : luby 1 = 1 := by decide +kernel
    simp only [Nat.zero_add, this]; omega
  rintro ⟨k, n, s⟩ w5 ⟨hp5, hs, hs0, hsl, hnk, hkc, f5⟩
  simp only at hp5 hs hs0 hsl hnk hkc ⊢
  have hg := luby_grows _ (n + 1) (Nat.le_refl _) (by omega)
  have hg2 : U * (luby (n + 1) : Nat) ≤ U * ((sum n : Nat) + 1 : Int) := Int.mul_le_mul_of_nonneg_left (by have : n + 1 - 1 = n := rfl; rw [this] at hg; omega) (by omega)
  rw [Int.mul_add, Int.mul_one, ← hs] at hg2
  have hsum0 : (0 : Int) ≤ U * (sum n : Nat) := Int.mul_nonneg (by omega) (by omega)
  refine Br_dec (fun h3 => ?_) (fun h3 => ?_)
  · (repeat (first | refine Br_true ?_ | refine Br_false ?_ | refine Ar_i64 (by omega) (by omega) ?_ | refine Eqv_in ?_ | refine Br_dec_yes (by omega) ?_ | refine Br_dec_no (by omega) ?_ | refine Br_eq_yes (by omega) ?_ | refine Br_eq_no (by omega) ?_ | refine Br_ne_yes (by omega) ?_ | refine Br_ne_no (by omega) ?_ | refine Br_not ?_ | refine Join_dup (Br_dec_yes (by omega) ?_) | refine Join_dup (Br_dec_no (by omega) ?_) | refine Join_dup (Br_eq_yes (by omega) ?_) | refine Join_dup (Br_eq_no (by omega) ?_) | refine Join_dup (Br_ne_yes (by omega) ?_) | refine Join_dup (Br_ne_no (by omega) ?_) | refine Ar_i32 (by omega) (by omega) ?_ | refine Ar_u64 (by omega) (by omega) ?_ | refine Ar_u32 (by omega) (by omega) ?_ | refine Nn_in (by omega) ?_ | refine Nz_in (by omega) ?_))
    refine Call_of (conflict b _ _ _ _ _ n _ (by omega) (by omega) (by omega) (by omega) (by omega) (by omega) rfl (by omega) hp5) ?_
    rintro v w6 ⟨hf6, ⟨h, rfl, hp6⟩ | ⟨h, rfl, hp6⟩⟩
    · refine Join_dup (Br_false ?_)
      refine Ar_i64 (by omega) (by omega) ?_
      exact ⟨(k + 1, n, s + 1), ⟨congrArg some (vint rfl), congrArg some (vint (by simp only; omega)), congrArg some (vint (by simp only; omega)), trivial⟩,
        ⟨hp6, by simp only; omega, by simp only; omega, h, by simp only; omega, by simp only; omega, f5.trans' hf6 (fun x hx h => by omega)⟩, by simp only; omega⟩
    · have he : s + 1 = U * (luby (n + 1) : Nat) := by omega
      have hsum : U * (sum (n + 1) : Nat) = U * (sum n : Nat) + U * (luby (n + 1) : Nat) := by
        show U * ((sum n + luby (n + 1) : Nat) : Int) = _
        rw [Int.natCast_add, Int.mul_add]
      have hpos : 0 < U * (luby (n + 1 + 1) : Nat) := Int.mul_pos (by omega) (by have := luby_pos _ (n + 1 + 1) (Nat.le_refl _) (by omega); omega)
      have ht : (s + 1).tmod U = 0 := by rw [he]; exact Int.mul_tmod_right _ _
      refine Join_dup (Br_true ?_)
      refine Nz_in (by omega) (Eqv_is 0 ht ?_)
      (repeat (first | refine Br_true ?_ | refine Br_false ?_ | refine Ar_i64 (by omega) (by omega) ?_ | refine Eqv_in ?_ | refine Br_dec_yes (by omega) ?_ | refine Br_dec_no (by omega) ?_ | refine Br_eq_yes (by omega) ?_ | refine Br_eq_no (by omega) ?_ | refine Br_ne_yes (by omega) ?_ | refine Br_ne_no (by omega) ?_ | refine Br_not ?_ | refine Join_dup (Br_dec_yes (by omega) ?_) | refine Join_dup (Br_dec_no (by omega) ?_) | refine Join_dup (Br_eq_yes (by omega) ?_) | refine Join_dup (Br_eq_no (by omega) ?_) | refine Join_dup (Br_ne_yes (by omega) ?_) | refine Join_dup (Br_ne_no (by omega) ?_) | refine Ar_i32 (by omega) (by omega) ?_ | refine Ar_u64 (by omega) (by omega) ?_ | refine Ar_u32 (by omega) (by omega) ?_ | refine Nn_in (by omega) ?_ | refine Nz_in (by omega) ?_))
      exact ⟨(k + 1, n + 1, 0), ⟨congrArg some (vint rfl), congrArg some (vint (by simp only; omega)), congrArg some (vint (by simp only; omega)), trivial⟩,
        ⟨hp6, by simp only; omega, by simp only; omega, hpos, by simp only; omega, by simp only; omega, f5.trans' hf6 (fun x hx h => by omega)⟩, by simp only; omega⟩
  · obtain rfl : c = k := by omega
    refine Call_of (conflicts b _ _ _ _ _ _ hp5) ?_
    rintro v w6 ⟨rfl, rfl⟩
    (repeat (first | refine Br_true ?_ | refine Br_false ?_ | refine Ar_i64 (by omega) (by omega) ?_ | refine Eqv_in ?_ | refine Br_dec_yes (by omega) ?_ | refine Br_dec_no (by omega) ?_ | refine Br_eq_yes (by omega) ?_ | refine Br_eq_no (by omega) ?_ | refine Br_ne_yes (by omega) ?_ | refine Br_ne_no (by omega) ?_ | refine Br_not ?_ | refine Join_dup (Br_dec_yes (by omega) ?_) | refine Join_dup (Br_dec_no (by omega) ?_) | refine Join_dup (Br_eq_yes (by omega) ?_) | refine Join_dup (Br_eq_no (by omega) ?_) | refine Join_dup (Br_ne_yes (by omega) ?_) | refine Join_dup (Br_ne_no (by omega) ?_) | refine Ar_i32 (by omega) (by omega) ?_ | refine Ar_u64 (by omega) (by omega) ?_ | refine Ar_u32 (by omega) (by omega) ?_ | refine Nn_in (by omega) ?_ | refine Nz_in (by omega) ?_))
    exact Ret_in ⟨vbool (decide_eq_true (by omega)), f5⟩

set_option maxHeartbeats 1000000 in
/-- Whatever the options, conflict by conflict. -/
theorem runs (seed u r c l : Int) (hl : -9223372036854775808 ≤ l ∧ l ≤ 9223372036854775807) (w : World) : Does Try.prog 6 #[.agg #[.int .u64 seed, .int .i64 u, .int .i64 r], .int .i64 c, .int .i64 l] w fun v w' => v = .bool true ∧ Fr (fun _ => False) w w' := by
  refine Does_intro tok (Try.call6 _ _) Try.func6 rfl (by rfl) ?_
  refine Nw_cells (fun bo w1 e1 ho1 f1 s1 => ?_)
  refine Call_of (alive _) ?_
  rintro v w2 ⟨rfl, f2⟩
  have ho2 := ho1.fr f2 (fun h => h)
  (repeat (first | refine Br_true ?_ | refine Br_false ?_))
  refine Br_dec (fun h1 => ?_) (fun h1 => ?_)
  · (repeat (first | refine Br_true ?_ | refine Br_false ?_))
    exact Ret_in ⟨rfl, f1.trans f2⟩
  (repeat (first | refine Br_true ?_ | refine Br_false ?_))
  refine Br_dec (fun h2 => ?_) (fun h2 => ?_)
  · exact Ret_in ⟨rfl, f1.trans f2⟩
  refine LdN_all ho2 rfl ?_
  refine Call_of (new _ _ _ _) ?_
  rintro v w3 ⟨b, rfl, hb, hp, f3⟩
  have ho3 := ho2.fr f3 (fun h => h)
  have hblt := hp.lt
  have hbolt := ho2.lt
  refine Call_of (row _ 900 _ rfl (by omega)) ?_
  rintro v w4 ⟨a, m, cap, rfl, hrow, hm, hm1, f4, hra⟩
  obtain ⟨ba, rfl⟩ := hrow.some (by omega)
  have hba := hra ba rfl
  have hp4 := hp.fr f4 (fun h => h)
  have ho4 := ho3.fr f4 (fun h => h)
  have hU1 : 1 ≤ max 1 (min u 1048576) := by omega
  have hU2 : max 1 (min u 1048576) ≤ 1048576 := by omega
  have hR1 : 1 ≤ max 1 (min r 1048576) := by omega
  have hR2 : max 1 (min r 1048576) ≤ 1048576 := by omega
  have fall : Fr (fun _ => False) w w4 := ((f1.trans f2).trans f3).trans f4
  have hsz2 := (f1.trans f2).size
  generalize hU : max 1 (min u 1048576) = U at *
  generalize hR : max 1 (min r 1048576) = R at *
  refine Loop_intro (σ := Nat × Nat × Int) (fun x => [(9, .int .i64 x.2.2), (10, .int .i64 (x.2.1 : Int)), (11, .int .i64 ((x.1 + 1 : Nat) : Int))])
    (fun x w' => PaceAt w' b U R x.1 x.2.2 x.2.1 ∧ Own w' (some ⟨ba, 0, none⟩) m cap 3 1 (lubs m) ∧ At w' bo 28 [.int .u64 seed, .int .i64 u, .int .i64 r] ∧ 0 ≤ x.2.2 ∧ x.2.2 ≤ x.1 ∧ x.2.2 < U * (luby (x.2.1 + 1) : Nat) ∧ x.2.1 ≤ x.1 ∧ (x.1 : Int) ≤ c ∧ Fr (fun _ => False) w w')
    (fun x => c.toNat - x.1) (0, 0, 0) ⟨rfl, rfl, rfl, trivial⟩ ⟨hp4, hrow, ho4, by simp, by simp, ?_, by simp, by simp; omega, fall⟩ ?_
  · have : luby 1 = 1 := by decide +kernel
    simp only [Nat.zero_add, this]; omega
  rintro ⟨k, n, s⟩ w5 ⟨hp5, hrow5, ho5, hs0, hsk, hsl, hnk, hkc, f5⟩
  simp only at hp5 hrow5 ho5 hs0 hsk hsl hnk hkc ⊢
  have hlb := luby_le _ (n + 1) (Nat.le_refl _) (by omega)
  have hlp := luby_pos _ (n + 1) (Nat.le_refl _) (by omega)
  have hub : U * (luby (n + 1) : Nat) ≤ 1048576 * 1048576 := Int.mul_le_mul hU2 (by omega) (by omega) (by omega)
  refine Br_dec (fun h3 => ?_) (fun h3 => ?_)
  · (repeat (first | refine Br_true ?_ | refine Br_false ?_ | refine Ar_i64 (by omega) (by omega) ?_ | refine Eqv_in ?_ | refine Br_dec_yes (by omega) ?_ | refine Br_dec_no (by omega) ?_ | refine Br_eq_yes (by omega) ?_ | refine Br_eq_no (by omega) ?_ | refine Br_ne_yes (by omega) ?_ | refine Br_ne_no (by omega) ?_ | refine Br_not ?_ | refine Join_dup (Br_dec_yes (by omega) ?_) | refine Join_dup (Br_dec_no (by omega) ?_) | refine Join_dup (Br_eq_yes (by omega) ?_) | refine Join_dup (Br_eq_no (by omega) ?_) | refine Join_dup (Br_ne_yes (by omega) ?_) | refine Join_dup (Br_ne_no (by omega) ?_) | refine Ar_i32 (by omega) (by omega) ?_ | refine Ar_u64 (by omega) (by omega) ?_ | refine Ar_u32 (by omega) (by omega) ?_ | refine Nn_in (by omega) ?_ | refine Nz_in (by omega) ?_))
    refine Draw_intro mixed [0, 1, 2, 4, 5, 6, 7, 3, 8, 9, 10] (by decide +kernel) (fun w6 eh f6 => ?_)
    have ho6 := ho5.heap eh
    have hp6 := At.heap hp5 eh
    have hrow6 := hrow5.fr f6 (fun _ _ h => h)
    refine Ld_at ho6 (by rfl) ?_
    refine Ix_in n (by omega) (by omega) ?_
    refine Ld_own hrow6 (lubs_get (by omega)) ?_
    refine Call_of (within _ _) ?_
    rintro v w7 ⟨rfl, rfl⟩
    rw [hU]
    refine Kept_in (by have := hrow6.src.cell (lubs_get (n := m) (j := n) (by omega)); rw [add_mk] at this; exact this) ?_
    refine Ar_i64 (by omega) (by omega) ?_
    refine Join_dup (Br_eq (fun h4 => ?_) (fun h4 => ?_))
    · have hpos : 0 < U * (luby (n + 1 + 1) : Nat) := Int.mul_pos (by omega) (by have := luby_pos _ (n + 1 + 1) (Nat.le_refl _) (by omega); omega)
      (repeat (first | refine Br_true ?_ | refine Br_false ?_ | refine Ar_i64 (by omega) (by omega) ?_ | refine Eqv_in ?_ | refine Br_dec_yes (by omega) ?_ | refine Br_dec_no (by omega) ?_ | refine Br_eq_yes (by omega) ?_ | refine Br_eq_no (by omega) ?_ | refine Br_ne_yes (by omega) ?_ | refine Br_ne_no (by omega) ?_ | refine Br_not ?_ | refine Join_dup (Br_dec_yes (by omega) ?_) | refine Join_dup (Br_dec_no (by omega) ?_) | refine Join_dup (Br_eq_yes (by omega) ?_) | refine Join_dup (Br_eq_no (by omega) ?_) | refine Join_dup (Br_ne_yes (by omega) ?_) | refine Join_dup (Br_ne_no (by omega) ?_) | refine Ar_i32 (by omega) (by omega) ?_ | refine Ar_u64 (by omega) (by omega) ?_ | refine Ar_u32 (by omega) (by omega) ?_ | refine Nn_in (by omega) ?_ | refine Nz_in (by omega) ?_))
      refine Call_of (conflict b _ _ _ _ _ n _ (by omega) (by omega) (by omega) (by omega) (by omega) (by omega) rfl (by omega) hp6) ?_
      rintro v w8 ⟨hf8, ⟨h, rfl, hp8⟩ | ⟨h, rfl, hp8⟩⟩
      · omega
      · have hbe : (s + 1 == U * (luby (n + 1) : Nat)) = true := beq_iff_eq.2 h4
        refine Do_bool_ne tok rfl ?_
        rw [hbe]
        (repeat (first | refine Br_true ?_ | refine Br_false ?_))
        refine Call_of (restarts b _ _ _ _ _ _ hp8) ?_
        rintro v w9 ⟨rfl, rfl⟩
        (repeat (first | refine Br_true ?_ | refine Br_false ?_ | refine Ar_i64 (by omega) (by omega) ?_ | refine Eqv_in ?_ | refine Br_dec_yes (by omega) ?_ | refine Br_dec_no (by omega) ?_ | refine Br_eq_yes (by omega) ?_ | refine Br_eq_no (by omega) ?_ | refine Br_ne_yes (by omega) ?_ | refine Br_ne_no (by omega) ?_ | refine Br_not ?_ | refine Join_dup (Br_dec_yes (by omega) ?_) | refine Join_dup (Br_dec_no (by omega) ?_) | refine Join_dup (Br_eq_yes (by omega) ?_) | refine Join_dup (Br_eq_no (by omega) ?_) | refine Join_dup (Br_ne_yes (by omega) ?_) | refine Join_dup (Br_ne_no (by omega) ?_) | refine Ar_i32 (by omega) (by omega) ?_ | refine Ar_u64 (by omega) (by omega) ?_ | refine Ar_u32 (by omega) (by omega) ?_ | refine Nn_in (by omega) ?_ | refine Nz_in (by omega) ?_))
        refine Call_of (conflicts b _ _ _ _ _ _ hp8) ?_
        rintro v w9 ⟨rfl, rfl⟩
        (repeat (first | refine Br_true ?_ | refine Br_false ?_ | refine Ar_i64 (by omega) (by omega) ?_ | refine Eqv_in ?_ | refine Br_dec_yes (by omega) ?_ | refine Br_dec_no (by omega) ?_ | refine Br_eq_yes (by omega) ?_ | refine Br_eq_no (by omega) ?_ | refine Br_ne_yes (by omega) ?_ | refine Br_ne_no (by omega) ?_ | refine Br_not ?_ | refine Join_dup (Br_dec_yes (by omega) ?_) | refine Join_dup (Br_dec_no (by omega) ?_) | refine Join_dup (Br_eq_yes (by omega) ?_) | refine Join_dup (Br_eq_no (by omega) ?_) | refine Join_dup (Br_ne_yes (by omega) ?_) | refine Join_dup (Br_ne_no (by omega) ?_) | refine Ar_i32 (by omega) (by omega) ?_ | refine Ar_u64 (by omega) (by omega) ?_ | refine Ar_u32 (by omega) (by omega) ?_ | refine Nn_in (by omega) ?_ | refine Nz_in (by omega) ?_))
        have ho8 := ho6.fr hf8 (by omega)
        have hrow8 := hrow6.fr hf8 (fun x hx => by cases hx; omega)
        refine Ld_at ho8 (by rfl) ?_
        refine Call_of (within _ _) ?_
        rintro v w9 ⟨rfl, rfl⟩
        rw [hR]
        have e1 : ((k + 1 : Nat) : Int).tdiv 10 = ((k : Int) + 1) / 10 := by rw [Int.tdiv_eq_ediv_of_nonneg (by omega)]; omega
        refine Nz_in (by omega) (Ar_is (((k : Int) + 1) / 10) (by rw [e1]; exact wrap_i64 (by omega) (by omega)) ?_)
        refine Ar_i64 (by omega) (by omega) ?_
        have hfin : Fr (fun _ => False) w _ := (f5.trans f6).trans' hf8 (fun x hx h => by omega)
        refine Join_dup (Br_dec (fun h5 => ?_) (fun h5 => ?_))
        · have e2 : l.tdiv 2 = l / 2 := Int.tdiv_eq_ediv_of_nonneg (by omega)
          refine Nz_in (by omega) (Ar_is (l / 2) (by rw [e2]; exact wrap_i64 (by omega) (by omega)) ?_)
          refine Call_of (forget b _ _ _ _ _ l _ (by omega) (by omega) (by omega) (by omega) hl hp8) ?_
          rintro v w10 ⟨rfl, f10, eh10⟩
          have hp10 : PaceAt w10 b U R _ _ _ := At.heap hp8 eh10
          rw [if_neg (by omega)]
          (repeat (first | refine Br_true ?_ | refine Br_false ?_ | refine Ar_i64 (by omega) (by omega) ?_ | refine Eqv_in ?_ | refine Br_dec_yes (by omega) ?_ | refine Br_dec_no (by omega) ?_ | refine Br_eq_yes (by omega) ?_ | refine Br_eq_no (by omega) ?_ | refine Br_ne_yes (by omega) ?_ | refine Br_ne_no (by omega) ?_ | refine Br_not ?_ | refine Join_dup (Br_dec_yes (by omega) ?_) | refine Join_dup (Br_dec_no (by omega) ?_) | refine Join_dup (Br_eq_yes (by omega) ?_) | refine Join_dup (Br_eq_no (by omega) ?_) | refine Join_dup (Br_ne_yes (by omega) ?_) | refine Join_dup (Br_ne_no (by omega) ?_) | refine Ar_i32 (by omega) (by omega) ?_ | refine Ar_u64 (by omega) (by omega) ?_ | refine Ar_u32 (by omega) (by omega) ?_ | refine Nn_in (by omega) ?_ | refine Nz_in (by omega) ?_))
          exact ⟨(k + 1, n + 1, 0), ⟨congrArg some (vint rfl), congrArg some (vint (by first | rfl | (simp only; omega))), congrArg some (vint (by first | rfl | (simp only; omega))), trivial⟩,
            ⟨hp10, hrow8.fr f10 (fun _ _ h => h), ho8.heap eh10, by simp only; omega, by simp only; omega, hpos, by simp only; omega, by simp only; omega, hfin.trans f10⟩, by simp only; omega⟩
        · refine Call_of (forget b _ _ _ _ _ l _ (by omega) (by omega) (by omega) (by omega) hl hp8) ?_
          rintro v w10 ⟨rfl, f10, eh10⟩
          have hp10 : PaceAt w10 b U R _ _ _ := At.heap hp8 eh10
          rw [if_pos (by omega)]
          (repeat (first | refine Br_true ?_ | refine Br_false ?_ | refine Ar_i64 (by omega) (by omega) ?_ | refine Eqv_in ?_ | refine Br_dec_yes (by omega) ?_ | refine Br_dec_no (by omega) ?_ | refine Br_eq_yes (by omega) ?_ | refine Br_eq_no (by omega) ?_ | refine Br_ne_yes (by omega) ?_ | refine Br_ne_no (by omega) ?_ | refine Br_not ?_ | refine Join_dup (Br_dec_yes (by omega) ?_) | refine Join_dup (Br_dec_no (by omega) ?_) | refine Join_dup (Br_eq_yes (by omega) ?_) | refine Join_dup (Br_eq_no (by omega) ?_) | refine Join_dup (Br_ne_yes (by omega) ?_) | refine Join_dup (Br_ne_no (by omega) ?_) | refine Ar_i32 (by omega) (by omega) ?_ | refine Ar_u64 (by omega) (by omega) ?_ | refine Ar_u32 (by omega) (by omega) ?_ | refine Nn_in (by omega) ?_ | refine Nz_in (by omega) ?_))
          exact ⟨(k + 1, n + 1, 0), ⟨congrArg some (vint rfl), congrArg some (vint (by first | rfl | (simp only; omega))), congrArg some (vint (by first | rfl | (simp only; omega))), trivial⟩,
            ⟨hp10, hrow8.fr f10 (fun _ _ h => h), ho8.heap eh10, by simp only; omega, by simp only; omega, hpos, by simp only; omega, by simp only; omega, hfin.trans f10⟩, by simp only; omega⟩
    · (repeat (first | refine Br_true ?_ | refine Br_false ?_ | refine Ar_i64 (by omega) (by omega) ?_ | refine Eqv_in ?_ | refine Br_dec_yes (by omega) ?_ | refine Br_dec_no (by omega) ?_ | refine Br_eq_yes (by omega) ?_ | refine Br_eq_no (by omega) ?_ | refine Br_ne_yes (by omega) ?_ | refine Br_ne_no (by omega) ?_ | refine Br_not ?_ | refine Join_dup (Br_dec_yes (by omega) ?_) | refine Join_dup (Br_dec_no (by omega) ?_) | refine Join_dup (Br_eq_yes (by omega) ?_) | refine Join_dup (Br_eq_no (by omega) ?_) | refine Join_dup (Br_ne_yes (by omega) ?_) | refine Join_dup (Br_ne_no (by omega) ?_) | refine Ar_i32 (by omega) (by omega) ?_ | refine Ar_u64 (by omega) (by omega) ?_ | refine Ar_u32 (by omega) (by omega) ?_ | refine Nn_in (by omega) ?_ | refine Nz_in (by omega) ?_))
      refine Call_of (conflict b _ _ _ _ _ n _ (by omega) (by omega) (by omega) (by omega) (by omega) (by omega) rfl (by omega) hp6) ?_
      rintro v w8 ⟨hf8, ⟨h, rfl, hp8⟩ | ⟨h, rfl, hp8⟩⟩
      · have hbe : (s + 1 == U * (luby (n + 1) : Nat)) = false := beq_eq_false_iff_ne.2 h4
        refine Do_bool_ne tok rfl ?_
        rw [hbe]
        (repeat (first | refine Br_true ?_ | refine Br_false ?_))
        refine Call_of (restarts b _ _ _ _ _ _ hp8) ?_
        rintro v w9 ⟨rfl, rfl⟩
        (repeat (first | refine Br_true ?_ | refine Br_false ?_ | refine Ar_i64 (by omega) (by omega) ?_ | refine Eqv_in ?_ | refine Br_dec_yes (by omega) ?_ | refine Br_dec_no (by omega) ?_ | refine Br_eq_yes (by omega) ?_ | refine Br_eq_no (by omega) ?_ | refine Br_ne_yes (by omega) ?_ | refine Br_ne_no (by omega) ?_ | refine Br_not ?_ | refine Join_dup (Br_dec_yes (by omega) ?_) | refine Join_dup (Br_dec_no (by omega) ?_) | refine Join_dup (Br_eq_yes (by omega) ?_) | refine Join_dup (Br_eq_no (by omega) ?_) | refine Join_dup (Br_ne_yes (by omega) ?_) | refine Join_dup (Br_ne_no (by omega) ?_) | refine Ar_i32 (by omega) (by omega) ?_ | refine Ar_u64 (by omega) (by omega) ?_ | refine Ar_u32 (by omega) (by omega) ?_ | refine Nn_in (by omega) ?_ | refine Nz_in (by omega) ?_))
        refine Call_of (conflicts b _ _ _ _ _ _ hp8) ?_
        rintro v w9 ⟨rfl, rfl⟩
        (repeat (first | refine Br_true ?_ | refine Br_false ?_ | refine Ar_i64 (by omega) (by omega) ?_ | refine Eqv_in ?_ | refine Br_dec_yes (by omega) ?_ | refine Br_dec_no (by omega) ?_ | refine Br_eq_yes (by omega) ?_ | refine Br_eq_no (by omega) ?_ | refine Br_ne_yes (by omega) ?_ | refine Br_ne_no (by omega) ?_ | refine Br_not ?_ | refine Join_dup (Br_dec_yes (by omega) ?_) | refine Join_dup (Br_dec_no (by omega) ?_) | refine Join_dup (Br_eq_yes (by omega) ?_) | refine Join_dup (Br_eq_no (by omega) ?_) | refine Join_dup (Br_ne_yes (by omega) ?_) | refine Join_dup (Br_ne_no (by omega) ?_) | refine Ar_i32 (by omega) (by omega) ?_ | refine Ar_u64 (by omega) (by omega) ?_ | refine Ar_u32 (by omega) (by omega) ?_ | refine Nn_in (by omega) ?_ | refine Nz_in (by omega) ?_))
        have ho8 := ho6.fr hf8 (by omega)
        have hrow8 := hrow6.fr hf8 (fun x hx => by cases hx; omega)
        refine Ld_at ho8 (by rfl) ?_
        refine Call_of (within _ _) ?_
        rintro v w9 ⟨rfl, rfl⟩
        rw [hR]
        have e1 : ((k + 1 : Nat) : Int).tdiv 10 = ((k : Int) + 1) / 10 := by rw [Int.tdiv_eq_ediv_of_nonneg (by omega)]; omega
        refine Nz_in (by omega) (Ar_is (((k : Int) + 1) / 10) (by rw [e1]; exact wrap_i64 (by omega) (by omega)) ?_)
        refine Ar_i64 (by omega) (by omega) ?_
        have hfin : Fr (fun _ => False) w _ := (f5.trans f6).trans' hf8 (fun x hx h => by omega)
        refine Join_dup (Br_dec (fun h5 => ?_) (fun h5 => ?_))
        · have e2 : l.tdiv 2 = l / 2 := Int.tdiv_eq_ediv_of_nonneg (by omega)
          refine Nz_in (by omega) (Ar_is (l / 2) (by rw [e2]; exact wrap_i64 (by omega) (by omega)) ?_)
          refine Call_of (forget b _ _ _ _ _ l _ (by omega) (by omega) (by omega) (by omega) hl hp8) ?_
          rintro v w10 ⟨rfl, f10, eh10⟩
          have hp10 : PaceAt w10 b U R _ _ _ := At.heap hp8 eh10
          rw [if_neg (by omega)]
          (repeat (first | refine Br_true ?_ | refine Br_false ?_ | refine Ar_i64 (by omega) (by omega) ?_ | refine Eqv_in ?_ | refine Br_dec_yes (by omega) ?_ | refine Br_dec_no (by omega) ?_ | refine Br_eq_yes (by omega) ?_ | refine Br_eq_no (by omega) ?_ | refine Br_ne_yes (by omega) ?_ | refine Br_ne_no (by omega) ?_ | refine Br_not ?_ | refine Join_dup (Br_dec_yes (by omega) ?_) | refine Join_dup (Br_dec_no (by omega) ?_) | refine Join_dup (Br_eq_yes (by omega) ?_) | refine Join_dup (Br_eq_no (by omega) ?_) | refine Join_dup (Br_ne_yes (by omega) ?_) | refine Join_dup (Br_ne_no (by omega) ?_) | refine Ar_i32 (by omega) (by omega) ?_ | refine Ar_u64 (by omega) (by omega) ?_ | refine Ar_u32 (by omega) (by omega) ?_ | refine Nn_in (by omega) ?_ | refine Nz_in (by omega) ?_))
          exact ⟨(k + 1, n, s + 1), ⟨congrArg some (vint rfl), congrArg some (vint (by first | rfl | (simp only; omega))), congrArg some (vint (by first | rfl | (simp only; omega))), trivial⟩,
            ⟨hp10, hrow8.fr f10 (fun _ _ h => h), ho8.heap eh10, by simp only; omega, by simp only; omega, h, by simp only; omega, by simp only; omega, hfin.trans f10⟩, by simp only; omega⟩
        · refine Call_of (forget b _ _ _ _ _ l _ (by omega) (by omega) (by omega) (by omega) hl hp8) ?_
          rintro v w10 ⟨rfl, f10, eh10⟩
          have hp10 : PaceAt w10 b U R _ _ _ := At.heap hp8 eh10
          rw [if_pos (by omega)]
          (repeat (first | refine Br_true ?_ | refine Br_false ?_ | refine Ar_i64 (by omega) (by omega) ?_ | refine Eqv_in ?_ | refine Br_dec_yes (by omega) ?_ | refine Br_dec_no (by omega) ?_ | refine Br_eq_yes (by omega) ?_ | refine Br_eq_no (by omega) ?_ | refine Br_ne_yes (by omega) ?_ | refine Br_ne_no (by omega) ?_ | refine Br_not ?_ | refine Join_dup (Br_dec_yes (by omega) ?_) | refine Join_dup (Br_dec_no (by omega) ?_) | refine Join_dup (Br_eq_yes (by omega) ?_) | refine Join_dup (Br_eq_no (by omega) ?_) | refine Join_dup (Br_ne_yes (by omega) ?_) | refine Join_dup (Br_ne_no (by omega) ?_) | refine Ar_i32 (by omega) (by omega) ?_ | refine Ar_u64 (by omega) (by omega) ?_ | refine Ar_u32 (by omega) (by omega) ?_ | refine Nn_in (by omega) ?_ | refine Nz_in (by omega) ?_))
          exact ⟨(k + 1, n, s + 1), ⟨congrArg some (vint rfl), congrArg some (vint (by first | rfl | (simp only; omega))), congrArg some (vint (by first | rfl | (simp only; omega))), trivial⟩,
            ⟨hp10, hrow8.fr f10 (fun _ _ h => h), ho8.heap eh10, by simp only; omega, by simp only; omega, h, by simp only; omega, by simp only; omega, hfin.trans f10⟩, by simp only; omega⟩
      · omega
  · exact Ret_in ⟨rfl, f5⟩

end Go.Proofs.Ytflijifejodjjaa
