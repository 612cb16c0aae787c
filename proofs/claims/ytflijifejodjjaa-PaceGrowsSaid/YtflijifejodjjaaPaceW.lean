/- What the functions of package pace and of its document hand back. -/
import Derived.Test.YtflijifejodjjaaMem
import Derived.Test.YtflijifejodjjaaPaceM
import Derived.KernelRfl
namespace Go.Proofs.Ytflijifejodjjaa
open Go Go.Vc Go.Luby

theorem mixed : Try.prog.follows .mixedOrders = true := by kernel_rfl

/-! bits.Len -/
def blen (n : Nat) : Nat := if n = 0 then 0 else Nat.log2 n + 1

def len8 : ByteArray := ⟨(([0, 1, 2, 2, 3, 3, 3, 3, 4, 4, 4, 4, 4, 4, 4, 4, 5, 5, 5, 5, 5, 5, 5, 5, 5, 5, 5, 5, 5, 5, 5, 5] ++ List.replicate 32 6 ++ List.replicate 64 7 ++ List.replicate 128 8 : List UInt8)).toArray⟩

theorem len8_tab : ∀ j, j < 256 → (len8[j]?).map UInt8.toNat = some (blen j) := by decide +kernel

theorem Do_index_str {P : Program} {T : Tab} (hT : TabOk P T) {t : TypeId} {s : ByteArray} {k : IntKind} {i : Int} {w : World} {K : Value → World → Prop} (hd : T.d t = some .string) (j : Nat) (n : Nat) (hi : i = j)
    (hb : (s[j]?).map UInt8.toNat = some n) (hk : K (.int .u8 n) w) : Do P (Instr.index t (.string s) (.int k i)) w K := by
  subst hi
  cases hs : s[j]? with
  | none => rw [hs] at hb; cases hb
  | some b =>
    rw [hs] at hb
    simp only [Option.map_some, Option.some.injEq] at hb
    refine ⟨_, w, ?_, hk⟩
    simp [Instr.index, asIntOf, hT.und hd, hs, hb]

theorem blen_shift (x k : Nat) (h : 2 ^ k ≤ x) : blen x = blen (x / 2 ^ k) + k := by
  have hp := Nat.two_pow_pos k
  have h1 : x ≠ 0 := by omega
  have h2 : 1 ≤ x / 2 ^ k := (Nat.le_div_iff_mul_le hp).2 (by omega)
  unfold blen
  rw [if_neg h1, if_neg (by omega)]
  have := Nat.log2_self_le (n := x / 2 ^ k) (by omega)
  have h4 := Nat.lt_log2_self (n := x / 2 ^ k)
  have e : Nat.log2 x = Nat.log2 (x / 2 ^ k) + k := by
    apply log2_of
    · rw [Nat.pow_add]
      exact (Nat.le_div_iff_mul_le hp).1 this
    · rw [show Nat.log2 (x / 2 ^ k) + k + 1 = (Nat.log2 (x / 2 ^ k) + 1) + k by omega, Nat.pow_add]
      exact (Nat.div_lt_iff_lt_mul hp).1 h4
  omega

theorem fdiv_pow (x k : Nat) : ((x : Int)).fdiv (2 ^ k) = ((x / 2 ^ k : Nat) : Int) := by
  rw [Int.fdiv_eq_ediv_of_nonneg _ (Int.le_of_lt (Int.pow_pos (by decide)))]
  rw [Int.natCast_ediv]; simp

theorem len8_le : ∀ x, x < 256 → blen x ≤ 8 := by decide +kernel

theorem len64 (x : Nat) (w : World) (hx : x < 4294967296) : Does Try.prog 25 #[.int .u64 x] w fun v w' => v = .int .i64 (blen x) ∧ w' = w := by
  refine Does_intro tok (Try.call25 _ _) Try.func25 rfl (by rfl) ?_
  refine Join_dup (Br_dec_no (by omega) ?_)
  refine Join_dup (Br_dec (fun h1 => ?_) (fun h1 => ?_))
  · refine Nn_in (by omega) (Eqv_is ((x / 2 ^ 16 : Nat) : Int) (fdiv_pow x 16) ?_)
    refine Ar_i64 (by omega) (by omega) ?_
    refine Join_dup (Br_dec (fun h2 => ?_) (fun h2 => ?_))
    · refine Nn_in (by omega) (Eqv_is ((x / 2 ^ 16 / 2 ^ 8 : Nat) : Int) (fdiv_pow _ 8) ?_)
      refine Ar_i64 (by omega) (by omega) ?_
      refine Ar_u8 (by omega) (by omega) ?_
      refine Do_index_str tok rfl (x / 2 ^ 16 / 2 ^ 8) _ rfl (len8_tab _ (by omega)) ?_
      refine Ar_i64 (by omega) (by have := len8_le (x / 2 ^ 16 / 2 ^ 8) (by omega); omega) ?_
      refine Ar_i64 (by omega) (by have := len8_le (x / 2 ^ 16 / 2 ^ 8) (by omega); omega) ?_
      refine Ret_in ⟨vint ?_, rfl⟩
      rw [blen_shift x 16 (by omega), blen_shift (x / 2 ^ 16) 8 (by omega)]
      omega
    · refine Ar_u8 (by omega) (by omega) ?_
      refine Do_index_str tok rfl (x / 2 ^ 16) _ rfl (len8_tab _ (by omega)) ?_
      refine Ar_i64 (by omega) (by have := len8_le (x / 2 ^ 16) (by omega); omega) ?_
      refine Ar_i64 (by omega) (by have := len8_le (x / 2 ^ 16) (by omega); omega) ?_
      refine Ret_in ⟨vint ?_, rfl⟩
      rw [blen_shift x 16 (by omega)]
      omega
  · refine Join_dup (Br_dec (fun h2 => ?_) (fun h2 => ?_))
    · refine Nn_in (by omega) (Eqv_is ((x / 2 ^ 8 : Nat) : Int) (fdiv_pow _ 8) ?_)
      refine Ar_i64 (by omega) (by omega) ?_
      refine Ar_u8 (by omega) (by omega) ?_
      refine Do_index_str tok rfl (x / 2 ^ 8) _ rfl (len8_tab _ (by omega)) ?_
      refine Ar_i64 (by omega) (by have := len8_le (x / 2 ^ 8) (by omega); omega) ?_
      refine Ar_i64 (by omega) (by have := len8_le (x / 2 ^ 8) (by omega); omega) ?_
      refine Ret_in ⟨vint ?_, rfl⟩
      rw [blen_shift x 8 (by omega)]
      omega
    · refine Ar_u8 (by omega) (by omega) ?_
      refine Do_index_str tok rfl x _ rfl (len8_tab _ (by omega)) ?_
      refine Ar_i64 (by omega) (by have := len8_le x (by omega); omega) ?_
      refine Ar_i64 (by omega) (by have := len8_le x (by omega); omega) ?_
      exact Ret_in ⟨vint (by omega), rfl⟩

theorem len (x : Int) (n : Nat) (w : World) (h : x = n) (hx : n < 4294967296) : Does Try.prog 20 #[.int .u64 x] w fun v w' => v = .int .i64 (blen n) ∧ w' = w := by
  subst h
  refine Does_intro tok (Try.call20 _ _) Try.func20 rfl (by rfl) ?_
  refine Br_false ?_
  refine Call_of (len64 n _ hx) ?_
  rintro v w' ⟨rfl, rfl⟩
  exact Ret_in ⟨rfl, rfl⟩

/-! Luby -/
theorem luby_no (i : Int) (w : World) (h : i < 1 ∨ 1048576 < i) : Does Try.prog 8 #[.int .i64 i] w fun v w' => v = .tuple #[.int .i64 0, .int .i64 71] ∧ w' = w := by
  refine Does_intro tok (Try.call8 _ _) Try.func8 rfl (by rfl) ?_
  refine Br_dec (fun h1 => ?_) (fun h1 => ?_)
  · (repeat (first | refine Br_true ?_ | refine Br_false ?_))
    exact Ret_in ⟨rfl, rfl⟩
  · (repeat (first | refine Br_true ?_ | refine Br_false ?_))
    refine Br_dec_yes (by omega) ?_
    exact Ret_in ⟨rfl, rfl⟩

theorem shl_pow (k : Nat) (h : k ≤ 30) : IntKind.i64.wrap (1 * 2 ^ min ((k : Int)).toNat 64) = ((2 ^ k : Nat) : Int) := by
  have hp : (2 : Nat) ^ k ≤ 2 ^ 30 := Nat.pow_le_pow_right (by omega) h
  have e : min ((k : Int)).toNat 64 = k := by omega
  have e2 : (1 * 2 ^ k : Int) = ((2 ^ k : Nat) : Int) := by rw [Int.one_mul]; simp
  rw [e, e2]
  generalize (2 : Nat) ^ k = q at hp ⊢
  exact wrap_i64 (by omega) (by omega)

theorem luby_yes (i : Int) (n : Nat) (w : World) (h : i = n) (h1 : 1 ≤ n) (h2 : n ≤ 1048576) : Does Try.prog 8 #[.int .i64 i] w fun v w' => v = .tuple #[.int .i64 (luby n), .int .i64 0] ∧ w' = w := by
  subst h
  refine Does_intro tok (Try.call8 _ _) Try.func8 rfl (by rfl) ?_
  refine Br_dec_no (by omega) ?_
  (repeat (first | refine Br_true ?_ | refine Br_false ?_))
  refine Br_dec_no (by omega) ?_
  refine Loop_intro (fun i : Nat => [(0, .int .i64 (i : Int))]) (fun i w' => w' = w ∧ 1 ≤ i ∧ i ≤ 1048576 ∧ luby i = luby n) (fun i => i) n ⟨rfl, trivial⟩ ⟨rfl, h1, h2, rfl⟩ ?_
  rintro i w' ⟨rfl, h1, h2, he⟩
  have e1 := log_pos h1
  have e2 := pow_log (n := i + 1) (by omega)
  have e3 : Nat.log2 (i + 1) ≤ 30 := by
    have h := log_lt (i + 1)
    rcases Nat.lt_or_ge 30 (Nat.log2 (i + 1)) with h' | h'
    · have := Nat.pow_le_pow_right (n := 2) (by omega) h'
      omega
    · exact h'
  (repeat (first | refine Br_true ?_ | refine Br_false ?_ | refine Ar_i64 (by omega) (by omega) ?_ | refine Eqv_in ?_ | refine Br_dec_yes (by omega) ?_ | refine Br_dec_no (by omega) ?_ | refine Br_eq_yes (by omega) ?_ | refine Br_eq_no (by omega) ?_ | refine Br_ne_yes (by omega) ?_ | refine Br_ne_no (by omega) ?_ | refine Br_not ?_ | refine Join_dup (Br_dec_yes (by omega) ?_) | refine Join_dup (Br_dec_no (by omega) ?_) | refine Join_dup (Br_eq_yes (by omega) ?_) | refine Join_dup (Br_eq_no (by omega) ?_) | refine Join_dup (Br_ne_yes (by omega) ?_) | refine Join_dup (Br_ne_no (by omega) ?_) | refine Ar_i32 (by omega) (by omega) ?_ | refine Ar_u64 (by omega) (by omega) ?_ | refine Ar_u32 (by omega) (by omega) ?_ | refine Nn_in (by omega) ?_ | refine Nz_in (by omega) ?_))
  refine Call_of (len _ (i + 1) _ (by omega) (by omega)) ?_
  rintro v w1 ⟨rfl, rfl⟩
  have e4 : blen (i + 1) = Nat.log2 (i + 1) + 1 := by unfold blen; rw [if_neg (by omega)]
  rw [e4]
  refine Ar_is ((Nat.log2 (i + 1) : Nat) : Int) (by rw [show ((Nat.log2 (i + 1) + 1 : Nat) : Int) - 1 = ((Nat.log2 (i + 1) : Nat) : Int) by omega]; exact wrap_i64 (by omega) (by omega)) ?_
  refine Nn_in (by omega) (Ar_is ((2 ^ Nat.log2 (i + 1) : Nat) : Int) (shl_pow _ e3) ?_)
  generalize hq : 2 ^ Nat.log2 (i + 1) = q at *
  refine Ar_i64 (by omega) (by omega) ?_
  refine Br_eq (fun h3 => ?_) (fun h3 => ?_)
  · refine Nz_in (by omega) (Ar_is ((q / 2 : Nat) : Int) ?_ ?_)
    · rw [show ((q : Int)).tdiv 2 = ((q / 2 : Nat) : Int) by rw [Int.tdiv_eq_ediv_of_nonneg (by omega)]; omega]
      exact wrap_i64 (by omega) (by omega)
    refine Ret_in ⟨?_, rfl⟩
    have : luby n = q / 2 := by rw [← he, luby_eq h1, hq, if_pos (by omega)]
    rw [this]; rfl
  · refine Ar_i64 (by omega) (by omega) ?_
    refine Ar_i64 (by omega) (by omega) ?_
    refine ⟨i - (q - 1), ⟨congrArg some (vint (by omega)), trivial⟩, ⟨rfl, by omega, by omega, ?_⟩, by omega⟩
    rw [← he, luby_eq h1, hq, if_neg (by omega)]

/-! Within, twice -/
theorem within (n : Int) (w : World) : Does Try.prog 11 #[.int .i64 n] w fun v w' => v = .int .i64 (max 1 (min n 1048576)) ∧ w' = w := by
  refine Does_intro tok (Try.call11 _ _) Try.func11 rfl (by rfl) ?_
  refine Br_dec (fun h => ?_) (fun h => ?_)
  · exact Ret_in ⟨vint (by omega), rfl⟩
  · refine Br_dec (fun h => ?_) (fun h => ?_)
    · exact Ret_in ⟨vint (by omega), rfl⟩
    · exact Ret_in ⟨vint (by omega), rfl⟩

theorem within1 (n : Int) (w : World) : Does Try.prog 21 #[.int .i64 n] w fun v w' => v = .int .i64 (max 1 (min n 1048576)) ∧ w' = w := by
  refine Does_intro tok (Try.call21 _ _) Try.func21 rfl (by rfl) ?_
  refine Eqv_in (Eqv_in ?_)
  exact Ret_in ⟨vint (by omega), rfl⟩

/-! The pace in memory -/
def PaceAt (w : World) (b : Nat) (u r a s k : Int) : Prop := At w b 45 [.int .i64 u, .int .i64 r, .int .i64 a, .int .i64 s, .int .i64 k]

theorem new (seed u r : Int) (w : World) : Does Try.prog 10 #[.agg #[.int .u64 seed, .int .i64 u, .int .i64 r]] w fun v w' =>
    ∃ b, v = .pointer (some ⟨b, 0, none⟩) ∧ w.heap.size ≤ b ∧ PaceAt w' b (max 1 (min u 1048576)) (max 1 (min r 1048576)) 0 0 0 ∧ Fr (fun _ => False) w w' := by
  refine Does_intro tok (Try.call10 _ _) Try.func10 rfl (by rfl) ?_
  refine Nw_cells (fun b1 w1 e1 h1 f1 s1 => ?_)
  refine Draw_intro mixed [0, 1, 2, 4, 5, 6, 3, 7, 8, 9, 10] (by decide +kernel) (fun w2 eh f2 => ?_)
  have h2 := h1.heap eh
  refine Ld_at h2 (by rfl) ?_
  refine Ld_at h2 (by rfl) ?_
  refine Call_of (within1 _ _) ?_
  rintro v w3 ⟨rfl, rfl⟩
  refine Kept_in (h2.cell 2) ?_
  refine Call_of (within1 _ _) ?_
  rintro v w4 ⟨rfl, rfl⟩
  refine Nw_cells (fun b2 w5 e5 h5 f5 s5 => ?_)
  have hs1 := f1.size
  have hs2 := f2.size
  exact Ret_in ⟨b2, rfl, by omega, h5, (f1.trans f2).trans f5⟩

/-- One conflict more. -/
theorem conflict (b : Nat) (u r a s k : Int) (n : Nat) (w : World) (h1 : 1 ≤ u) (h2 : u ≤ 1048576) (h3 : 0 ≤ a) (h4 : a ≤ 1048576) (h5 : 0 ≤ s) (h6 : s ≤ 1099511627776) (h7 : k = n) (h8 : n < 1048576)
    (hb : PaceAt w b u r a s k) : Does Try.prog 12 #[.pointer (some ⟨b, 0, none⟩)] w fun v w' => Fr (fun x => x = b) w w' ∧
      ((s + 1 < u * luby (n + 1) ∧ v = .bool false ∧ PaceAt w' b u r (a + 1) (s + 1) k) ∨ (u * luby (n + 1) ≤ s + 1 ∧ v = .bool true ∧ PaceAt w' b u r (a + 1) 0 (k + 1))) := by
  unfold PaceAt at *
  have hl1 := luby_pos _ (n + 1) (Nat.le_refl _) (by omega)
  have hl2 := luby_le _ (n + 1) (Nat.le_refl _) (by omega)
  refine Does_intro tok (Try.call12 _ _) Try.func12 rfl (by rfl) ?_
  refine Ld_at hb (by rfl) ?_
  (repeat (first | refine Br_true ?_ | refine Br_false ?_ | refine Ar_i64 (by omega) (by omega) ?_ | refine Eqv_in ?_ | refine Br_dec_yes (by omega) ?_ | refine Br_dec_no (by omega) ?_ | refine Br_eq_yes (by omega) ?_ | refine Br_eq_no (by omega) ?_ | refine Br_ne_yes (by omega) ?_ | refine Br_ne_no (by omega) ?_ | refine Br_not ?_ | refine Join_dup (Br_dec_yes (by omega) ?_) | refine Join_dup (Br_dec_no (by omega) ?_) | refine Join_dup (Br_eq_yes (by omega) ?_) | refine Join_dup (Br_eq_no (by omega) ?_) | refine Join_dup (Br_ne_yes (by omega) ?_) | refine Join_dup (Br_ne_no (by omega) ?_) | refine Ar_i32 (by omega) (by omega) ?_ | refine Ar_u64 (by omega) (by omega) ?_ | refine Ar_u32 (by omega) (by omega) ?_ | refine Nn_in (by omega) ?_ | refine Nz_in (by omega) ?_))
  refine St_at (i := 2) hb rfl (by simp) (by simp only [List.set_cons_succ, List.set_cons_zero]; rfl) (fun w1 hb1 hf1 hs1 => ?_)
  refine Ld_at hb1 (by rfl) ?_
  (repeat (first | refine Br_true ?_ | refine Br_false ?_ | refine Ar_i64 (by omega) (by omega) ?_ | refine Eqv_in ?_ | refine Br_dec_yes (by omega) ?_ | refine Br_dec_no (by omega) ?_ | refine Br_eq_yes (by omega) ?_ | refine Br_eq_no (by omega) ?_ | refine Br_ne_yes (by omega) ?_ | refine Br_ne_no (by omega) ?_ | refine Br_not ?_ | refine Join_dup (Br_dec_yes (by omega) ?_) | refine Join_dup (Br_dec_no (by omega) ?_) | refine Join_dup (Br_eq_yes (by omega) ?_) | refine Join_dup (Br_eq_no (by omega) ?_) | refine Join_dup (Br_ne_yes (by omega) ?_) | refine Join_dup (Br_ne_no (by omega) ?_) | refine Ar_i32 (by omega) (by omega) ?_ | refine Ar_u64 (by omega) (by omega) ?_ | refine Ar_u32 (by omega) (by omega) ?_ | refine Nn_in (by omega) ?_ | refine Nz_in (by omega) ?_))
  refine St_at (i := 3) hb1 rfl (by simp) (by simp only [List.set_cons_succ, List.set_cons_zero]; rfl) (fun w2 hb2 hf2 hs2 => ?_)
  refine Ld_at hb2 (by rfl) ?_
  (repeat (first | refine Br_true ?_ | refine Br_false ?_ | refine Ar_i64 (by omega) (by omega) ?_ | refine Eqv_in ?_ | refine Br_dec_yes (by omega) ?_ | refine Br_dec_no (by omega) ?_ | refine Br_eq_yes (by omega) ?_ | refine Br_eq_no (by omega) ?_ | refine Br_ne_yes (by omega) ?_ | refine Br_ne_no (by omega) ?_ | refine Br_not ?_ | refine Join_dup (Br_dec_yes (by omega) ?_) | refine Join_dup (Br_dec_no (by omega) ?_) | refine Join_dup (Br_eq_yes (by omega) ?_) | refine Join_dup (Br_eq_no (by omega) ?_) | refine Join_dup (Br_ne_yes (by omega) ?_) | refine Join_dup (Br_ne_no (by omega) ?_) | refine Ar_i32 (by omega) (by omega) ?_ | refine Ar_u64 (by omega) (by omega) ?_ | refine Ar_u32 (by omega) (by omega) ?_ | refine Nn_in (by omega) ?_ | refine Nz_in (by omega) ?_))
  refine Call_of (luby_yes _ (n + 1) _ (by omega) (by omega) (by omega)) ?_
  rintro v w3 ⟨rfl, rfl⟩
  refine Draw_intro mixed [0, 1, 2, 3, 4, 5, 6, 7, 8, 9, 10] (by decide +kernel) (fun w4 eh hf4 => ?_)
  have hb4 := hb2.heap eh
  refine Ld_at hb4 (by rfl) ?_
  refine Ld_at hb4 (by rfl) ?_
  have hm : 0 ≤ u * (luby (n + 1) : Int) ∧ u * (luby (n + 1) : Int) ≤ 1099511627776 := by
    constructor
    · exact Int.mul_nonneg (by omega) (by omega)
    · calc u * (luby (n + 1) : Int) ≤ 1048576 * 1048576 := Int.mul_le_mul (by omega) (by omega) (by omega) (by omega)
        _ ≤ _ := by omega
  generalize hq : u * (luby (n + 1) : Int) = q at *
  refine Ar_i64 (by rw [hq]; omega) (by rw [hq]; omega) ?_
  rw [hq]
  have hfr : Fr (fun x => x = b) w w4 := ((hf1.trans hf2).trans (hf4.mono (fun _ _ h => h.elim)))
  refine Br_dec (fun h => ?_) (fun h => ?_)
  · exact Ret_in ⟨hfr, .inl ⟨h, rfl, hb4⟩⟩
  · refine St_at (i := 3) hb4 rfl (by simp) (by simp only [List.set_cons_succ, List.set_cons_zero]; rfl) (fun w5 hb5 hf5 hs5 => ?_)
    refine Ld_at hb5 (by rfl) ?_
    (repeat (first | refine Br_true ?_ | refine Br_false ?_ | refine Ar_i64 (by omega) (by omega) ?_ | refine Eqv_in ?_ | refine Br_dec_yes (by omega) ?_ | refine Br_dec_no (by omega) ?_ | refine Br_eq_yes (by omega) ?_ | refine Br_eq_no (by omega) ?_ | refine Br_ne_yes (by omega) ?_ | refine Br_ne_no (by omega) ?_ | refine Br_not ?_ | refine Join_dup (Br_dec_yes (by omega) ?_) | refine Join_dup (Br_dec_no (by omega) ?_) | refine Join_dup (Br_eq_yes (by omega) ?_) | refine Join_dup (Br_eq_no (by omega) ?_) | refine Join_dup (Br_ne_yes (by omega) ?_) | refine Join_dup (Br_ne_no (by omega) ?_) | refine Ar_i32 (by omega) (by omega) ?_ | refine Ar_u64 (by omega) (by omega) ?_ | refine Ar_u32 (by omega) (by omega) ?_ | refine Nn_in (by omega) ?_ | refine Nz_in (by omega) ?_))
    refine St_at (i := 4) hb5 rfl (by simp) (by simp only [List.set_cons_succ, List.set_cons_zero]; rfl) (fun w6 hb6 hf6 hs6 => ?_)
    exact Ret_in ⟨hfr.trans (hf5.trans hf6), .inr ⟨by omega, rfl, hb6⟩⟩

theorem restarts (b : Nat) (u r a s k : Int) (w : World) (hb : PaceAt w b u r a s k) : Does Try.prog 15 #[.pointer (some ⟨b, 0, none⟩)] w fun v w' => v = .int .i64 k ∧ w' = w := by
  unfold PaceAt at *
  refine Does_intro tok (Try.call15 _ _) Try.func15 rfl (by rfl) ?_
  refine Ld_at hb (by rfl) ?_
  exact Ret_in ⟨rfl, rfl⟩

theorem conflicts (b : Nat) (u r a s k : Int) (w : World) (hb : PaceAt w b u r a s k) : Does Try.prog 13 #[.pointer (some ⟨b, 0, none⟩)] w fun v w' => v = .int .i64 a ∧ w' = w := by
  unfold PaceAt at *
  refine Does_intro tok (Try.call13 _ _) Try.func13 rfl (by rfl) ?_
  refine Ld_at hb (by rfl) ?_
  exact Ret_in ⟨rfl, rfl⟩

theorem forget (b : Nat) (u r a s k n : Int) (w : World) (h1 : 0 ≤ r) (h2 : r ≤ 1048576) (h3 : 0 ≤ a) (h4 : a ≤ 1048576) (hn : -9223372036854775808 ≤ n ∧ n ≤ 9223372036854775807) (hb : PaceAt w b u r a s k) :
    Does Try.prog 16 #[.pointer (some ⟨b, 0, none⟩), .int .i64 n] w fun v w' => v = .int .i64 (if n < r + a / 10 then 0 else n / 2) ∧ Fr (fun _ => False) w w' ∧ w'.heap = w.heap := by
  unfold PaceAt at *
  refine Does_intro tok (Try.call16 _ _) Try.func16 rfl (by rfl) ?_
  refine Draw_intro mixed [0, 1, 2, 3, 4, 5, 6, 7, 8, 9, 10, 11] (by decide +kernel) (fun w1 eh hf => ?_)
  have hb1 := hb.heap eh
  refine Ld_at hb1 (by rfl) ?_
  refine Ld_at hb1 (by rfl) ?_
  have e1 : a.tdiv 10 = a / 10 := Int.tdiv_eq_ediv_of_nonneg h3
  refine Nz_in (by omega) (Ar_is (a / 10) (by rw [e1]; exact wrap_i64 (by omega) (by omega)) ?_)
  refine Ar_i64 (by omega) (by omega) ?_
  refine Br_dec (fun h => ?_) (fun h => ?_)
  · exact Ret_in ⟨vint (by rw [if_pos h]), hf, eh⟩
  · have e2 : n.tdiv 2 = n / 2 := Int.tdiv_eq_ediv_of_nonneg (by omega)
    refine Nz_in (by omega) (Ar_is (n / 2) (by rw [e2]; exact wrap_i64 (by omega) (by omega)) ?_)
    exact Ret_in ⟨vint (by rw [if_neg h]), hf, eh⟩

/-! Which value is tried first -/
def firstB (seed v : Int) : Bool := decide (seed ≠ 0) && decide (9223372036854775808 ≤ IntKind.u64.wrap (IntKind.u64.wrap (seed * 6364136223846793005) + IntKind.u64.wrap (IntKind.u64.wrap v * 1442695040888963407)))

theorem firstBit (x : Int) : ((IntKind.u64.wrap x).fdiv (2 ^ min ((63 : Int)).toNat IntKind.u64.bits) == 1) = decide (9223372036854775808 ≤ IntKind.u64.wrap x) := by
  have h := wrap_u64_range x
  generalize IntKind.u64.wrap x = y at h ⊢
  have e : (2 : Int) ^ min ((63 : Int)).toNat IntKind.u64.bits = 9223372036854775808 := by decide
  rw [e, Int.fdiv_eq_ediv_of_nonneg _ (by omega)]
  rw [Bool.eq_iff_iff]
  simp only [beq_iff_eq, decide_eq_true_eq]
  omega

theorem first (seed v : Int) (w : World) : Does Try.prog 17 #[.int .u64 seed, .int .i64 v] w fun r w' => r = .bool (firstB seed v) ∧ w' = w := by
  refine Does_intro tok (Try.call17 _ _) Try.func17 rfl (by rfl) ?_
  refine Br_ne (fun h => ?_) (fun h => ?_)
  · (repeat (first | refine Br_true ?_ | refine Br_false ?_))
    refine Ar_any (fun r1 e1 => ?_)
    (repeat (first | refine Br_true ?_ | refine Br_false ?_))
    refine Ar_any (fun r2 e2 => ?_)
    (repeat (first | refine Br_true ?_ | refine Br_false ?_))
    refine Ar_any (fun r3 e3 => ?_)
    (repeat (first | refine Br_true ?_ | refine Br_false ?_))
    refine Ar_any (fun r4 e4 => ?_)
    (repeat (first | refine Br_true ?_ | refine Br_false ?_))
    refine Nn_in (by omega) (Eqv_in ?_)
    (repeat (first | refine Br_true ?_ | refine Br_false ?_))
    refine Ret_in ⟨?_, rfl⟩
    subst e1 e2 e3 e4
    show Value.bool _ = Value.bool _
    rw [firstBit, firstB, decide_eq_true h, Bool.true_and]
  · (repeat (first | refine Br_true ?_ | refine Br_false ?_))
    refine Ret_in ⟨?_, rfl⟩
    show Value.bool _ = Value.bool _
    rw [firstB, decide_eq_false (by simpa using h), Bool.false_and]

theorem mul64 (x y : Int) (w : World) : Does Try.prog 22 #[.int .u64 x, .int .u64 y] w fun r w' => (∃ hi, r = .tuple #[.int .u64 hi, .int .u64 (IntKind.u64.wrap (x * y))]) ∧ w' = w := by
  refine Does_intro tok (Try.call22 _ _) Try.func22 rfl (by rfl) ?_
  refine Eqv_in ?_
  refine Nn_in (by omega) (Eqv_in ?_)
  refine Eqv_in ?_
  refine Nn_in (by omega) (Eqv_in ?_)
  refine Ar_any (fun r1 _ => ?_)
  refine Ar_any (fun r2 _ => ?_)
  refine Nn_in (by omega) (Eqv_in ?_)
  refine Ar_any (fun r3 _ => ?_)
  refine Eqv_in ?_
  refine Nn_in (by omega) (Eqv_in ?_)
  refine Ar_any (fun r4 _ => ?_)
  refine Ar_any (fun r5 _ => ?_)
  refine Ar_any (fun r6 _ => ?_)
  refine Ar_any (fun r7 _ => ?_)
  refine Nn_in (by omega) (Eqv_in ?_)
  refine Ar_any (fun r8 _ => ?_)
  refine Ar_any (fun r9 e9 => ?_)
  subst e9
  exact Ret_in ⟨⟨_, rfl⟩, rfl⟩

theorem add64 (x y : Int) (w : World) (hx : 0 ≤ x) (hy : 0 ≤ y) : (callFunc 23 #[.int .u64 x, .int .u64 y, .int .u64 0]).run Try.prog w = .ok (.value (.tuple #[.int .u64 ((x + y + 0) % 18446744073709551616), .int .u64 ((x + y + 0) / 18446744073709551616)])) w :=
  callFunc_ext (e := add64Entry) Try.func23 (by kernel_rfl) (by kernel_rfl) (by kernel_rfl) (by kernel_rfl) (run_add64 x y 0 hx hy (by omega) (by omega) w)

theorem refFirst (seed v : Int) (w : World) : Does Try.prog 18 #[.int .u64 seed, .int .i64 v] w fun r w' => r = .bool (firstB seed v) ∧ w' = w := by
  refine Does_intro tok (Try.call18 _ _) Try.func18 rfl (by rfl) ?_
  refine Br_eq (fun h => ?_) (fun h => ?_)
  · refine Ret_in ⟨?_, rfl⟩
    show Value.bool _ = Value.bool _
    rw [firstB, decide_eq_false (by simpa using h), Bool.false_and]
  · refine Call_of (mul64 _ _ _) ?_
    rintro r w1 ⟨⟨hi, rfl⟩, rfl⟩
    refine Ar_any (fun r2 e2 => ?_)
    refine Call_of (mul64 _ _ _) ?_
    rintro r w2 ⟨⟨hi2, rfl⟩, rfl⟩
    subst e2
    refine Call_ext (add64 _ _ _ (wrap_u64_range _).1 (wrap_u64_range _).1) ?_
    refine Ret_in ⟨?_, rfl⟩
    show Value.bool _ = Value.bool _
    rw [firstB, decide_eq_true h, Bool.true_and, Int.add_zero]
    rfl

/-! The first of Luby's numbers, in a row -/
def lubs (n : Nat) : List Value := (List.range n).map fun i => .int .i64 (luby (i + 1))

theorem lubs_len (n : Nat) : (lubs n).length = n := by simp [lubs]
theorem lubs_get {n j : Nat} (h : j < n) : (lubs n)[j]? = some (.int .i64 (luby (j + 1))) := by simp [lubs, h]
theorem lubs_one {n : Nat} : ∀ u ∈ lubs n, oneCell u = true := by
  intro u hu
  simp only [lubs, List.mem_map] at hu
  obtain ⟨i, _, rfl⟩ := hu
  rfl

theorem lubs_1 : lubs 1 = [.int .i64 1] := by
  have : luby 1 = 1 := by decide +kernel
  simp [lubs, this]

theorem lubs_double (k : Nat) : lubs (2 ^ (k + 1) - 1) ++ lubs (2 ^ (k + 1) - 1) ++ [.int .i64 (2 * (2 ^ k : Nat))] = lubs (2 ^ (k + 1 + 1) - 1) := by
  have h := Nat.two_pow_pos k
  have hp : (2 : Nat) ^ (k + 1) = 2 * 2 ^ k := by rw [Nat.pow_succ]; omega
  have hp2 : (2 : Nat) ^ (k + 1 + 1) = 2 * 2 ^ (k + 1) := by rw [Nat.pow_succ]; omega
  apply List.ext_getElem?
  intro j
  generalize hn : 2 ^ (k + 1) - 1 = n at *
  have hn2 : 2 ^ (k + 1 + 1) - 1 = n + n + 1 := by omega
  rw [hn2]
  have hll : (lubs n ++ lubs n).length = n + n := by simp [lubs_len]
  by_cases h1 : j < n
  · rw [List.append_assoc, List.getElem?_append_left (by rw [lubs_len]; exact h1), lubs_get h1, lubs_get (by omega)]
  · by_cases h2 : j < n + n
    · rw [List.getElem?_append_left (by rw [hll]; exact h2), List.getElem?_append_right (by rw [lubs_len]; omega), lubs_len, lubs_get (by omega), lubs_get (by omega)]
      have := luby_again (k := k) (j := j - n + 1) (by omega) (by omega)
      rw [hn, show n + (j - n + 1) = j + 1 by omega] at this
      rw [this]
    · rw [List.getElem?_append_right (by rw [hll]; omega), hll]
      by_cases h3 : j = n + n
      · subst h3
        rw [lubs_get (by omega), Nat.sub_self]
        have := luby_top (k + 1)
        rw [hn2] at this
        rw [this, hp]
        simp
      · rw [List.getElem?_eq_none (by simp; omega), List.getElem?_eq_none (by rw [lubs_len]; omega)]

theorem row (many : Int) (n : Nat) (w : World) (h : many = n) (hn : n ≤ 1000000) : Does Try.prog 14 #[.int .i64 many] w fun v w' =>
    ∃ a m cap, v = .slice a m cap ∧ Own w' a m cap 3 1 (lubs m) ∧ n ≤ m ∧ 1 ≤ m ∧ Fr (fun _ => False) w w' ∧ ∀ b, Blk a b → w.heap.size ≤ b := by
  subst h
  refine Does_intro tok (Try.call14 _ _) Try.func14 rfl (by rfl) ?_
  refine Nw_cells (fun b1 w1 e1 h1 f1 s1 => ?_)
  have h1' : At w1 b1 3 (lubs 1) := by rw [lubs_1]; exact h1
  refine Loop_intro (σ := Nat × Option Addr × Nat) (fun s => [(3, .slice s.2.1 (2 ^ (s.1 + 1) - 1) s.2.2)])
    (fun s w' => Own w' s.2.1 (2 ^ (s.1 + 1) - 1) s.2.2 3 1 (lubs (2 ^ (s.1 + 1) - 1)) ∧ 2 ^ (s.1 + 1) - 1 ≤ 2 * n + 1 ∧ Fr (fun _ => False) w w' ∧ ∀ b, Blk s.2.1 b → w.heap.size ≤ b)
    (fun s => 2 * n + 1 - (2 ^ (s.1 + 1) - 1)) (0, some ⟨b1, 0, none⟩, 1) ⟨rfl, trivial⟩ ⟨Own.ofAt h1' rfl (by show 1 ≤ maxLen; decide), by show 1 ≤ 2 * n + 1; omega, f1, by rintro b hb; cases hb; omega⟩ ?_
  rintro ⟨k, a, cap⟩ w2 ⟨ho, hm, hf, hb⟩
  simp only at ho hm hf hb ⊢
  have h := Nat.two_pow_pos k
  have hp : (2 : Nat) ^ (k + 1) = 2 * 2 ^ k := by rw [Nat.pow_succ]; omega
  have hp2 : (2 : Nat) ^ (k + 1 + 1) = 2 * 2 ^ (k + 1) := by rw [Nat.pow_succ]; omega
  have hd := lubs_double k
  have htop := luby_top k
  generalize hN : 2 ^ (k + 1) - 1 = N at *
  obtain ⟨b, rfl⟩ := ho.some (by omega)
  refine Br_dec (fun hlt => ?_) (fun hlt => ?_)
  · refine Ar_i64 (by omega) (by omega) ?_
    refine Ix_in (N - 1) (by omega) (by omega) ?_
    refine Ld_own ho (lubs_get (by omega)) ?_
    rw [show N - 1 + 1 = N by omega, htop]
    refine Nw_cells (fun b3 w3 e3 h3 f3 s3 => ?_)
    have hne : ∀ x, Blk (some ⟨b, 0, none⟩) x → x < w2.heap.size := fun x hx => ho.lt hx
    have ho3 := ho.fr f3 (fun _ _ h => h)
    refine ⟨?_⟩
    have g3 : Own w3 (some ⟨b3, 0, none⟩) 0 0 3 1 [] := Own.ofAt h3 rfl (by unfold maxLen; omega)
    refine (append_own tok rfl rfl rfl rfl rfl (by decide) g3 ho3.src lubs_one (by omega) (by unfold maxLen; omega) ?_).out
    intro a4 c4 w4 g4 f4 k4
    simp only [Nat.zero_add, List.nil_append] at g4 ⊢
    have ho4 : Own w4 (some ⟨b, 0, none⟩) N cap 3 1 (lubs N) := ho3.fr f4 (by
      rintro x hx hx'
      cases hx; cases hx'
      have := hne b rfl; omega)
    have hb4 : ∀ x, Blk a4 x → w2.heap.size ≤ x := by
      intro x hx
      rcases k4 with rfl | ⟨b', rfl, hb'⟩
      · cases hx; omega
      · cases hx; omega
    refine ⟨(append_own tok rfl rfl rfl rfl rfl (by decide) g4 ho4.src lubs_one (by omega) (by unfold maxLen; omega) ?_).out⟩
    intro a5 c5 w5 g5 f5 k5
    refine Ar_i64 (by omega) (by omega) ?_
    refine Nw_cells (fun b6 w6 e6 h6 f6 s6 => ?_)
    have hb5 : ∀ x, Blk a5 x → w2.heap.size ≤ x := by
      intro x hx
      rcases k5 with rfl | ⟨b', rfl, hb'⟩
      · exact hb4 x hx
      · cases hx; have := f4.size; have := f3.size; omega
    have g6 := g5.fr f6 (fun _ _ h => h)
    have q6 : Own w6 (some ⟨b6, 0, none⟩) 1 1 3 1 [.int .i64 (2 * (2 ^ k : Nat))] := Own.ofAt h6 rfl (by unfold maxLen; omega)
    refine ⟨(append_own tok rfl rfl rfl rfl rfl (by decide) g6 q6.src (by simp [oneCell]) (by omega) (by unfold maxLen; omega) ?_).out⟩
    intro a7 c7 w7 g7 f7 k7
    refine ⟨(k + 1, a7, c7), ⟨congrArg some ?_, trivial⟩, ⟨?_, ?_, ?_, ?_⟩, ?_⟩
    · show Value.slice a7 (N + N + 1) c7 = Value.slice a7 (2 ^ (k + 1 + 1) - 1) c7
      congr 1; omega
    · simp only
      rw [hd] at g7
      rw [show 2 ^ (k + 1 + 1) - 1 = N + N + 1 by omega] at g7 ⊢
      exact g7
    · simp only; omega
    · have t1 := f3.trans' f4 (fun x hx h => by have := hb4; cases h; omega)
      have t2 := t1.trans' f5 (fun x hx h => by have := hb4 x h; omega)
      have t3 := (t2.trans f6).trans' f7 (fun x hx h => by have := hb5 x h; omega)
      exact hf.trans t3
    · intro x hx
      have := hf.size
      rcases k7 with rfl | ⟨b', rfl, hb'⟩
      · have := hb5 x hx; omega
      · cases hx
        have := f3.size; have := f4.size; have := f5.size; have := f6.size; omega
    · simp only; omega
  · exact Ret_in ⟨_, _, _, rfl, ho, by omega, by omega, hf, hb⟩

theorem refLuby_no (i : Int) (w : World) (h : i < 1 ∨ 1048576 < i) : Does Try.prog 19 #[.int .i64 i] w fun v w' => v = .tuple #[.int .i64 0, .int .i64 71] ∧ w' = w := by
  refine Does_intro tok (Try.call19 _ _) Try.func19 rfl (by rfl) ?_
  refine Br_dec (fun h1 => ?_) (fun h1 => ?_)
  · (repeat (first | refine Br_true ?_ | refine Br_false ?_))
    exact Ret_in ⟨rfl, rfl⟩
  · (repeat (first | refine Br_true ?_ | refine Br_false ?_))
    refine Br_dec_yes (by omega) ?_
    exact Ret_in ⟨rfl, rfl⟩

theorem refLuby_yes (i : Int) (n : Nat) (w : World) (h : i = n) (h1 : 1 ≤ n) (h2 : n ≤ 1000000) : Does Try.prog 19 #[.int .i64 i] w fun v w' => v = .tuple #[.int .i64 (luby n), .int .i64 0] ∧ Fr (fun _ => False) w w' := by
  subst h
  refine Does_intro tok (Try.call19 _ _) Try.func19 rfl (by rfl) ?_
  refine Br_dec_no (by omega) ?_
  (repeat (first | refine Br_true ?_ | refine Br_false ?_))
  refine Br_dec_no (by omega) ?_
  refine Call_of (row _ n _ rfl h2) ?_
  rintro v w1 ⟨a, m, cap, rfl, ho, hm, hm1, hf, _⟩
  obtain ⟨b, rfl⟩ := ho.some (by omega)
  refine Ar_i64 (by omega) (by omega) ?_
  refine Ix_in (n - 1) (by omega) (by omega) ?_
  refine Ld_own ho (lubs_get (by omega)) ?_
  rw [show n - 1 + 1 = n by omega]
  exact Ret_in ⟨rfl, hf⟩

/-! The chapter's examples -/
theorem alive (w : World) : Does Try.prog 9 #[] w fun v w' => v = .bool true ∧ Fr (fun _ => False) w w' := by
  have l7 : luby 7 = 4 := by decide +kernel
  have l8 : luby 8 = 1 := by decide +kernel
  have l1 : luby 1 = 1 := by decide +kernel
  refine Does_intro tok (Try.call9 _ _) Try.func9 rfl (by rfl) ?_
  refine Call_of (luby_yes _ 7 _ rfl (by omega) (by omega)) ?_
  rintro v w1 ⟨rfl, rfl⟩
  refine Call_of (luby_yes _ 8 _ rfl (by omega) (by omega)) ?_
  rintro v w2 ⟨rfl, rfl⟩
  rw [l7, l8]
  refine Call_of (new _ _ _ _) ?_
  rintro v w3 ⟨b, rfl, hb, hp, hf⟩
  (repeat (first | refine Br_true ?_ | refine Br_false ?_ | refine Ar_i64 (by omega) (by omega) ?_ | refine Eqv_in ?_ | refine Br_dec_yes (by omega) ?_ | refine Br_dec_no (by omega) ?_ | refine Br_eq_yes (by omega) ?_ | refine Br_eq_no (by omega) ?_ | refine Br_ne_yes (by omega) ?_ | refine Br_ne_no (by omega) ?_ | refine Br_not ?_ | refine Join_dup (Br_dec_yes (by omega) ?_) | refine Join_dup (Br_dec_no (by omega) ?_) | refine Join_dup (Br_eq_yes (by omega) ?_) | refine Join_dup (Br_eq_no (by omega) ?_) | refine Join_dup (Br_ne_yes (by omega) ?_) | refine Join_dup (Br_ne_no (by omega) ?_) | refine Ar_i32 (by omega) (by omega) ?_ | refine Ar_u64 (by omega) (by omega) ?_ | refine Ar_u32 (by omega) (by omega) ?_ | refine Nn_in (by omega) ?_ | refine Nz_in (by omega) ?_))
  refine Do_ptr_ne_nil tok rfl ?_
  (repeat (first | refine Br_true ?_ | refine Br_false ?_))
  refine Call_of (conflict b _ _ _ _ _ 0 _ (by omega) (by omega) (by omega) (by omega) (by omega) (by omega) rfl (by omega) hp) ?_
  rintro v w4 ⟨hf4, ⟨h, rfl, hp4⟩ | ⟨h, rfl, hp4⟩⟩
  · (repeat (first | refine Br_true ?_ | refine Br_false ?_ | refine Ar_i64 (by omega) (by omega) ?_ | refine Eqv_in ?_ | refine Br_dec_yes (by omega) ?_ | refine Br_dec_no (by omega) ?_ | refine Br_eq_yes (by omega) ?_ | refine Br_eq_no (by omega) ?_ | refine Br_ne_yes (by omega) ?_ | refine Br_ne_no (by omega) ?_ | refine Br_not ?_ | refine Join_dup (Br_dec_yes (by omega) ?_) | refine Join_dup (Br_dec_no (by omega) ?_) | refine Join_dup (Br_eq_yes (by omega) ?_) | refine Join_dup (Br_eq_no (by omega) ?_) | refine Join_dup (Br_ne_yes (by omega) ?_) | refine Join_dup (Br_ne_no (by omega) ?_) | refine Ar_i32 (by omega) (by omega) ?_ | refine Ar_u64 (by omega) (by omega) ?_ | refine Ar_u32 (by omega) (by omega) ?_ | refine Nn_in (by omega) ?_ | refine Nz_in (by omega) ?_))
    refine Call_of (conflict b _ _ _ _ _ 0 _ (by omega) (by omega) (by omega) (by omega) (by omega) (by omega) rfl (by omega) hp4) ?_
    rintro v w5 ⟨hf5, ⟨h5, rfl, hp5⟩ | ⟨h5, rfl, hp5⟩⟩
    · rw [l1] at h5; omega
    · (repeat (first | refine Br_true ?_ | refine Br_false ?_))
      refine Call_of (restarts b _ _ _ _ _ _ hp5) ?_
      rintro v w6 ⟨rfl, rfl⟩
      (repeat (first | refine Br_true ?_ | refine Br_false ?_ | refine Ar_i64 (by omega) (by omega) ?_ | refine Eqv_in ?_ | refine Br_dec_yes (by omega) ?_ | refine Br_dec_no (by omega) ?_ | refine Br_eq_yes (by omega) ?_ | refine Br_eq_no (by omega) ?_ | refine Br_ne_yes (by omega) ?_ | refine Br_ne_no (by omega) ?_ | refine Br_not ?_ | refine Join_dup (Br_dec_yes (by omega) ?_) | refine Join_dup (Br_dec_no (by omega) ?_) | refine Join_dup (Br_eq_yes (by omega) ?_) | refine Join_dup (Br_eq_no (by omega) ?_) | refine Join_dup (Br_ne_yes (by omega) ?_) | refine Join_dup (Br_ne_no (by omega) ?_) | refine Ar_i32 (by omega) (by omega) ?_ | refine Ar_u64 (by omega) (by omega) ?_ | refine Ar_u32 (by omega) (by omega) ?_ | refine Nn_in (by omega) ?_ | refine Nz_in (by omega) ?_))
      refine Call_of (conflicts b _ _ _ _ _ _ hp5) ?_
      rintro v w6 ⟨rfl, rfl⟩
      (repeat (first | refine Br_true ?_ | refine Br_false ?_ | refine Ar_i64 (by omega) (by omega) ?_ | refine Eqv_in ?_ | refine Br_dec_yes (by omega) ?_ | refine Br_dec_no (by omega) ?_ | refine Br_eq_yes (by omega) ?_ | refine Br_eq_no (by omega) ?_ | refine Br_ne_yes (by omega) ?_ | refine Br_ne_no (by omega) ?_ | refine Br_not ?_ | refine Join_dup (Br_dec_yes (by omega) ?_) | refine Join_dup (Br_dec_no (by omega) ?_) | refine Join_dup (Br_eq_yes (by omega) ?_) | refine Join_dup (Br_eq_no (by omega) ?_) | refine Join_dup (Br_ne_yes (by omega) ?_) | refine Join_dup (Br_ne_no (by omega) ?_) | refine Ar_i32 (by omega) (by omega) ?_ | refine Ar_u64 (by omega) (by omega) ?_ | refine Ar_u32 (by omega) (by omega) ?_ | refine Nn_in (by omega) ?_ | refine Nz_in (by omega) ?_))
      refine Ret_in ⟨rfl, hf.trans' (hf4.trans hf5) (fun x hx h => by omega)⟩
  · rw [l1] at h; omega

end Go.Proofs.Ytflijifejodjjaa
