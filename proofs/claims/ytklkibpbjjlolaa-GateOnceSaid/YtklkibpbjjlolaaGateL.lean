/- What the laws' helpers do: tables, makers. -/
import Derived.Test.YtklkibpbjjlolaaGateP
namespace Go.Proofs.Ytklkibpbjjlolaa
open Go Go.Vc Go.Gate
set_option linter.unusedVariables false
set_option linter.unusedSimpArgs false
set_option maxHeartbeats 4000000
set_option maxRecDepth 100000

abbrev tV (t : Tb) : Value := .int .u64 (t.toNat : Int)

theorem tb_int (t : Tb) : BitVec.ofInt 64 (t.toNat : Int) = t := by
  rw [BitVec.ofInt_natCast, BitVec.ofNat_toNat, BitVec.setWidth_eq]
theorem wrap_tb (t : Tb) : IntKind.u64.wrap (t.toNat : Int) = t.toNat := by
  have := t.isLt
  exact wrap_u64 (by omega) (by omega)
theorem Eqv_andT {a b : Tb} {K : Int → Prop} (hk : K ((a &&& b).toNat : Int)) : Eqv (IntKind.u64.wrap ((BitVec.ofInt IntKind.u64.bits (a.toNat : Int) &&& BitVec.ofInt IntKind.u64.bits (b.toNat : Int)).toNat : Int)) K :=
  Eqv_is _ (by show IntKind.u64.wrap ((BitVec.ofInt 64 (a.toNat : Int) &&& BitVec.ofInt 64 (b.toNat : Int)).toNat : Int) = _; rw [tb_int, tb_int, wrap_tb]) hk
theorem Eqv_orT {a b : Tb} {K : Int → Prop} (hk : K ((a ||| b).toNat : Int)) : Eqv (IntKind.u64.wrap ((BitVec.ofInt IntKind.u64.bits (a.toNat : Int) ||| BitVec.ofInt IntKind.u64.bits (b.toNat : Int)).toNat : Int)) K :=
  Eqv_is _ (by show IntKind.u64.wrap ((BitVec.ofInt 64 (a.toNat : Int) ||| BitVec.ofInt 64 (b.toNat : Int)).toNat : Int) = _; rw [tb_int, tb_int, wrap_tb]) hk
theorem Eqv_xorT {a b : Tb} {K : Int → Prop} (hk : K ((a ^^^ b).toNat : Int)) : Eqv (IntKind.u64.wrap ((BitVec.ofInt IntKind.u64.bits (a.toNat : Int) ^^^ BitVec.ofInt IntKind.u64.bits (b.toNat : Int)).toNat : Int)) K :=
  Eqv_is _ (by show IntKind.u64.wrap ((BitVec.ofInt 64 (a.toNat : Int) ^^^ BitVec.ofInt 64 (b.toNat : Int)).toNat : Int) = _; rw [tb_int, tb_int, wrap_tb]) hk
theorem not_run (t : Tb) (w : World) : (Op.unary .xor (tV t)).run Try.prog w = .ok (tV (~~~ t)) w := by
  have h : ((BitVec.ofInt 64 (18446744073709551615 : Int)) ^^^ BitVec.ofInt 64 (t.toNat : Int)) = ~~~ t := by
    rw [tb_int]
    have : BitVec.ofInt 64 (18446744073709551615 : Int) = BitVec.allOnes 64 := by decide
    rw [this, BitVec.allOnes_xor]
  have h2 : IntKind.u64.wrap (((BitVec.ofInt 64 (18446744073709551615 : Int)) ^^^ BitVec.ofInt 64 (t.toNat : Int)).toNat : Int) = ((~~~ t).toNat : Int) := by rw [h, wrap_tb]
  show (Op.intBits .xor .u64 18446744073709551615 (t.toNat : Int)).run Try.prog w = _
  simp only [Op.intBits]
  rw [show IntKind.u64.bits = 64 from rfl] at *
  simp only [h2, Sem.run_pure]
theorem Do_notT {t : Tb} {w : World} {K : Value → World → Prop} (h : K (tV (~~~ t)) w) : Do Try.prog (Op.unary .xor (tV t)) w K := ⟨_, w, not_run t w, h⟩
theorem DoS_notT {t : Tb} {w : World} {K : Value → Option (World → Prop) → Prop} (h : ∀ J : World → Prop, (∀ w, J w) → K (tV (~~~ t)) (some J)) : DoS Try.prog (Op.unary .xor (tV t)) w K := ⟨_, not_run t w, h _ fun w => not_run t w⟩

theorem shr_nat {n i k : Nat} (h : i ≤ k) : ((n : Int).fdiv (2 ^ min ((i : Int).toNat) k)) = ((n / 2 ^ i : Nat) : Int) := by
  rw [Int.toNat_natCast, Nat.min_eq_left h, Int.fdiv_eq_ediv_of_nonneg _ (by exact Int.le_of_lt (Int.pow_pos (by decide)))]
  rw [Int.natCast_ediv, Int.natCast_pow]; rfl
theorem Eqv_shrU {n i : Nat} {K : Int → Prop} (h : i ≤ 64) (hk : K ((n / 2 ^ i : Nat) : Int)) : Eqv ((n : Int).fdiv (2 ^ min ((i : Int).toNat) IntKind.u64.bits)) K := Eqv_is _ (shr_nat h) hk
theorem Eqv_shrI {n i : Nat} {K : Int → Prop} (h : i ≤ 64) (hk : K ((n / 2 ^ i : Nat) : Int)) : Eqv ((n : Int).fdiv (2 ^ min ((i : Int).toNat) IntKind.i64.bits)) K := Eqv_is _ (shr_nat h) hk
theorem Ar_shl {r : Nat} {K : Int → Prop} (h : r ≤ 63) (hk : K ((2 ^ r : Nat) : Int)) : Ar .u64 (1 * 2 ^ min ((r : Int).toNat) IntKind.u64.bits) K := by
  have h1 : (2 ^ r : Nat) ≤ 2 ^ 63 := Nat.pow_le_pow_right (by decide) h
  have e : (1 * 2 ^ min ((r : Int).toNat) IntKind.u64.bits : Int) = ((2 ^ r : Nat) : Int) := by
    rw [Int.toNat_natCast, Int.one_mul, show IntKind.u64.bits = 64 from rfl, Nat.min_eq_left (by omega), Int.natCast_pow]; rfl
  refine Ar_is _ ?_ hk
  rw [e]
  exact wrap_u64 (Int.natCast_nonneg _) (by omega)

theorem tbs_get {L : List Tb} {i : Nat} (h : i < L.length) : (L.map tV)[i]? = some (tV (L[i]?.getD 0)) := by
  rw [List.getElem?_map, List.getElem?_eq_getElem h]; rfl
theorem edges_get {L : List Nat} {i : Nat} (h : i < L.length) : (L.map eV)[i]? = some (eV (L[i]?.getD 0)) := by
  rw [List.getElem?_map, List.getElem?_eq_getElem h]; rfl
theorem tbs_one {L : List Tb} : ∀ u ∈ L.map tV, oneCell u = true := by
  intro u hu
  obtain ⟨x, _, rfl⟩ := List.mem_map.1 hu
  rfl

section
variable {w0 w : World} {l : List Res} {b : Nat} {ps : List (Nat × Nat)} {ins : List Nat}

theorem rInput {i : Nat} (hi : i < 6) (w : World) : Does Try.prog 25 #[.int .i64 (i : Int)] w fun v w' => v = tV (inT i) ∧ w = w' := by
  refine Does_intro tok (Try.call25 _ _) Try.func25 rfl (by rfl) ?_
  refine Loop_intro (fun r : Nat => [(4, .int .i64 (r : Int)), (3, .int .u64 (inTb i r : Int))]) (fun r w' => w = w' ∧ r ≤ 64) (fun r => 64 - r) 0 ⟨rfl, rfl, trivial⟩ ⟨rfl, by omega⟩ ?_
  rintro r _ ⟨rfl, hr⟩
  simp only [] at hr ⊢
  refine Br_dec (fun k => ?_) (fun k => ?_)
  · have hlt := inTb_lt i r
    have h63 : (2 ^ r : Nat) ≤ 2 ^ 63 := Nat.pow_le_pow_right (by decide) (by omega)
    have hsh : r >>> i = r / 2 ^ i := Nat.shiftRight_eq_div_pow r i
    have hn : inTb i (r + 1) = if (r >>> i) % 2 = 1 then inTb i r + 2 ^ r else inTb i r := rfl
    rw [hsh] at hn
    by_cases hb : r / 2 ^ i % 2 = 1
    · rw [if_pos hb] at hn
      (repeat ((try conv => whnf); first | refine Join_dup ?_ | (refine Br_gate ?_; first | with_reducible refine Br_not ?_ | refine xB ?_ | refine xC ?_) | (refine Ld_gate ?_; refine xL ?_) | (refine LdN_gate ?_; refine xM ?_) | (refine St_gate ?_; refine xS ?_; clear H; intro w H) | (refine StN_gate ?_; refine xN ?_; clear H; intro w H) | (refine Kept_gate ?_; refine xK ?_) | (refine Ar_gate ?_; first | (first | with_reducible refine Ar_halfU (by omega) ?_ | with_reducible refine Ar_shl (by omega) ?_) | refine xA ?_) | (first | with_reducible refine Eqv_flip (by omega) ?_ | with_reducible refine Eqv_odd ?_ | with_reducible refine Eqv_shrU (by omega) ?_ | with_reducible refine Eqv_shrI (by omega) ?_ | with_reducible refine Eqv_andT ?_ | with_reducible refine Eqv_orT ?_ | with_reducible refine Eqv_xorT ?_ | refine Eqv_in ?_) | refine Do_ptr_eq_nil tok rfl ?_ | refine Do_ptr_ne_nil tok rfl ?_ | refine Do_nil_eq_nil tok rfl ?_ | refine Nn_in (by omega) ?_ | refine Nz_in (by omega) ?_))
      exact ⟨r + 1, ⟨congrArg some (vint (by omega)), congrArg some (vint (by rw [hn]; omega)), trivial⟩, ⟨rfl, by omega⟩, by omega⟩
    · rw [if_neg hb] at hn
      (repeat ((try conv => whnf); first | refine Join_dup ?_ | (refine Br_gate ?_; first | with_reducible refine Br_not ?_ | refine xB ?_ | refine xC ?_) | (refine Ld_gate ?_; refine xL ?_) | (refine LdN_gate ?_; refine xM ?_) | (refine St_gate ?_; refine xS ?_; clear H; intro w H) | (refine StN_gate ?_; refine xN ?_; clear H; intro w H) | (refine Kept_gate ?_; refine xK ?_) | (refine Ar_gate ?_; first | (first | with_reducible refine Ar_halfU (by omega) ?_ | with_reducible refine Ar_shl (by omega) ?_) | refine xA ?_) | (first | with_reducible refine Eqv_flip (by omega) ?_ | with_reducible refine Eqv_odd ?_ | with_reducible refine Eqv_shrU (by omega) ?_ | with_reducible refine Eqv_shrI (by omega) ?_ | with_reducible refine Eqv_andT ?_ | with_reducible refine Eqv_orT ?_ | with_reducible refine Eqv_xorT ?_ | refine Eqv_in ?_) | refine Do_ptr_eq_nil tok rfl ?_ | refine Do_ptr_ne_nil tok rfl ?_ | refine Do_nil_eq_nil tok rfl ?_ | refine Nn_in (by omega) ?_ | refine Nz_in (by omega) ?_))
      exact ⟨r + 1, ⟨congrArg some (vint (by omega)), congrArg some (vint (by rw [hn])), trivial⟩, ⟨rfl, by omega⟩, by omega⟩
  · obtain rfl : r = 64 := by omega
    (repeat ((try conv => whnf); first | refine Join_dup ?_ | (refine Br_gate ?_; first | with_reducible refine Br_not ?_ | refine xB ?_ | refine xC ?_) | (refine Ld_gate ?_; refine xL ?_) | (refine LdN_gate ?_; refine xM ?_) | (refine St_gate ?_; refine xS ?_; clear H; intro w H) | (refine StN_gate ?_; refine xN ?_; clear H; intro w H) | (refine Kept_gate ?_; refine xK ?_) | (refine Ar_gate ?_; first | (first | with_reducible refine Ar_halfU (by omega) ?_ | with_reducible refine Ar_shl (by omega) ?_) | refine xA ?_) | (first | with_reducible refine Eqv_flip (by omega) ?_ | with_reducible refine Eqv_odd ?_ | with_reducible refine Eqv_shrU (by omega) ?_ | with_reducible refine Eqv_shrI (by omega) ?_ | with_reducible refine Eqv_andT ?_ | with_reducible refine Eqv_orT ?_ | with_reducible refine Eqv_xorT ?_ | refine Eqv_in ?_) | refine Do_ptr_eq_nil tok rfl ?_ | refine Do_ptr_ne_nil tok rfl ?_ | refine Do_nil_eq_nil tok rfl ?_ | refine Nn_in (by omega) ?_ | refine Nz_in (by omega) ?_))
    refine Ret_in ⟨vint ?_, rfl⟩
    have := inTb_lt i 64
    unfold inT
    rw [BitVec.toNat_ofNat, Nat.mod_eq_of_lt this]

theorem rRow (H : Sep w0 w l) {r : Nat} (hr : r < 64) : Does Try.prog 23 #[.int .i64 (r : Int)] w fun v w' => ∃ a c, v = .slice a 6 c ∧ Sep w0 w' (ownR a 6 c 4 1 ((rowV r).map bV) :: l) := by
  refine Does_intro tok (Try.call23 _ _) Try.func23 rfl (by rfl) ?_
  (repeat ((try conv => whnf); first | refine Join_dup ?_ | (refine Br_gate ?_; first | with_reducible refine Br_not ?_ | refine xB ?_ | refine xC ?_) | (refine Ld_gate ?_; refine xL ?_) | (refine LdN_gate ?_; refine xM ?_) | (refine St_gate ?_; refine xS ?_; clear H; intro w H) | (refine StN_gate ?_; refine xN ?_; clear H; intro w H) | (refine Kept_gate ?_; refine xK ?_) | (refine Ar_gate ?_; first | (first | with_reducible refine Ar_halfU (by omega) ?_ | with_reducible refine Ar_shl (by omega) ?_) | refine xA ?_) | (first | with_reducible refine Eqv_flip (by omega) ?_ | with_reducible refine Eqv_odd ?_ | with_reducible refine Eqv_shrU (by omega) ?_ | with_reducible refine Eqv_shrI (by omega) ?_ | with_reducible refine Eqv_andT ?_ | with_reducible refine Eqv_orT ?_ | with_reducible refine Eqv_xorT ?_ | refine Eqv_in ?_) | refine Do_ptr_eq_nil tok rfl ?_ | refine Do_ptr_ne_nil tok rfl ?_ | refine Do_nil_eq_nil tok rfl ?_ | refine Nn_in (by omega) ?_ | refine Nz_in (by omega) ?_))
  (refine Nw_sep H ?_; clear H; intro nb w H; (try simp only [Value.cells, List.toList_toArray, List.append_nil, List.cons_append, List.nil_append] at H))
  replace H := H.row 0 0 1 rfl rfl (by decide) (by simp only [List.set_cons_succ, List.set_cons_zero]; rfl)
  (repeat ((try conv => whnf); first | refine Join_dup ?_ | (refine Br_gate ?_; first | with_reducible refine Br_not ?_ | refine xB ?_ | refine xC ?_) | (refine Ld_gate ?_; refine xL ?_) | (refine LdN_gate ?_; refine xM ?_) | (refine St_gate ?_; refine xS ?_; clear H; intro w H) | (refine StN_gate ?_; refine xN ?_; clear H; intro w H) | (refine Kept_gate ?_; refine xK ?_) | (refine Ar_gate ?_; first | (first | with_reducible refine Ar_halfU (by omega) ?_ | with_reducible refine Ar_shl (by omega) ?_) | refine xA ?_) | (first | with_reducible refine Eqv_flip (by omega) ?_ | with_reducible refine Eqv_odd ?_ | with_reducible refine Eqv_shrU (by omega) ?_ | with_reducible refine Eqv_shrI (by omega) ?_ | with_reducible refine Eqv_andT ?_ | with_reducible refine Eqv_orT ?_ | with_reducible refine Eqv_xorT ?_ | refine Eqv_in ?_) | refine Do_ptr_eq_nil tok rfl ?_ | refine Do_ptr_ne_nil tok rfl ?_ | refine Do_nil_eq_nil tok rfl ?_ | refine Nn_in (by omega) ?_ | refine Nz_in (by omega) ?_))
  refine Loop_intro (fun s : Nat × Option Addr × Nat => [(4, .int .i64 (s.1 : Int)), (3, .slice s.2.1 s.1 s.2.2)]) (fun s w => s.1 ≤ 6 ∧ Sep w0 w (ownR s.2.1 s.1 s.2.2 4 1 (((rowV r).take s.1).map bV) :: l)) (fun s => 6 - s.1) (0, some ⟨nb, 0, none⟩, 0) ⟨rfl, rfl, trivial⟩ ⟨Nat.zero_le _, H⟩ ?_
  clear H
  rintro ⟨i, a, c⟩ w ⟨hi, H⟩
  simp only [] at hi H ⊢
  refine Br_dec (fun k => ?_) (fun k => ?_)
  · (repeat ((try conv => whnf); first | refine Join_dup ?_ | (refine Br_gate ?_; first | with_reducible refine Br_not ?_ | refine xB ?_ | refine xC ?_) | (refine Ld_gate ?_; refine xL ?_) | (refine LdN_gate ?_; refine xM ?_) | (refine St_gate ?_; refine xS ?_; clear H; intro w H) | (refine StN_gate ?_; refine xN ?_; clear H; intro w H) | (refine Kept_gate ?_; refine xK ?_) | (refine Ar_gate ?_; first | (first | with_reducible refine Ar_halfU (by omega) ?_ | with_reducible refine Ar_shl (by omega) ?_) | refine xA ?_) | (first | with_reducible refine Eqv_flip (by omega) ?_ | with_reducible refine Eqv_odd ?_ | with_reducible refine Eqv_shrU (by omega) ?_ | with_reducible refine Eqv_shrI (by omega) ?_ | with_reducible refine Eqv_andT ?_ | with_reducible refine Eqv_orT ?_ | with_reducible refine Eqv_xorT ?_ | refine Eqv_in ?_) | refine Do_ptr_eq_nil tok rfl ?_ | refine Do_ptr_ne_nil tok rfl ?_ | refine Do_nil_eq_nil tok rfl ?_ | refine Nn_in (by omega) ?_ | refine Nz_in (by omega) ?_))
    (refine Nw_sep H ?_; clear H; intro mb w H; (try simp only [Value.cells, List.toList_toArray, List.append_nil, List.cons_append, List.nil_append] at H))
    (repeat ((try conv => whnf); first | refine Join_dup ?_ | (refine Br_gate ?_; first | with_reducible refine Br_not ?_ | refine xB ?_ | refine xC ?_) | (refine Ld_gate ?_; refine xL ?_) | (refine LdN_gate ?_; refine xM ?_) | (refine St_gate ?_; refine xS ?_; clear H; intro w H) | (refine StN_gate ?_; refine xN ?_; clear H; intro w H) | (refine Kept_gate ?_; refine xK ?_) | (refine Ar_gate ?_; first | (first | with_reducible refine Ar_halfU (by omega) ?_ | with_reducible refine Ar_shl (by omega) ?_) | refine xA ?_) | (first | with_reducible refine Eqv_flip (by omega) ?_ | with_reducible refine Eqv_odd ?_ | with_reducible refine Eqv_shrU (by omega) ?_ | with_reducible refine Eqv_shrI (by omega) ?_ | with_reducible refine Eqv_andT ?_ | with_reducible refine Eqv_orT ?_ | with_reducible refine Eqv_xorT ?_ | refine Eqv_in ?_) | refine Do_ptr_eq_nil tok rfl ?_ | refine Do_ptr_ne_nil tok rfl ?_ | refine Do_nil_eq_nil tok rfl ?_ | refine Nn_in (by omega) ?_ | refine Nz_in (by omega) ?_))
    (refine DoN_gate ?_; refine append_one tok H rfl rfl rfl rfl rfl (by decide) (by repeat first | exact List.Mem.head _ | refine List.Mem.tail _ ?_) (m := 1) rfl (by simp [oneCell]) (by omega) (by unfold maxLen; omega) ?_; clear H; intro a' c' w H; replace H := H _ (by repeat first | exact Upd.head | apply Upd.tail))
    (repeat ((try conv => whnf); first | refine Join_dup ?_ | (refine Br_gate ?_; first | with_reducible refine Br_not ?_ | refine xB ?_ | refine xC ?_) | (refine Ld_gate ?_; refine xL ?_) | (refine LdN_gate ?_; refine xM ?_) | (refine St_gate ?_; refine xS ?_; clear H; intro w H) | (refine StN_gate ?_; refine xN ?_; clear H; intro w H) | (refine Kept_gate ?_; refine xK ?_) | (refine Ar_gate ?_; first | (first | with_reducible refine Ar_halfU (by omega) ?_ | with_reducible refine Ar_shl (by omega) ?_) | refine xA ?_) | (first | with_reducible refine Eqv_flip (by omega) ?_ | with_reducible refine Eqv_odd ?_ | with_reducible refine Eqv_shrU (by omega) ?_ | with_reducible refine Eqv_shrI (by omega) ?_ | with_reducible refine Eqv_andT ?_ | with_reducible refine Eqv_orT ?_ | with_reducible refine Eqv_xorT ?_ | refine Eqv_in ?_) | refine Do_ptr_eq_nil tok rfl ?_ | refine Do_ptr_ne_nil tok rfl ?_ | refine Do_nil_eq_nil tok rfl ?_ | refine Nn_in (by omega) ?_ | refine Nz_in (by omega) ?_))
    refine ⟨(i + 1, a', c'), ⟨congrArg some (vint (by simp)), rfl, trivial⟩, ⟨by omega, ?_⟩, by simp; omega⟩
    have e : ((rowV r).take i).map bV ++ [.bool (((r / 2 ^ i % 2 : Nat) : Int) == 1)] = ((rowV r).take (i + 1)).map bV := by
      have h6 : (rowV r)[i]? = some (decide ((r >>> i) % 2 = 1)) := by
        unfold rowV
        rw [List.getElem?_map, List.getElem?_range (by omega)]; rfl
      rw [List.take_add_one, h6, List.map_append]
      congr 1
      show [_] = [_]
      congr 2
      rw [Nat.shiftRight_eq_div_pow, Bool.eq_iff_iff, beq_iff_eq, decide_eq_true_iff]
      generalize r / 2 ^ i % 2 = m
      omega
    rw [← e]
    exact H
  · obtain rfl : i = 6 := by omega
    (repeat ((try conv => whnf); first | refine Join_dup ?_ | (refine Br_gate ?_; first | with_reducible refine Br_not ?_ | refine xB ?_ | refine xC ?_) | (refine Ld_gate ?_; refine xL ?_) | (refine LdN_gate ?_; refine xM ?_) | (refine St_gate ?_; refine xS ?_; clear H; intro w H) | (refine StN_gate ?_; refine xN ?_; clear H; intro w H) | (refine Kept_gate ?_; refine xK ?_) | (refine Ar_gate ?_; first | (first | with_reducible refine Ar_halfU (by omega) ?_ | with_reducible refine Ar_shl (by omega) ?_) | refine xA ?_) | (first | with_reducible refine Eqv_flip (by omega) ?_ | with_reducible refine Eqv_odd ?_ | with_reducible refine Eqv_shrU (by omega) ?_ | with_reducible refine Eqv_shrI (by omega) ?_ | with_reducible refine Eqv_andT ?_ | with_reducible refine Eqv_orT ?_ | with_reducible refine Eqv_xorT ?_ | refine Eqv_in ?_) | refine Do_ptr_eq_nil tok rfl ?_ | refine Do_ptr_ne_nil tok rfl ?_ | refine Do_nil_eq_nil tok rfl ?_ | refine Nn_in (by omega) ?_ | refine Nz_in (by omega) ?_))
    exact Ret_in ⟨a, c, rfl, H⟩

theorem rAll {a : Option Addr} {c : Nat} {L : List Tb} (hs : Src w a L.length 1 (L.map tV)) (hl : L.length ≤ 1000) : Does Try.prog 26 #[.slice a L.length c] w fun v w' => v = tV (L.foldl (fun a b => a &&& b) (BitVec.allOnes 64)) ∧ w = w' := by
  refine Does_intro tok (Try.call26 _ _) Try.func26 rfl (by rfl) ?_
  refine Loop_intro (fun s : Nat × Tb => [(8, .int .i64 (s.1 : Int)), (3, tV s.2)]) (fun s w' => w = w' ∧ s.1 ≤ L.length ∧ s.2 = (L.take s.1).foldl (fun a b => a &&& b) (BitVec.allOnes 64)) (fun s => L.length - s.1) (0, BitVec.allOnes 64) ⟨rfl, rfl, trivial⟩ ⟨rfl, by omega, rfl⟩ ?_
  rintro ⟨i, t⟩ _ ⟨rfl, hi, ht⟩
  simp only [] at hi ht ⊢
  refine Br_dec (fun k => ?_) (fun k => ?_)
  · have hlt : i < L.length := by omega
    obtain ⟨sb, so, rfl⟩ := hs.addr (by rw [List.length_map]; omega)
    refine Ix_in i rfl hlt ?_
    refine Ld_src (j := i) hs (tbs_get hlt) ?_
    (repeat ((try conv => whnf); first | refine Join_dup ?_ | (refine Br_gate ?_; first | with_reducible refine Br_not ?_ | refine xB ?_ | refine xC ?_) | (refine Ld_gate ?_; refine xL ?_) | (refine LdN_gate ?_; refine xM ?_) | (refine St_gate ?_; refine xS ?_; clear H; intro w H) | (refine StN_gate ?_; refine xN ?_; clear H; intro w H) | (refine Kept_gate ?_; refine xK ?_) | (refine Ar_gate ?_; first | (first | with_reducible refine Ar_halfU (by omega) ?_ | with_reducible refine Ar_shl (by omega) ?_) | refine xA ?_) | (first | with_reducible refine Eqv_flip (by omega) ?_ | with_reducible refine Eqv_odd ?_ | with_reducible refine Eqv_shrU (by omega) ?_ | with_reducible refine Eqv_shrI (by omega) ?_ | with_reducible refine Eqv_andT ?_ | with_reducible refine Eqv_orT ?_ | with_reducible refine Eqv_xorT ?_ | refine Eqv_in ?_) | refine Do_ptr_eq_nil tok rfl ?_ | refine Do_ptr_ne_nil tok rfl ?_ | refine Do_nil_eq_nil tok rfl ?_ | refine Nn_in (by omega) ?_ | refine Nz_in (by omega) ?_))
    refine ⟨(i + 1, t &&& L[i]?.getD 0), ⟨congrArg some (vint (by simp)), rfl, trivial⟩, ⟨rfl, by omega, ?_⟩, by simp; omega⟩
    rw [List.take_add_one, List.foldl_append, ← ht, List.getElem?_eq_getElem hlt]; rfl
  · obtain rfl : i = L.length := by omega
    (repeat ((try conv => whnf); first | refine Join_dup ?_ | (refine Br_gate ?_; first | with_reducible refine Br_not ?_ | refine xB ?_ | refine xC ?_) | (refine Ld_gate ?_; refine xL ?_) | (refine LdN_gate ?_; refine xM ?_) | (refine St_gate ?_; refine xS ?_; clear H; intro w H) | (refine StN_gate ?_; refine xN ?_; clear H; intro w H) | (refine Kept_gate ?_; refine xK ?_) | (refine Ar_gate ?_; first | (first | with_reducible refine Ar_halfU (by omega) ?_ | with_reducible refine Ar_shl (by omega) ?_) | refine xA ?_) | (first | with_reducible refine Eqv_flip (by omega) ?_ | with_reducible refine Eqv_odd ?_ | with_reducible refine Eqv_shrU (by omega) ?_ | with_reducible refine Eqv_shrI (by omega) ?_ | with_reducible refine Eqv_andT ?_ | with_reducible refine Eqv_orT ?_ | with_reducible refine Eqv_xorT ?_ | refine Eqv_in ?_) | refine Do_ptr_eq_nil tok rfl ?_ | refine Do_ptr_ne_nil tok rfl ?_ | refine Do_nil_eq_nil tok rfl ?_ | refine Nn_in (by omega) ?_ | refine Nz_in (by omega) ?_))
    exact Ret_in ⟨by rw [ht, List.take_length]; rfl, rfl⟩

theorem rSome {a : Option Addr} {c : Nat} {L : List Tb} (hs : Src w a L.length 1 (L.map tV)) (hl : L.length ≤ 1000) : Does Try.prog 27 #[.slice a L.length c] w fun v w' => v = tV (L.foldl (fun a b => a ||| b) 0) ∧ w = w' := by
  refine Does_intro tok (Try.call27 _ _) Try.func27 rfl (by rfl) ?_
  refine Loop_intro (fun s : Nat × Tb => [(8, .int .i64 (s.1 : Int)), (3, tV s.2)]) (fun s w' => w = w' ∧ s.1 ≤ L.length ∧ s.2 = (L.take s.1).foldl (fun a b => a ||| b) 0) (fun s => L.length - s.1) (0, 0) ⟨rfl, rfl, trivial⟩ ⟨rfl, by omega, rfl⟩ ?_
  rintro ⟨i, t⟩ _ ⟨rfl, hi, ht⟩
  simp only [] at hi ht ⊢
  refine Br_dec (fun k => ?_) (fun k => ?_)
  · have hlt : i < L.length := by omega
    obtain ⟨sb, so, rfl⟩ := hs.addr (by rw [List.length_map]; omega)
    refine Ix_in i rfl hlt ?_
    refine Ld_src (j := i) hs (tbs_get hlt) ?_
    (repeat ((try conv => whnf); first | refine Join_dup ?_ | (refine Br_gate ?_; first | with_reducible refine Br_not ?_ | refine xB ?_ | refine xC ?_) | (refine Ld_gate ?_; refine xL ?_) | (refine LdN_gate ?_; refine xM ?_) | (refine St_gate ?_; refine xS ?_; clear H; intro w H) | (refine StN_gate ?_; refine xN ?_; clear H; intro w H) | (refine Kept_gate ?_; refine xK ?_) | (refine Ar_gate ?_; first | (first | with_reducible refine Ar_halfU (by omega) ?_ | with_reducible refine Ar_shl (by omega) ?_) | refine xA ?_) | (first | with_reducible refine Eqv_flip (by omega) ?_ | with_reducible refine Eqv_odd ?_ | with_reducible refine Eqv_shrU (by omega) ?_ | with_reducible refine Eqv_shrI (by omega) ?_ | with_reducible refine Eqv_andT ?_ | with_reducible refine Eqv_orT ?_ | with_reducible refine Eqv_xorT ?_ | refine Eqv_in ?_) | refine Do_ptr_eq_nil tok rfl ?_ | refine Do_ptr_ne_nil tok rfl ?_ | refine Do_nil_eq_nil tok rfl ?_ | refine Nn_in (by omega) ?_ | refine Nz_in (by omega) ?_))
    refine ⟨(i + 1, t ||| L[i]?.getD 0), ⟨congrArg some (vint (by simp)), rfl, trivial⟩, ⟨rfl, by omega, ?_⟩, by simp; omega⟩
    rw [List.take_add_one, List.foldl_append, ← ht, List.getElem?_eq_getElem hlt]; rfl
  · obtain rfl : i = L.length := by omega
    (repeat ((try conv => whnf); first | refine Join_dup ?_ | (refine Br_gate ?_; first | with_reducible refine Br_not ?_ | refine xB ?_ | refine xC ?_) | (refine Ld_gate ?_; refine xL ?_) | (refine LdN_gate ?_; refine xM ?_) | (refine St_gate ?_; refine xS ?_; clear H; intro w H) | (refine StN_gate ?_; refine xN ?_; clear H; intro w H) | (refine Kept_gate ?_; refine xK ?_) | (refine Ar_gate ?_; first | (first | with_reducible refine Ar_halfU (by omega) ?_ | with_reducible refine Ar_shl (by omega) ?_) | refine xA ?_) | (first | with_reducible refine Eqv_flip (by omega) ?_ | with_reducible refine Eqv_odd ?_ | with_reducible refine Eqv_shrU (by omega) ?_ | with_reducible refine Eqv_shrI (by omega) ?_ | with_reducible refine Eqv_andT ?_ | with_reducible refine Eqv_orT ?_ | with_reducible refine Eqv_xorT ?_ | refine Eqv_in ?_) | refine Do_ptr_eq_nil tok rfl ?_ | refine Do_ptr_ne_nil tok rfl ?_ | refine Do_nil_eq_nil tok rfl ?_ | refine Nn_in (by omega) ?_ | refine Nz_in (by omega) ?_))
    exact Ret_in ⟨by rw [ht, List.take_length]; rfl, rfl⟩

/-- A maker, beside its graph. -/
def makerParts (mb gb : Nat) (es : List Nat) (ts : List Tb) (s : (Option Addr × Nat) × (Option Addr × Nat)) : List Res :=
  [cellsR mb 37 [.pointer (some ⟨gb, 0, none⟩), .slice s.1.1 es.length s.1.2, .slice s.2.1 ts.length s.2.2],
    ownR s.1.1 es.length s.1.2 32 1 (es.map eV), ownR s.2.1 ts.length s.2.2 59 1 (ts.map tV)]
def makerR (mb gb : Nat) (es : List Nat) (ts : List Tb) : Res := exR fun s => sepR (makerParts mb gb es ts s)

variable {mb gb : Nat} {es : List Nat} {ts : List Tb} {r : List Res}
theorem makerOpen (H : Sep w0 w (makerR mb gb es ts :: r)) : ∃ ea ec ta tc, Sep w0 w (cellsR mb 37 [.pointer (some ⟨gb, 0, none⟩), .slice ea es.length ec, .slice ta ts.length tc] ::
    ownR ea es.length ec 32 1 (es.map eV) :: ownR ta ts.length tc 59 1 (ts.map tV) :: r) := by
  obtain ⟨⟨⟨ea, ec⟩, ta, tc⟩, h1⟩ := H.ex
  exact ⟨ea, ec, ta, tc, h1.flat⟩
theorem makerClose {ea ta : Option Addr} {ec tc : Nat} (H : Sep w0 w (cellsR mb 37 [.pointer (some ⟨gb, 0, none⟩), .slice ea es.length ec, .slice ta ts.length tc] ::
    ownR ea es.length ec 32 1 (es.map eV) :: ownR ta ts.length tc 59 1 (ts.map tV) :: r)) : Sep w0 w (makerR mb gb es ts :: r) :=
  Sep.mk_ex (f := fun s => sepR (makerParts mb gb es ts s)) ((ea, ec), (ta, tc)) (Sep.app (l := makerParts mb gb es ts ((ea, ec), (ta, tc))) H)

theorem mStart {n : Nat} (hn : n ≤ 6) (W : World) : Does Try.prog 9 #[.int .i64 (n : Int)] W fun v w' => ∃ mb gb, v = .pointer (some ⟨mb, 0, none⟩) ∧ Sep W w' [makerR mb gb (startE n) (startT n), gR gb (psN n) (insN n)] := by
  refine Does_intro tok (Try.call9 _ _) Try.func9 rfl (by rfl) ?_
  (repeat ((try conv => whnf); first | refine Join_dup ?_ | (refine Br_gate ?_; first | with_reducible refine Br_not ?_ | refine xB ?_ | refine xC ?_) | (refine Ld_gate ?_; refine xL ?_) | (refine LdN_gate ?_; refine xM ?_) | (refine St_gate ?_; refine xS ?_; clear H; intro w H) | (refine StN_gate ?_; refine xN ?_; clear H; intro w H) | (refine Kept_gate ?_; refine xK ?_) | (refine Ar_gate ?_; first | (first | with_reducible refine Ar_halfU (by omega) ?_ | with_reducible refine Ar_shl (by omega) ?_) | refine xA ?_) | (first | with_reducible refine Eqv_flip (by omega) ?_ | with_reducible refine Eqv_odd ?_ | with_reducible refine Eqv_shrU (by omega) ?_ | with_reducible refine Eqv_shrI (by omega) ?_ | with_reducible refine Eqv_andT ?_ | with_reducible refine Eqv_orT ?_ | with_reducible refine Eqv_xorT ?_ | refine Eqv_in ?_) | refine Do_ptr_eq_nil tok rfl ?_ | refine Do_ptr_ne_nil tok rfl ?_ | refine Do_nil_eq_nil tok rfl ?_ | refine Nn_in (by omega) ?_ | refine Nz_in (by omega) ?_))
  refine Call_of (gNew W) ?_
  rintro _ w ⟨gb, rfl, H⟩
  (repeat ((try conv => whnf); first | refine Join_dup ?_ | (refine Br_gate ?_; first | with_reducible refine Br_not ?_ | refine xB ?_ | refine xC ?_) | (refine Ld_gate ?_; refine xL ?_) | (refine LdN_gate ?_; refine xM ?_) | (refine St_gate ?_; refine xS ?_; clear H; intro w H) | (refine StN_gate ?_; refine xN ?_; clear H; intro w H) | (refine Kept_gate ?_; refine xK ?_) | (refine Ar_gate ?_; first | (first | with_reducible refine Ar_halfU (by omega) ?_ | with_reducible refine Ar_shl (by omega) ?_) | refine xA ?_) | (first | with_reducible refine Eqv_flip (by omega) ?_ | with_reducible refine Eqv_odd ?_ | with_reducible refine Eqv_shrU (by omega) ?_ | with_reducible refine Eqv_shrI (by omega) ?_ | with_reducible refine Eqv_andT ?_ | with_reducible refine Eqv_orT ?_ | with_reducible refine Eqv_xorT ?_ | refine Eqv_in ?_) | refine Do_ptr_eq_nil tok rfl ?_ | refine Do_ptr_ne_nil tok rfl ?_ | refine Do_nil_eq_nil tok rfl ?_ | refine Nn_in (by omega) ?_ | refine Nz_in (by omega) ?_))
  (refine Nw_sep H ?_; clear H; intro eb w H; (try simp only [Value.cells, List.toList_toArray, List.append_nil, List.cons_append, List.nil_append] at H))
  replace H := H.row 0 2 1 rfl rfl (by decide) (by simp only [List.set_cons_succ, List.set_cons_zero]; rfl)
  (repeat ((try conv => whnf); first | refine Join_dup ?_ | (refine Br_gate ?_; first | with_reducible refine Br_not ?_ | refine xB ?_ | refine xC ?_) | (refine Ld_gate ?_; refine xL ?_) | (refine LdN_gate ?_; refine xM ?_) | (refine St_gate ?_; refine xS ?_; clear H; intro w H) | (refine StN_gate ?_; refine xN ?_; clear H; intro w H) | (refine Kept_gate ?_; refine xK ?_) | (refine Ar_gate ?_; first | (first | with_reducible refine Ar_halfU (by omega) ?_ | with_reducible refine Ar_shl (by omega) ?_) | refine xA ?_) | (first | with_reducible refine Eqv_flip (by omega) ?_ | with_reducible refine Eqv_odd ?_ | with_reducible refine Eqv_shrU (by omega) ?_ | with_reducible refine Eqv_shrI (by omega) ?_ | with_reducible refine Eqv_andT ?_ | with_reducible refine Eqv_orT ?_ | with_reducible refine Eqv_xorT ?_ | refine Eqv_in ?_) | refine Do_ptr_eq_nil tok rfl ?_ | refine Do_ptr_ne_nil tok rfl ?_ | refine Do_nil_eq_nil tok rfl ?_ | refine Nn_in (by omega) ?_ | refine Nz_in (by omega) ?_))
  (refine Nw_sep H ?_; clear H; intro tb w H; (try simp only [Value.cells, List.toList_toArray, List.append_nil, List.cons_append, List.nil_append] at H))
  replace H := H.row 0 2 1 rfl rfl (by decide) (by simp only [List.set_cons_succ, List.set_cons_zero]; rfl)
  (repeat ((try conv => whnf); first | refine Join_dup ?_ | (refine Br_gate ?_; first | with_reducible refine Br_not ?_ | refine xB ?_ | refine xC ?_) | (refine Ld_gate ?_; refine xL ?_) | (refine LdN_gate ?_; refine xM ?_) | (refine St_gate ?_; refine xS ?_; clear H; intro w H) | (refine StN_gate ?_; refine xN ?_; clear H; intro w H) | (refine Kept_gate ?_; refine xK ?_) | (refine Ar_gate ?_; first | (first | with_reducible refine Ar_halfU (by omega) ?_ | with_reducible refine Ar_shl (by omega) ?_) | refine xA ?_) | (first | with_reducible refine Eqv_flip (by omega) ?_ | with_reducible refine Eqv_odd ?_ | with_reducible refine Eqv_shrU (by omega) ?_ | with_reducible refine Eqv_shrI (by omega) ?_ | with_reducible refine Eqv_andT ?_ | with_reducible refine Eqv_orT ?_ | with_reducible refine Eqv_xorT ?_ | refine Eqv_in ?_) | refine Do_ptr_eq_nil tok rfl ?_ | refine Do_ptr_ne_nil tok rfl ?_ | refine Do_nil_eq_nil tok rfl ?_ | refine Nn_in (by omega) ?_ | refine Nz_in (by omega) ?_))
  (refine Nw_sep H ?_; clear H; intro mb w H; (try simp only [Value.cells, List.toList_toArray, List.append_nil, List.cons_append, List.nil_append] at H))
  (repeat ((try conv => whnf); first | refine Join_dup ?_ | (refine Br_gate ?_; first | with_reducible refine Br_not ?_ | refine xB ?_ | refine xC ?_) | (refine Ld_gate ?_; refine xL ?_) | (refine LdN_gate ?_; refine xM ?_) | (refine St_gate ?_; refine xS ?_; clear H; intro w H) | (refine StN_gate ?_; refine xN ?_; clear H; intro w H) | (refine Kept_gate ?_; refine xK ?_) | (refine Ar_gate ?_; first | (first | with_reducible refine Ar_halfU (by omega) ?_ | with_reducible refine Ar_shl (by omega) ?_) | refine xA ?_) | (first | with_reducible refine Eqv_flip (by omega) ?_ | with_reducible refine Eqv_odd ?_ | with_reducible refine Eqv_shrU (by omega) ?_ | with_reducible refine Eqv_shrI (by omega) ?_ | with_reducible refine Eqv_andT ?_ | with_reducible refine Eqv_orT ?_ | with_reducible refine Eqv_xorT ?_ | refine Eqv_in ?_) | refine Do_ptr_eq_nil tok rfl ?_ | refine Do_ptr_ne_nil tok rfl ?_ | refine Do_nil_eq_nil tok rfl ?_ | refine Nn_in (by omega) ?_ | refine Nz_in (by omega) ?_))
  refine Loop_intro (fun s : Nat => [(4, .int .i64 (s : Int))]) (fun s w' => s ≤ n ∧ Sep W w' [makerR mb gb (startE s) (startT s), gR gb (psN s) (insN s)]) (fun s => n - s) 0 ⟨rfl, trivial⟩ ⟨by omega, ?_⟩ ?_
  · have H2 : Sep W w (_ :: _ :: _ :: _ :: []) := H.sel [0, 2, 1, 3] (by decide) rfl
    exact makerClose (es := startE 0) (ts := startT 0) H2
  clear H
  rintro s w ⟨hs, H⟩
  simp only [] at hs H ⊢
  refine Br_dec (fun k1 => ?_) (fun k1 => ?_)
  · have hlen : (psN s).length < 1048576 := by rw [psN_len]; omega
    obtain ⟨ea, ec, ta, tc, H⟩ := makerOpen H
    (repeat ((try conv => whnf); first | refine Join_dup ?_ | (refine Br_gate ?_; first | with_reducible refine Br_not ?_ | refine xB ?_ | refine xC ?_) | (refine Ld_gate ?_; refine xL ?_) | (refine LdN_gate ?_; refine xM ?_) | (refine St_gate ?_; refine xS ?_; clear H; intro w H) | (refine StN_gate ?_; refine xN ?_; clear H; intro w H) | (refine Kept_gate ?_; refine xK ?_) | (refine Ar_gate ?_; first | (first | with_reducible refine Ar_halfU (by omega) ?_ | with_reducible refine Ar_shl (by omega) ?_) | refine xA ?_) | (first | with_reducible refine Eqv_flip (by omega) ?_ | with_reducible refine Eqv_odd ?_ | with_reducible refine Eqv_shrU (by omega) ?_ | with_reducible refine Eqv_shrI (by omega) ?_ | with_reducible refine Eqv_andT ?_ | with_reducible refine Eqv_orT ?_ | with_reducible refine Eqv_xorT ?_ | refine Eqv_in ?_) | refine Do_ptr_eq_nil tok rfl ?_ | refine Do_ptr_ne_nil tok rfl ?_ | refine Do_nil_eq_nil tok rfl ?_ | refine Nn_in (by omega) ?_ | refine Nz_in (by omega) ?_))
    refine Call_of (gInput H (by repeat first | exact List.Mem.head _ | refine List.Mem.tail _ ?_) hlen) ?_
    clear H
    rintro _ w ⟨rfl, H⟩
    replace H := H _ (by repeat first | exact Upd.head | apply Upd.tail)
    have hE : (startE s).length = s + 2 := by simp [startE, insN]
    have hT : (startT s).length = s + 2 := by simp [startT]
    (repeat ((try conv => whnf); first | refine Join_dup ?_ | (refine Br_gate ?_; first | with_reducible refine Br_not ?_ | refine xB ?_ | refine xC ?_) | (refine Ld_gate ?_; refine xL ?_) | (refine LdN_gate ?_; refine xM ?_) | (refine St_gate ?_; refine xS ?_; clear H; intro w H) | (refine StN_gate ?_; refine xN ?_; clear H; intro w H) | (refine Kept_gate ?_; refine xK ?_) | (refine Ar_gate ?_; first | (first | with_reducible refine Ar_halfU (by omega) ?_ | with_reducible refine Ar_shl (by omega) ?_) | refine xA ?_) | (first | with_reducible refine Eqv_flip (by omega) ?_ | with_reducible refine Eqv_odd ?_ | with_reducible refine Eqv_shrU (by omega) ?_ | with_reducible refine Eqv_shrI (by omega) ?_ | with_reducible refine Eqv_andT ?_ | with_reducible refine Eqv_orT ?_ | with_reducible refine Eqv_xorT ?_ | refine Eqv_in ?_) | refine Do_ptr_eq_nil tok rfl ?_ | refine Do_ptr_ne_nil tok rfl ?_ | refine Do_nil_eq_nil tok rfl ?_ | refine Nn_in (by omega) ?_ | refine Nz_in (by omega) ?_))
    (refine Nw_sep H ?_; clear H; intro nb w H; (try simp only [Value.cells, List.toList_toArray, List.append_nil, List.cons_append, List.nil_append] at H))
    (repeat ((try conv => whnf); first | refine Join_dup ?_ | (refine Br_gate ?_; first | with_reducible refine Br_not ?_ | refine xB ?_ | refine xC ?_) | (refine Ld_gate ?_; refine xL ?_) | (refine LdN_gate ?_; refine xM ?_) | (refine St_gate ?_; refine xS ?_; clear H; intro w H) | (refine StN_gate ?_; refine xN ?_; clear H; intro w H) | (refine Kept_gate ?_; refine xK ?_) | (refine Ar_gate ?_; first | (first | with_reducible refine Ar_halfU (by omega) ?_ | with_reducible refine Ar_shl (by omega) ?_) | refine xA ?_) | (first | with_reducible refine Eqv_flip (by omega) ?_ | with_reducible refine Eqv_odd ?_ | with_reducible refine Eqv_shrU (by omega) ?_ | with_reducible refine Eqv_shrI (by omega) ?_ | with_reducible refine Eqv_andT ?_ | with_reducible refine Eqv_orT ?_ | with_reducible refine Eqv_xorT ?_ | refine Eqv_in ?_) | refine Do_ptr_eq_nil tok rfl ?_ | refine Do_ptr_ne_nil tok rfl ?_ | refine Do_nil_eq_nil tok rfl ?_ | refine Nn_in (by omega) ?_ | refine Nz_in (by omega) ?_))
    (refine DoN_gate ?_; refine append_one tok H rfl rfl rfl rfl rfl (by decide) (by repeat first | exact List.Mem.head _ | refine List.Mem.tail _ ?_) (m := 1) rfl (by simp [oneCell]) (by omega) (by unfold maxLen; omega) ?_; clear H; intro ea' ec' w H; replace H := H _ (by repeat first | exact Upd.head | apply Upd.tail))
    (repeat ((try conv => whnf); first | refine Join_dup ?_ | (refine Br_gate ?_; first | with_reducible refine Br_not ?_ | refine xB ?_ | refine xC ?_) | (refine Ld_gate ?_; refine xL ?_) | (refine LdN_gate ?_; refine xM ?_) | (refine St_gate ?_; refine xS ?_; clear H; intro w H) | (refine StN_gate ?_; refine xN ?_; clear H; intro w H) | (refine Kept_gate ?_; refine xK ?_) | (refine Ar_gate ?_; first | (first | with_reducible refine Ar_halfU (by omega) ?_ | with_reducible refine Ar_shl (by omega) ?_) | refine xA ?_) | (first | with_reducible refine Eqv_flip (by omega) ?_ | with_reducible refine Eqv_odd ?_ | with_reducible refine Eqv_shrU (by omega) ?_ | with_reducible refine Eqv_shrI (by omega) ?_ | with_reducible refine Eqv_andT ?_ | with_reducible refine Eqv_orT ?_ | with_reducible refine Eqv_xorT ?_ | refine Eqv_in ?_) | refine Do_ptr_eq_nil tok rfl ?_ | refine Do_ptr_ne_nil tok rfl ?_ | refine Do_nil_eq_nil tok rfl ?_ | refine Nn_in (by omega) ?_ | refine Nz_in (by omega) ?_))
    refine Draw_intro mixed [0, 1, 2, 3, 4, 5, 6, 7, 8, 9, 10, 11] (by decide +kernel) (fun w _ fd => ?_); replace H := H.fr fd; clear fd
    (repeat ((try conv => whnf); first | refine Join_dup ?_ | (refine Br_gate ?_; first | with_reducible refine Br_not ?_ | refine xB ?_ | refine xC ?_) | (refine Ld_gate ?_; refine xL ?_) | (refine LdN_gate ?_; refine xM ?_) | (refine St_gate ?_; refine xS ?_; clear H; intro w H) | (refine StN_gate ?_; refine xN ?_; clear H; intro w H) | (refine Kept_gate ?_; refine xK ?_) | (refine Ar_gate ?_; first | (first | with_reducible refine Ar_halfU (by omega) ?_ | with_reducible refine Ar_shl (by omega) ?_) | refine xA ?_) | (first | with_reducible refine Eqv_flip (by omega) ?_ | with_reducible refine Eqv_odd ?_ | with_reducible refine Eqv_shrU (by omega) ?_ | with_reducible refine Eqv_shrI (by omega) ?_ | with_reducible refine Eqv_andT ?_ | with_reducible refine Eqv_orT ?_ | with_reducible refine Eqv_xorT ?_ | refine Eqv_in ?_) | refine Do_ptr_eq_nil tok rfl ?_ | refine Do_ptr_ne_nil tok rfl ?_ | refine Do_nil_eq_nil tok rfl ?_ | refine Nn_in (by omega) ?_ | refine Nz_in (by omega) ?_))
    refine Call_of (rInput (i := s) (by omega) _) ?_
    rintro _ _ ⟨rfl, rfl⟩
    (repeat ((try conv => whnf); first | refine Join_dup ?_ | (refine Br_gate ?_; first | with_reducible refine Br_not ?_ | refine xB ?_ | refine xC ?_) | (refine Ld_gate ?_; refine xL ?_) | (refine LdN_gate ?_; refine xM ?_) | (refine St_gate ?_; refine xS ?_; clear H; intro w H) | (refine StN_gate ?_; refine xN ?_; clear H; intro w H) | (refine Kept_gate ?_; refine xK ?_) | (refine Ar_gate ?_; first | (first | with_reducible refine Ar_halfU (by omega) ?_ | with_reducible refine Ar_shl (by omega) ?_) | refine xA ?_) | (first | with_reducible refine Eqv_flip (by omega) ?_ | with_reducible refine Eqv_odd ?_ | with_reducible refine Eqv_shrU (by omega) ?_ | with_reducible refine Eqv_shrI (by omega) ?_ | with_reducible refine Eqv_andT ?_ | with_reducible refine Eqv_orT ?_ | with_reducible refine Eqv_xorT ?_ | refine Eqv_in ?_) | refine Do_ptr_eq_nil tok rfl ?_ | refine Do_ptr_ne_nil tok rfl ?_ | refine Do_nil_eq_nil tok rfl ?_ | refine Nn_in (by omega) ?_ | refine Nz_in (by omega) ?_))
    (refine Nw_sep H ?_; clear H; intro nb2 w H; (try simp only [Value.cells, List.toList_toArray, List.append_nil, List.cons_append, List.nil_append] at H))
    (repeat ((try conv => whnf); first | refine Join_dup ?_ | (refine Br_gate ?_; first | with_reducible refine Br_not ?_ | refine xB ?_ | refine xC ?_) | (refine Ld_gate ?_; refine xL ?_) | (refine LdN_gate ?_; refine xM ?_) | (refine St_gate ?_; refine xS ?_; clear H; intro w H) | (refine StN_gate ?_; refine xN ?_; clear H; intro w H) | (refine Kept_gate ?_; refine xK ?_) | (refine Ar_gate ?_; first | (first | with_reducible refine Ar_halfU (by omega) ?_ | with_reducible refine Ar_shl (by omega) ?_) | refine xA ?_) | (first | with_reducible refine Eqv_flip (by omega) ?_ | with_reducible refine Eqv_odd ?_ | with_reducible refine Eqv_shrU (by omega) ?_ | with_reducible refine Eqv_shrI (by omega) ?_ | with_reducible refine Eqv_andT ?_ | with_reducible refine Eqv_orT ?_ | with_reducible refine Eqv_xorT ?_ | refine Eqv_in ?_) | refine Do_ptr_eq_nil tok rfl ?_ | refine Do_ptr_ne_nil tok rfl ?_ | refine Do_nil_eq_nil tok rfl ?_ | refine Nn_in (by omega) ?_ | refine Nz_in (by omega) ?_))
    (refine DoN_gate ?_; refine append_one tok H rfl rfl rfl rfl rfl (by decide) (by repeat first | exact List.Mem.head _ | refine List.Mem.tail _ ?_) (m := 1) rfl (by simp [oneCell]) (by omega) (by unfold maxLen; omega) ?_; clear H; intro ta' tc' w H; replace H := H _ (by repeat first | exact Upd.head | apply Upd.tail))
    (repeat ((try conv => whnf); first | refine Join_dup ?_ | (refine Br_gate ?_; first | with_reducible refine Br_not ?_ | refine xB ?_ | refine xC ?_) | (refine Ld_gate ?_; refine xL ?_) | (refine LdN_gate ?_; refine xM ?_) | (refine St_gate ?_; refine xS ?_; clear H; intro w H) | (refine StN_gate ?_; refine xN ?_; clear H; intro w H) | (refine Kept_gate ?_; refine xK ?_) | (refine Ar_gate ?_; first | (first | with_reducible refine Ar_halfU (by omega) ?_ | with_reducible refine Ar_shl (by omega) ?_) | refine xA ?_) | (first | with_reducible refine Eqv_flip (by omega) ?_ | with_reducible refine Eqv_odd ?_ | with_reducible refine Eqv_shrU (by omega) ?_ | with_reducible refine Eqv_shrI (by omega) ?_ | with_reducible refine Eqv_andT ?_ | with_reducible refine Eqv_orT ?_ | with_reducible refine Eqv_xorT ?_ | refine Eqv_in ?_) | refine Do_ptr_eq_nil tok rfl ?_ | refine Do_ptr_ne_nil tok rfl ?_ | refine Do_nil_eq_nil tok rfl ?_ | refine Nn_in (by omega) ?_ | refine Nz_in (by omega) ?_))
    refine ⟨s + 1, ⟨congrArg some (vint (by omega)), trivial⟩, ⟨by omega, ?_⟩, by omega⟩
    rw [← psN_next, ← insN_next] at H
    refine makerClose (ea := ea') (ec := ec') (ta := ta') (tc := tc') ?_
    have e1 : startE (s + 1) = startE s ++ [2 * (psN s).length] := by unfold startE; rw [insN_next, List.append_assoc]
    have e2 : startT (s + 1) = startT s ++ [inT s] := by unfold startT; rw [List.range_succ, List.map_append, List.append_assoc]; rfl
    rw [e1, e2, List.map_append, List.map_append, List.length_append, List.length_append]
    exact H
  · obtain rfl : s = n := by omega
    (repeat ((try conv => whnf); first | refine Join_dup ?_ | (refine Br_gate ?_; first | with_reducible refine Br_not ?_ | refine xB ?_ | refine xC ?_) | (refine Ld_gate ?_; refine xL ?_) | (refine LdN_gate ?_; refine xM ?_) | (refine St_gate ?_; refine xS ?_; clear H; intro w H) | (refine StN_gate ?_; refine xN ?_; clear H; intro w H) | (refine Kept_gate ?_; refine xK ?_) | (refine Ar_gate ?_; first | (first | with_reducible refine Ar_halfU (by omega) ?_ | with_reducible refine Ar_shl (by omega) ?_) | refine xA ?_) | (first | with_reducible refine Eqv_flip (by omega) ?_ | with_reducible refine Eqv_odd ?_ | with_reducible refine Eqv_shrU (by omega) ?_ | with_reducible refine Eqv_shrI (by omega) ?_ | with_reducible refine Eqv_andT ?_ | with_reducible refine Eqv_orT ?_ | with_reducible refine Eqv_xorT ?_ | refine Eqv_in ?_) | refine Do_ptr_eq_nil tok rfl ?_ | refine Do_ptr_ne_nil tok rfl ?_ | refine Do_nil_eq_nil tok rfl ?_ | refine Nn_in (by omega) ?_ | refine Nz_in (by omega) ?_))
    exact Ret_in ⟨mb, gb, rfl, H⟩
end
end Go.Proofs.Ytklkibpbjjlolaa
