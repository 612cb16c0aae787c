/- slices.SortStableFunc at what was learnt: the same things, in some order. -/
import Derived.Test.YtcibiidebknkgaaGreatSatA2
import Derived.Test.YtcibiidebknkgaaGreatSatA3
set_option linter.unusedVariables false
set_option linter.unusedSimpArgs false
namespace Go.Proofs.YtcibiidebknkgaaGreat
open Go Go.Vc
set_option maxHeartbeats 4000000
set_option maxRecDepth 100000
abbrev Ln := Nat × Int
abbrev lnR (b n cap : Nat) (ys : List Ln) : Res := ownR (some ⟨b, 0, none⟩) n cap 124 2 (ys.flatMap ln2)
theorem swap_perm {ys : List Ln} {i j : Nat} (hi : i < ys.length) (hj : j < ys.length) : ((ys.set i ys[j]).set j ys[i]).Perm ys := List.set_set_perm hi hj
theorem ln_row {ys : List Ln} {i : Nat} (hi : i < ys.length) : ((ys.flatMap ln2).drop (i * 2)).take 2 = ln2 ys[i] := rowPart ln2_len (List.getElem?_eq_getElem hi)
theorem ln_set {ys : List Ln} {i : Nat} {y : Ln} (hi : i < ys.length) : (ys.flatMap ln2).take (i * 2) ++ ln2 y ++ (ys.flatMap ln2).drop (i * 2 + (ln2 y).length) = (ys.set i y).flatMap ln2 := rowSet ln2_len hi
theorem ln_len (ys : List Ln) : (ys.flatMap ln2).length = ys.length * 2 := rowLen ln2_len ys
theorem ln_one {y : Ln} : ∀ u ∈ ln2 y, oneCell u = true := by
  intro u hu
  simp only [ln2, List.mem_cons, List.not_mem_nil, or_false] at hu
  rcases hu with rfl | rfl <;> rfl
section
variable {w0 w : World} {l : List Res} {b n cap : Nat} {ys : List Ln} {cv : Value}
theorem half_ar {x y : Nat} (h : x + y ≤ 4000000000) : IntKind.i64.wrap (((x : Int) + y).fdiv (2 ^ min (Int.toNat 1) IntKind.u64.bits)) = (((x + y) / 2 : Nat) : Int) := by
  have e : (2 : Int) ^ min (Int.toNat 1) IntKind.u64.bits = 2 := by decide
  rw [e, Int.fdiv_eq_ediv_of_nonneg _ (by omega), wrap_i64 (by omega) (by omega)]
  omega
theorem sub_ar {x : Int} {y : Nat} (h : x = (y : Int)) (hy : y ≤ 4000000000) : IntKind.i64.wrap x = (y : Int) := by rw [h]; exact wrap_i64 (by omega) (by omega)
theorem nSwapRange (H : Sep w0 w (lnR b n cap ys :: l)) (hl : ys.length = n) (hn : n ≤ 1000000000) {a c k : Nat} (ha : a + k ≤ n) (hc : c + k ≤ n) (hd : a + k ≤ c) :
    Does Tryz.prog 144 #[.slice (some ⟨b, 0, none⟩) n cap, .int .i64 (a : Int), .int .i64 (c : Int), .int .i64 (k : Int), cv] w fun v w' => ∃ zs : List Ln, zs.Perm ys ∧ Sep w0 w' (lnR b n cap zs :: l) := by
  refine Does_intro tok (Tryz.call144 _ _) Tryz.func144 rfl (by rfl) ?_
  (repeat first | refine go ?_ | ((try conv => whnf); (first | (refine St_gate ?_; refine xS ?_) | (refine StN_gate ?_; refine xN ?_)); clear H; intro w H))
  refine Loop_intro (fun q : Nat × List Ln => [(10, .int .i64 (q.1 : Int))]) (fun q w => (q.1 ≤ k ∧ q.2.Perm ys) ∧ Sep w0 w (lnR b n cap q.2 :: l)) (fun q => k - q.1) (0, ys) ⟨rfl, trivial⟩ ⟨⟨Nat.zero_le _, List.Perm.refl _⟩, H⟩ ?_
  clear H
  rintro ⟨i, zs⟩ w ⟨⟨hi, hp⟩, H⟩
  simp only [] at hi hp H ⊢
  have hzl : zs.length = n := hp.length_eq.trans hl
  refine Br_dec (fun k1 => ?_) (fun k1 => ?_)
  · (repeat first | refine go ?_ | ((try conv => whnf); (first | (refine St_gate ?_; refine xS ?_) | (refine StN_gate ?_; refine xN ?_)); clear H; intro w H))
    refine Draw_intro mixed [0, 1, 2, 3, 4, 5, 6, 7, 8, 9, 10, 11, 12, 13, 14, 15, 16, 17, 18, 19, 20, 21, 22, 23] (by decide +kernel) (fun w _ fd => ?_); replace H := H.fr fd; clear fd
    (repeat first | refine go ?_ | ((try conv => whnf); (first | (refine St_gate ?_; refine xS ?_) | (refine StN_gate ?_; refine xN ?_)); clear H; intro w H))
    obtain ⟨p, hpe⟩ : ∃ p, p = a + i := ⟨_, rfl⟩
    obtain ⟨q, hqe⟩ : ∃ q, q = c + i := ⟨_, rfl⟩
    have hp' : p < zs.length := by omega
    have hq : q < zs.length := by omega
    (refine Ix_in q (by omega) (by omega) ?_; refine LdN_mO (j := q * 2) H mm (vs := ln2 (zs[q]'hq)) (ln_row hq) rfl ?_; (repeat first | refine go ?_ | ((try conv => whnf); (first | (refine St_gate ?_; refine xS ?_) | (refine StN_gate ?_; refine xN ?_)); clear H; intro w H)); refine Ix_in p (by omega) (by omega) ?_; refine LdN_mO (j := p * 2) H mm (vs := ln2 (zs[p]'hp')) (ln_row hp') rfl ?_; (repeat first | refine go ?_ | ((try conv => whnf); (first | (refine St_gate ?_; refine xS ?_) | (refine StN_gate ?_; refine xN ?_)); clear H; intro w H)); refine Ix_in p (by omega) (by omega) ?_; refine StN_uO H (by repeat first | exact Upd.head | apply Upd.tail) ln_one (by rw [ln_len]; show _ + 2 ≤ _; omega) (ln_set hp') ?_; clear H; intro w H; (repeat first | refine go ?_ | ((try conv => whnf); (first | (refine St_gate ?_; refine xS ?_) | (refine StN_gate ?_; refine xN ?_)); clear H; intro w H)); refine Ix_in q (by omega) (by omega) ?_; refine StN_uO H (by repeat first | exact Upd.head | apply Upd.tail) ln_one (by rw [ln_len, List.length_set]; show _ + 2 ≤ _; omega) (ln_set (by rw [List.length_set]; exact hq)) ?_; clear H; intro w H; have hp := (swap_perm hp' hq).trans hp; (repeat first | refine go ?_ | ((try conv => whnf); (first | (refine St_gate ?_; refine xS ?_) | (refine StN_gate ?_; refine xN ?_)); clear H; intro w H)))
    exact ⟨(i + 1, (zs.set p zs[q]).set q zs[p]), ⟨congrArg some (vint (by simp)), trivial⟩, ⟨⟨by omega, hp⟩, H⟩, by simp; omega⟩
  · (repeat first | refine go ?_ | ((try conv => whnf); (first | (refine St_gate ?_; refine xS ?_) | (refine StN_gate ?_; refine xN ?_)); clear H; intro w H))
    exact Ret_in ⟨zs, hp, H⟩
theorem nRotate (H : Sep w0 w (lnR b n cap ys :: l)) (hl : ys.length = n) (hn : n ≤ 1000000000) {a m c : Nat} (h1 : a < m) (h2 : m < c) (h3 : c ≤ n) :
    Does Tryz.prog 143 #[.slice (some ⟨b, 0, none⟩) n cap, .int .i64 (a : Int), .int .i64 (m : Int), .int .i64 (c : Int), cv] w fun v w' => ∃ zs : List Ln, zs.Perm ys ∧ Sep w0 w' (lnR b n cap zs :: l) := by
  refine Does_intro tok (Tryz.call143 _ _) Tryz.func143 rfl (by rfl) ?_
  (repeat first | refine go ?_ | ((try conv => whnf); (first | (refine St_gate ?_; refine xS ?_) | (refine StN_gate ?_; refine xN ?_)); clear H; intro w H))
  refine Loop_intro (fun q : Nat × Nat × List Ln => [(10, .int .i64 (q.1 : Int)), (11, .int .i64 (q.2.1 : Int))]) (fun q w => ((1 ≤ q.1 ∧ a + q.1 ≤ m ∧ 1 ≤ q.2.1 ∧ m + q.2.1 ≤ c) ∧ q.2.2.Perm ys) ∧ Sep w0 w (lnR b n cap q.2.2 :: l)) (fun q => q.1 + q.2.1) (m - a, c - m, ys) ⟨congrArg some (vint (by simp only []; omega)), congrArg some (vint (by simp only []; omega)), trivial⟩ ⟨⟨⟨by simp only []; omega, by simp only []; omega, by simp only []; omega, by simp only []; omega⟩, List.Perm.refl _⟩, H⟩ ?_
  clear H
  rintro ⟨i, j, zs⟩ w ⟨⟨⟨i1, i2, j1, j2⟩, hp⟩, H⟩
  simp only [] at i1 i2 j1 j2 hp H ⊢
  have hzl : zs.length = n := hp.length_eq.trans hl
  refine Br_ne (fun k1 => ?_) (fun k1 => ?_)
  · (repeat first | refine go ?_ | ((try conv => whnf); (first | (refine St_gate ?_; refine xS ?_) | (refine StN_gate ?_; refine xN ?_)); clear H; intro w H))
    refine Br_dec (fun k2 => ?_) (fun k2 => ?_)
    · (repeat first | refine go ?_ | ((try conv => whnf); (first | (refine St_gate ?_; refine xS ?_) | (refine StN_gate ?_; refine xN ?_)); clear H; intro w H))
      have e : (m : Int) - i = ((m - i : Nat) : Int) := by omega
      rw [e]
      refine Call_of (nSwapRange H hzl hn (by omega) (by omega) (by omega)) ?_
      clear H
      rintro _ w ⟨us, hu, H⟩
      (repeat first | refine go ?_ | ((try conv => whnf); (first | (refine St_gate ?_; refine xS ?_) | (refine StN_gate ?_; refine xN ?_)); clear H; intro w H))
      exact ⟨(i - j, j, us), ⟨congrArg some (vint (by simp only []; omega)), rfl, trivial⟩, ⟨⟨⟨by simp only []; omega, by simp only []; omega, j1, j2⟩, hu.trans hp⟩, H⟩, by simp only []; omega⟩
    · (repeat first | refine go ?_ | ((try conv => whnf); (first | (refine St_gate ?_; refine xS ?_) | (refine StN_gate ?_; refine xN ?_)); clear H; intro w H))
      have e : (m : Int) - i = ((m - i : Nat) : Int) := by omega
      have e2 : (m : Int) + j - i = ((m + j - i : Nat) : Int) := by omega
      rw [e, e2]
      refine Call_of (nSwapRange H hzl hn (by omega) (by omega) (by omega)) ?_
      clear H
      rintro _ w ⟨us, hu, H⟩
      (repeat first | refine go ?_ | ((try conv => whnf); (first | (refine St_gate ?_; refine xS ?_) | (refine StN_gate ?_; refine xN ?_)); clear H; intro w H))
      exact ⟨(i, j - i, us), ⟨rfl, congrArg some (vint (by simp only []; omega)), trivial⟩, ⟨⟨⟨i1, i2, by simp only []; omega, by simp only []; omega⟩, hu.trans hp⟩, H⟩, by simp only []; omega⟩
  · (repeat first | refine go ?_ | ((try conv => whnf); (first | (refine St_gate ?_; refine xS ?_) | (refine StN_gate ?_; refine xN ?_)); clear H; intro w H))
    have e : (m : Int) - i = ((m - i : Nat) : Int) := by omega
    rw [e]
    refine Call_of (nSwapRange H hzl hn (by omega) (by omega) (by omega)) ?_
    clear H
    rintro _ w ⟨us, hu, H⟩
    (repeat first | refine go ?_ | ((try conv => whnf); (first | (refine St_gate ?_; refine xS ?_) | (refine StN_gate ?_; refine xN ?_)); clear H; intro w H))
    exact Ret_in ⟨us, hu.trans hp, H⟩
end
section
variable {w0 w : World} {l : List Res} {b n cap : Nat} {ys : List Ln} {cf : FuncId} (hcf : ∀ {w' : World} {l' : List Res}, Sep w0 w' l' → ∀ x y : Ln, Does Tryz.prog cf #[.agg (ln2 x).toArray, .agg (ln2 y).toArray] w' fun v w'' => (∃ z : Int, v = .int .i64 z) ∧ Sep w0 w'' l')
include hcf
theorem nInsertion (H : Sep w0 w (lnR b n cap ys :: l)) (hl : ys.length = n) (hn : n ≤ 1000000000) {a c : Nat} (h3 : c ≤ n) (h4 : a ≤ n) :
    Does Tryz.prog 140 #[.slice (some ⟨b, 0, none⟩) n cap, .int .i64 (a : Int), .int .i64 (c : Int), .func (.func cf) #[] #[]] w fun v w' => ∃ zs : List Ln, zs.Perm ys ∧ Sep w0 w' (lnR b n cap zs :: l) := by
  refine Does_intro tok (Tryz.call140 _ _) Tryz.func140 rfl (by rfl) ?_
  (repeat first | refine go ?_ | ((try conv => whnf); (first | (refine St_gate ?_; refine xS ?_) | (refine StN_gate ?_; refine xN ?_)); clear H; intro w H))
  refine Loop_intro (fun q : Nat × List Ln => [(8, .int .i64 (q.1 : Int))]) (fun q w => (a + 1 ≤ q.1 ∧ q.2.Perm ys) ∧ Sep w0 w (lnR b n cap q.2 :: l)) (fun q => c - q.1) (a + 1, ys) ⟨congrArg some (vint (by simp)), trivial⟩ ⟨⟨Nat.le_refl _, List.Perm.refl _⟩, H⟩ ?_
  clear H
  rintro ⟨i, zs⟩ w ⟨⟨hi, hp⟩, H⟩
  simp only [] at hi hp H ⊢
  refine Br_dec (fun k1 => ?_) (fun k1 => ?_)
  · (repeat first | refine go ?_ | ((try conv => whnf); (first | (refine St_gate ?_; refine xS ?_) | (refine StN_gate ?_; refine xN ?_)); clear H; intro w H))
    refine Loop_intro (fun q : Nat × List Ln => [(9, .int .i64 (q.1 : Int))]) (fun q w => ((a ≤ q.1 ∧ q.1 ≤ i) ∧ q.2.Perm ys) ∧ Sep w0 w (lnR b n cap q.2 :: l)) (fun q => q.1) (i, zs) ⟨rfl, trivial⟩ ⟨⟨⟨by simp only []; omega, Nat.le_refl _⟩, hp⟩, H⟩ ?_
    clear H hp zs
    rintro ⟨j, zs⟩ w ⟨⟨⟨hj, hj2⟩, hp⟩, H⟩
    simp only [] at hj hj2 hp H ⊢
    have hzl : zs.length = n := hp.length_eq.trans hl
    by_cases hja : a < j
    · (repeat first | refine go ?_ | ((try conv => whnf); (first | (refine St_gate ?_; refine xS ?_) | (refine StN_gate ?_; refine xN ?_)); clear H; intro w H))
      refine Draw_intro mixed [0, 1, 2, 3, 4, 5, 6, 7, 8, 9, 10, 11, 12, 13, 14, 15, 16] (by decide +kernel) (fun w _ fd => ?_); replace H := H.fr fd; clear fd
      (repeat first | refine go ?_ | ((try conv => whnf); (first | (refine St_gate ?_; refine xS ?_) | (refine StN_gate ?_; refine xN ?_)); clear H; intro w H))
      refine Ix_in j rfl (by omega) ?_
      (repeat first | refine go ?_ | ((try conv => whnf); (first | (refine St_gate ?_; refine xS ?_) | (refine StN_gate ?_; refine xN ?_)); clear H; intro w H))
      have hjl : j < zs.length := by omega
      have hjl2 : j - 1 < zs.length := by omega
      refine LdN_mO (j := j * 2) H mm (vs := ln2 (zs[j]'hjl)) (ln_row hjl) rfl ?_
      (repeat first | refine go ?_ | ((try conv => whnf); (first | (refine St_gate ?_; refine xS ?_) | (refine StN_gate ?_; refine xN ?_)); clear H; intro w H))
      refine Ix_in (j - 1) (by omega) (by omega) ?_
      (repeat first | refine go ?_ | ((try conv => whnf); (first | (refine St_gate ?_; refine xS ?_) | (refine StN_gate ?_; refine xN ?_)); clear H; intro w H))
      refine LdN_mO (j := (j - 1) * 2) H mm (vs := ln2 (zs[j - 1]'hjl2)) (ln_row hjl2) rfl ?_
      (repeat first | refine go ?_ | ((try conv => whnf); (first | (refine St_gate ?_; refine xS ?_) | (refine StN_gate ?_; refine xN ?_)); clear H; intro w H))
      refine Call_of (hcf H _ _) ?_
      clear H
      rintro _ w ⟨⟨z, rfl⟩, H⟩
      (repeat first | refine go ?_ | ((try conv => whnf); (first | (refine St_gate ?_; refine xS ?_) | (refine StN_gate ?_; refine xN ?_)); clear H; intro w H))
      refine Br_dec (fun k2 => ?_) (fun k2 => ?_)
      · (repeat first | refine go ?_ | ((try conv => whnf); (first | (refine St_gate ?_; refine xS ?_) | (refine StN_gate ?_; refine xN ?_)); clear H; intro w H))
        refine Draw_intro mixed [0, 1, 2, 3, 4, 5, 6, 7, 8, 9, 10, 11, 12, 13, 14, 15, 16, 17] (by decide +kernel) (fun w _ fd => ?_); replace H := H.fr fd; clear fd
        (repeat first | refine go ?_ | ((try conv => whnf); (first | (refine St_gate ?_; refine xS ?_) | (refine StN_gate ?_; refine xN ?_)); clear H; intro w H))
        obtain ⟨p, hpe⟩ : ∃ p, p = j := ⟨_, rfl⟩
        obtain ⟨q, hqe⟩ : ∃ q, q = j - 1 := ⟨_, rfl⟩
        have hp' : p < zs.length := by omega
        have hq : q < zs.length := by omega
        (refine Ix_in q (by omega) (by omega) ?_; refine LdN_mO (j := q * 2) H mm (vs := ln2 (zs[q]'hq)) (ln_row hq) rfl ?_; (repeat first | refine go ?_ | ((try conv => whnf); (first | (refine St_gate ?_; refine xS ?_) | (refine StN_gate ?_; refine xN ?_)); clear H; intro w H)); refine Ix_in p (by omega) (by omega) ?_; refine LdN_mO (j := p * 2) H mm (vs := ln2 (zs[p]'hp')) (ln_row hp') rfl ?_; (repeat first | refine go ?_ | ((try conv => whnf); (first | (refine St_gate ?_; refine xS ?_) | (refine StN_gate ?_; refine xN ?_)); clear H; intro w H)); refine Ix_in p (by omega) (by omega) ?_; refine StN_uO H (by repeat first | exact Upd.head | apply Upd.tail) ln_one (by rw [ln_len]; show _ + 2 ≤ _; omega) (ln_set hp') ?_; clear H; intro w H; (repeat first | refine go ?_ | ((try conv => whnf); (first | (refine St_gate ?_; refine xS ?_) | (refine StN_gate ?_; refine xN ?_)); clear H; intro w H)); refine Ix_in q (by omega) (by omega) ?_; refine StN_uO H (by repeat first | exact Upd.head | apply Upd.tail) ln_one (by rw [ln_len, List.length_set]; show _ + 2 ≤ _; omega) (ln_set (by rw [List.length_set]; exact hq)) ?_; clear H; intro w H; have hp := (swap_perm hp' hq).trans hp; (repeat first | refine go ?_ | ((try conv => whnf); (first | (refine St_gate ?_; refine xS ?_) | (refine StN_gate ?_; refine xN ?_)); clear H; intro w H)))
        exact ⟨(j - 1, (zs.set p zs[q]).set q zs[p]), ⟨congrArg some (vint (by simp only []; omega)), trivial⟩, ⟨⟨⟨by simp only []; omega, by simp only []; omega⟩, hp⟩, H⟩, by simp only []; omega⟩
      · (repeat first | refine go ?_ | ((try conv => whnf); (first | (refine St_gate ?_; refine xS ?_) | (refine StN_gate ?_; refine xN ?_)); clear H; intro w H))
        exact ⟨(i + 1, zs), ⟨congrArg some (vint (by simp)), trivial⟩, ⟨⟨by simp only []; omega, hp⟩, H⟩, by simp only []; omega⟩
    · (repeat first | refine go ?_ | ((try conv => whnf); (first | (refine St_gate ?_; refine xS ?_) | (refine StN_gate ?_; refine xN ?_)); clear H; intro w H))
      refine Draw_intro mixed [0, 1, 2, 3, 4, 5, 6, 7, 8, 9, 10, 11, 12, 13, 14, 15, 16] (by decide +kernel) (fun w _ fd => ?_); replace H := H.fr fd; clear fd
      (repeat first | refine go ?_ | ((try conv => whnf); (first | (refine St_gate ?_; refine xS ?_) | (refine StN_gate ?_; refine xN ?_)); clear H; intro w H))
      exact ⟨(i + 1, zs), ⟨congrArg some (vint (by simp)), trivial⟩, ⟨⟨by simp only []; omega, hp⟩, H⟩, by simp only []; omega⟩
  · (repeat first | refine go ?_ | ((try conv => whnf); (first | (refine St_gate ?_; refine xS ?_) | (refine StN_gate ?_; refine xN ?_)); clear H; intro w H))
    exact Ret_in ⟨zs, hp, H⟩
end
end Go.Proofs.YtcibiidebknkgaaGreat
/-! The same: symMerge, and the sort. -/
set_option linter.unusedVariables false
set_option linter.unusedSimpArgs false
namespace Go.Proofs.YtcibiidebknkgaaGreat
open Go Go.Vc
set_option maxHeartbeats 4000000
set_option maxRecDepth 100000
section
variable {w0 w : World} {l : List Res} {b n cap : Nat} {ys : List Ln} {cf : FuncId} (hcf : ∀ {w' : World} {l' : List Res}, Sep w0 w' l' → ∀ x y : Ln, Does Tryz.prog cf #[.agg (ln2 x).toArray, .agg (ln2 y).toArray] w' fun v w'' => (∃ z : Int, v = .int .i64 z) ∧ Sep w0 w'' l')
include hcf
theorem nSym : ∀ (g : Nat) {w : World} {ys : List Ln} {a m c : Nat}, Sep w0 w (lnR b n cap ys :: l) → ys.length = n → n ≤ 1000000000 → a < m → m < c → c ≤ n → c - a ≤ g →
    Does Tryz.prog 141 #[.slice (some ⟨b, 0, none⟩) n cap, .int .i64 (a : Int), .int .i64 (m : Int), .int .i64 (c : Int), .func (.func cf) #[] #[]] w fun v w' => ∃ zs : List Ln, zs.Perm ys ∧ Sep w0 w' (lnR b n cap zs :: l) := by
  intro g
  induction g using Nat.strongRecOn with
  | ind g ih =>
  intro w ys a m c H hl hn h1 h2 h3 hg
  refine Does_intro tok (Tryz.call141 _ _) Tryz.func141 rfl (by rfl) ?_
  by_cases hm1 : m = a + 1
  · (repeat first | refine go ?_ | ((try conv => whnf); (first | (refine St_gate ?_; refine xS ?_) | (refine StN_gate ?_; refine xN ?_)); clear H; intro w H))
    refine Loop_intro (fun q : Nat × Nat => [(10, .int .i64 (q.1 : Int)), (11, .int .i64 (q.2 : Int))]) (fun q w => (m ≤ q.1 ∧ q.1 ≤ q.2 ∧ q.2 ≤ c) ∧ Sep w0 w (lnR b n cap ys :: l)) (fun q => q.2 - q.1) (m, c) ⟨rfl, rfl, trivial⟩ ⟨⟨Nat.le_refl _, by simp only []; omega, Nat.le_refl _⟩, H⟩ ?_
    clear H
    rintro ⟨i, j⟩ w ⟨⟨b1, b2, b3⟩, H⟩
    simp only [] at b1 b2 b3 H ⊢
    refine Br_dec (fun k1 => ?_) (fun k1 => ?_)
    · obtain ⟨zs, hzs⟩ : ∃ zs, zs = ys := ⟨_, rfl⟩
      rw [← hzs] at H
      have hzl : zs.length = n := by rw [hzs]; exact hl
      (repeat first | refine go ?_ | ((try conv => whnf); (first | (refine St_gate ?_; refine xS ?_) | (refine StN_gate ?_; refine xN ?_)); clear H; intro w H))
      (obtain ⟨h, hh⟩ : ∃ h, h = (i + j) / 2 := ⟨_, rfl⟩; refine Ar_is (h : Int) (by rw [hh]; exact half_ar (by omega)) ?_; (repeat first | refine go ?_ | ((try conv => whnf); (first | (refine St_gate ?_; refine xS ?_) | (refine StN_gate ?_; refine xN ?_)); clear H; intro w H)))
      refine Draw_intro mixed [0, 1, 2, 3, 4, 5, 6, 7, 8, 9, 10] (by decide +kernel) (fun w _ fd => ?_); replace H := H.fr fd; clear fd
      (repeat first | refine go ?_ | ((try conv => whnf); (first | (refine St_gate ?_; refine xS ?_) | (refine StN_gate ?_; refine xN ?_)); clear H; intro w H))
      obtain ⟨p, hpe⟩ : ∃ p, p = a := ⟨_, rfl⟩
      obtain ⟨q, hqe⟩ : ∃ q, q = h := ⟨_, rfl⟩
      have hp' : p < zs.length := by omega
      have hq : q < zs.length := by omega
      (refine Ix_in q (by omega) (by omega) ?_; (repeat first | refine go ?_ | ((try conv => whnf); (first | (refine St_gate ?_; refine xS ?_) | (refine StN_gate ?_; refine xN ?_)); clear H; intro w H)); refine LdN_mO (j := q * 2) H mm (vs := ln2 (zs[q]'hq)) (ln_row hq) rfl ?_; (repeat first | refine go ?_ | ((try conv => whnf); (first | (refine St_gate ?_; refine xS ?_) | (refine StN_gate ?_; refine xN ?_)); clear H; intro w H)); refine Ix_in p (by omega) (by omega) ?_; (repeat first | refine go ?_ | ((try conv => whnf); (first | (refine St_gate ?_; refine xS ?_) | (refine StN_gate ?_; refine xN ?_)); clear H; intro w H)); refine LdN_mO (j := p * 2) H mm (vs := ln2 (zs[p]'hp')) (ln_row hp') rfl ?_; (repeat first | refine go ?_ | ((try conv => whnf); (first | (refine St_gate ?_; refine xS ?_) | (refine StN_gate ?_; refine xN ?_)); clear H; intro w H)); refine Call_of (hcf H _ _) ?_; clear H; rintro _ w ⟨⟨z, rfl⟩, H⟩; (repeat first | refine go ?_ | ((try conv => whnf); (first | (refine St_gate ?_; refine xS ?_) | (refine StN_gate ?_; refine xN ?_)); clear H; intro w H)))
      rw [hzs] at H
      refine Br_dec (fun k2 => ?_) (fun k2 => ?_)
      · (repeat first | refine go ?_ | ((try conv => whnf); (first | (refine St_gate ?_; refine xS ?_) | (refine StN_gate ?_; refine xN ?_)); clear H; intro w H))
        exact ⟨(h + 1, j), ⟨congrArg some (vint (by simp)), rfl, trivial⟩, ⟨⟨by simp only []; omega, by simp only []; omega, b3⟩, H⟩, by simp only []; omega⟩
      · (repeat first | refine go ?_ | ((try conv => whnf); (first | (refine St_gate ?_; refine xS ?_) | (refine StN_gate ?_; refine xN ?_)); clear H; intro w H))
        exact ⟨(i, h), ⟨rfl, rfl, trivial⟩, ⟨⟨b1, by simp only []; omega, by simp only []; omega⟩, H⟩, by simp only []; omega⟩
    · (repeat first | refine go ?_ | ((try conv => whnf); (first | (refine St_gate ?_; refine xS ?_) | (refine StN_gate ?_; refine xN ?_)); clear H; intro w H))
      refine Loop_intro (fun q : Nat × List Ln => [(13, .int .i64 (q.1 : Int))]) (fun q w => (a ≤ q.1 ∧ q.2.Perm ys) ∧ Sep w0 w (lnR b n cap q.2 :: l)) (fun q => c - q.1) (a, ys) ⟨rfl, trivial⟩ ⟨⟨Nat.le_refl _, List.Perm.refl _⟩, H⟩ ?_
      clear H
      rintro ⟨k, zs⟩ w ⟨⟨hk, hp⟩, H⟩
      simp only [] at hk hp H ⊢
      have hzl : zs.length = n := hp.length_eq.trans hl
      (repeat first | refine go ?_ | ((try conv => whnf); (first | (refine St_gate ?_; refine xS ?_) | (refine StN_gate ?_; refine xN ?_)); clear H; intro w H))
      refine Br_dec (fun k2 => ?_) (fun k2 => ?_)
      · (repeat first | refine go ?_ | ((try conv => whnf); (first | (refine St_gate ?_; refine xS ?_) | (refine StN_gate ?_; refine xN ?_)); clear H; intro w H))
        refine Draw_intro mixed [0, 1, 2, 3, 4, 5, 6, 7, 8, 9, 10, 11, 12, 13, 14, 15, 16, 17] (by decide +kernel) (fun w _ fd => ?_); replace H := H.fr fd; clear fd
        (repeat first | refine go ?_ | ((try conv => whnf); (first | (refine St_gate ?_; refine xS ?_) | (refine StN_gate ?_; refine xN ?_)); clear H; intro w H))
        obtain ⟨p, hpe⟩ : ∃ p, p = k := ⟨_, rfl⟩
        obtain ⟨q, hqe⟩ : ∃ q, q = k + 1 := ⟨_, rfl⟩
        have hp' : p < zs.length := by omega
        have hq : q < zs.length := by omega
        (refine Ix_in q (by omega) (by omega) ?_; refine LdN_mO (j := q * 2) H mm (vs := ln2 (zs[q]'hq)) (ln_row hq) rfl ?_; (repeat first | refine go ?_ | ((try conv => whnf); (first | (refine St_gate ?_; refine xS ?_) | (refine StN_gate ?_; refine xN ?_)); clear H; intro w H)); refine Ix_in p (by omega) (by omega) ?_; refine LdN_mO (j := p * 2) H mm (vs := ln2 (zs[p]'hp')) (ln_row hp') rfl ?_; (repeat first | refine go ?_ | ((try conv => whnf); (first | (refine St_gate ?_; refine xS ?_) | (refine StN_gate ?_; refine xN ?_)); clear H; intro w H)); refine Ix_in p (by omega) (by omega) ?_; refine StN_uO H (by repeat first | exact Upd.head | apply Upd.tail) ln_one (by rw [ln_len]; show _ + 2 ≤ _; omega) (ln_set hp') ?_; clear H; intro w H; (repeat first | refine go ?_ | ((try conv => whnf); (first | (refine St_gate ?_; refine xS ?_) | (refine StN_gate ?_; refine xN ?_)); clear H; intro w H)); refine Ix_in q (by omega) (by omega) ?_; refine StN_uO H (by repeat first | exact Upd.head | apply Upd.tail) ln_one (by rw [ln_len, List.length_set]; show _ + 2 ≤ _; omega) (ln_set (by rw [List.length_set]; exact hq)) ?_; clear H; intro w H; have hp := (swap_perm hp' hq).trans hp; (repeat first | refine go ?_ | ((try conv => whnf); (first | (refine St_gate ?_; refine xS ?_) | (refine StN_gate ?_; refine xN ?_)); clear H; intro w H)))
        exact ⟨(k + 1, (zs.set p zs[q]).set q zs[p]), ⟨congrArg some (vint (by simp)), trivial⟩, ⟨⟨by simp only []; omega, hp⟩, H⟩, by simp only []; omega⟩
      · (repeat first | refine go ?_ | ((try conv => whnf); (first | (refine St_gate ?_; refine xS ?_) | (refine StN_gate ?_; refine xN ?_)); clear H; intro w H))
        exact Ret_in ⟨zs, hp, H⟩
  by_cases hm2 : c = m + 1
  · (repeat first | refine go ?_ | ((try conv => whnf); (first | (refine St_gate ?_; refine xS ?_) | (refine StN_gate ?_; refine xN ?_)); clear H; intro w H))
    refine Loop_intro (fun q : Nat × Nat => [(14, .int .i64 (q.1 : Int)), (15, .int .i64 (q.2 : Int))]) (fun q w => (a ≤ q.1 ∧ q.1 ≤ q.2 ∧ q.2 ≤ m) ∧ Sep w0 w (lnR b n cap ys :: l)) (fun q => q.2 - q.1) (a, m) ⟨rfl, rfl, trivial⟩ ⟨⟨Nat.le_refl _, by simp only []; omega, Nat.le_refl _⟩, H⟩ ?_
    clear H
    rintro ⟨i, j⟩ w ⟨⟨b1, b2, b3⟩, H⟩
    simp only [] at b1 b2 b3 H ⊢
    refine Br_dec (fun k1 => ?_) (fun k1 => ?_)
    · obtain ⟨zs, hzs⟩ : ∃ zs, zs = ys := ⟨_, rfl⟩
      rw [← hzs] at H
      have hzl : zs.length = n := by rw [hzs]; exact hl
      (repeat first | refine go ?_ | ((try conv => whnf); (first | (refine St_gate ?_; refine xS ?_) | (refine StN_gate ?_; refine xN ?_)); clear H; intro w H))
      (obtain ⟨h, hh⟩ : ∃ h, h = (i + j) / 2 := ⟨_, rfl⟩; refine Ar_is (h : Int) (by rw [hh]; exact half_ar (by omega)) ?_; (repeat first | refine go ?_ | ((try conv => whnf); (first | (refine St_gate ?_; refine xS ?_) | (refine StN_gate ?_; refine xN ?_)); clear H; intro w H)))
      refine Draw_intro mixed [0, 1, 2, 3, 4, 5, 6, 7, 8, 9, 10, 11] (by decide +kernel) (fun w _ fd => ?_); replace H := H.fr fd; clear fd
      (repeat first | refine go ?_ | ((try conv => whnf); (first | (refine St_gate ?_; refine xS ?_) | (refine StN_gate ?_; refine xN ?_)); clear H; intro w H))
      obtain ⟨p, hpe⟩ : ∃ p, p = h := ⟨_, rfl⟩
      obtain ⟨q, hqe⟩ : ∃ q, q = m := ⟨_, rfl⟩
      have hp' : p < zs.length := by omega
      have hq : q < zs.length := by omega
      (refine Ix_in q (by omega) (by omega) ?_; (repeat first | refine go ?_ | ((try conv => whnf); (first | (refine St_gate ?_; refine xS ?_) | (refine StN_gate ?_; refine xN ?_)); clear H; intro w H)); refine LdN_mO (j := q * 2) H mm (vs := ln2 (zs[q]'hq)) (ln_row hq) rfl ?_; (repeat first | refine go ?_ | ((try conv => whnf); (first | (refine St_gate ?_; refine xS ?_) | (refine StN_gate ?_; refine xN ?_)); clear H; intro w H)); refine Ix_in p (by omega) (by omega) ?_; (repeat first | refine go ?_ | ((try conv => whnf); (first | (refine St_gate ?_; refine xS ?_) | (refine StN_gate ?_; refine xN ?_)); clear H; intro w H)); refine LdN_mO (j := p * 2) H mm (vs := ln2 (zs[p]'hp')) (ln_row hp') rfl ?_; (repeat first | refine go ?_ | ((try conv => whnf); (first | (refine St_gate ?_; refine xS ?_) | (refine StN_gate ?_; refine xN ?_)); clear H; intro w H)); refine Call_of (hcf H _ _) ?_; clear H; rintro _ w ⟨⟨z, rfl⟩, H⟩; (repeat first | refine go ?_ | ((try conv => whnf); (first | (refine St_gate ?_; refine xS ?_) | (refine StN_gate ?_; refine xN ?_)); clear H; intro w H)))
      rw [hzs] at H
      by_cases hz : z < 0
      · (repeat first | refine go ?_ | ((try conv => whnf); (first | (refine St_gate ?_; refine xS ?_) | (refine StN_gate ?_; refine xN ?_)); clear H; intro w H))
        exact ⟨(i, h), ⟨rfl, rfl, trivial⟩, ⟨⟨b1, by simp only []; omega, by simp only []; omega⟩, H⟩, by simp only []; omega⟩
      · (repeat first | refine go ?_ | ((try conv => whnf); (first | (refine St_gate ?_; refine xS ?_) | (refine StN_gate ?_; refine xN ?_)); clear H; intro w H))
        exact ⟨(h + 1, j), ⟨congrArg some (vint (by simp)), rfl, trivial⟩, ⟨⟨by simp only []; omega, by simp only []; omega, b3⟩, H⟩, by simp only []; omega⟩
    · (repeat first | refine go ?_ | ((try conv => whnf); (first | (refine St_gate ?_; refine xS ?_) | (refine StN_gate ?_; refine xN ?_)); clear H; intro w H))
      refine Loop_intro (fun q : Nat × List Ln => [(17, .int .i64 (q.1 : Int))]) (fun q w => (q.1 ≤ m ∧ q.2.Perm ys) ∧ Sep w0 w (lnR b n cap q.2 :: l)) (fun q => q.1) (m, ys) ⟨rfl, trivial⟩ ⟨⟨Nat.le_refl _, List.Perm.refl _⟩, H⟩ ?_
      clear H
      rintro ⟨k, zs⟩ w ⟨⟨hk, hp⟩, H⟩
      simp only [] at hk hp H ⊢
      have hzl : zs.length = n := hp.length_eq.trans hl
      refine Br_dec (fun k2 => ?_) (fun k2 => ?_)
      · (repeat first | refine go ?_ | ((try conv => whnf); (first | (refine St_gate ?_; refine xS ?_) | (refine StN_gate ?_; refine xN ?_)); clear H; intro w H))
        refine Draw_intro mixed [0, 1, 2, 3, 4, 5, 6, 7, 8, 9, 10, 11, 12, 13, 14, 15, 16, 17] (by decide +kernel) (fun w _ fd => ?_); replace H := H.fr fd; clear fd
        (repeat first | refine go ?_ | ((try conv => whnf); (first | (refine St_gate ?_; refine xS ?_) | (refine StN_gate ?_; refine xN ?_)); clear H; intro w H))
        obtain ⟨p, hpe⟩ : ∃ p, p = k := ⟨_, rfl⟩
        obtain ⟨q, hqe⟩ : ∃ q, q = k - 1 := ⟨_, rfl⟩
        have hp' : p < zs.length := by omega
        have hq : q < zs.length := by omega
        (refine Ix_in q (by omega) (by omega) ?_; refine LdN_mO (j := q * 2) H mm (vs := ln2 (zs[q]'hq)) (ln_row hq) rfl ?_; (repeat first | refine go ?_ | ((try conv => whnf); (first | (refine St_gate ?_; refine xS ?_) | (refine StN_gate ?_; refine xN ?_)); clear H; intro w H)); refine Ix_in p (by omega) (by omega) ?_; refine LdN_mO (j := p * 2) H mm (vs := ln2 (zs[p]'hp')) (ln_row hp') rfl ?_; (repeat first | refine go ?_ | ((try conv => whnf); (first | (refine St_gate ?_; refine xS ?_) | (refine StN_gate ?_; refine xN ?_)); clear H; intro w H)); refine Ix_in p (by omega) (by omega) ?_; refine StN_uO H (by repeat first | exact Upd.head | apply Upd.tail) ln_one (by rw [ln_len]; show _ + 2 ≤ _; omega) (ln_set hp') ?_; clear H; intro w H; (repeat first | refine go ?_ | ((try conv => whnf); (first | (refine St_gate ?_; refine xS ?_) | (refine StN_gate ?_; refine xN ?_)); clear H; intro w H)); refine Ix_in q (by omega) (by omega) ?_; refine StN_uO H (by repeat first | exact Upd.head | apply Upd.tail) ln_one (by rw [ln_len, List.length_set]; show _ + 2 ≤ _; omega) (ln_set (by rw [List.length_set]; exact hq)) ?_; clear H; intro w H; have hp := (swap_perm hp' hq).trans hp; (repeat first | refine go ?_ | ((try conv => whnf); (first | (refine St_gate ?_; refine xS ?_) | (refine StN_gate ?_; refine xN ?_)); clear H; intro w H)))
        exact ⟨(k - 1, (zs.set p zs[q]).set q zs[p]), ⟨congrArg some (vint (by simp only []; omega)), trivial⟩, ⟨⟨by simp only []; omega, hp⟩, H⟩, by simp only []; omega⟩
      · (repeat first | refine go ?_ | ((try conv => whnf); (first | (refine St_gate ?_; refine xS ?_) | (refine StN_gate ?_; refine xN ?_)); clear H; intro w H))
        exact Ret_in ⟨zs, hp, H⟩
  (repeat first | refine go ?_ | ((try conv => whnf); (first | (refine St_gate ?_; refine xS ?_) | (refine StN_gate ?_; refine xN ?_)); clear H; intro w H))
  obtain ⟨mid, hmid⟩ : ∃ h, h = (a + c) / 2 := ⟨_, rfl⟩
  refine Ar_is (mid : Int) (by rw [hmid]; exact half_ar (by omega)) ?_
  have m1 : a < mid := by omega
  have m2 : mid < c := by omega
  obtain ⟨s0, hs0⟩ : ∃ s0, s0 = if mid < m then mid + m - c else a := ⟨_, rfl⟩
  obtain ⟨r0, hr0⟩ : ∃ r0, r0 = if mid < m then mid else m := ⟨_, rfl⟩
  (try conv => whnf)
  refine Ar_gate ?_
  refine xA ?_
  by_cases hk : mid < m
  case' pos =>
    rw [if_pos hk] at hs0 hr0
    (repeat first | refine go ?_ | ((try conv => whnf); (first | (refine St_gate ?_; refine xS ?_) | (refine StN_gate ?_; refine xN ?_)); clear H; intro w H))
  case' neg =>
    rw [if_neg hk] at hs0 hr0
    (repeat first | refine go ?_ | ((try conv => whnf); (first | (refine St_gate ?_; refine xS ?_) | (refine StN_gate ?_; refine xN ?_)); clear H; intro w H))
  all_goals
    refine Loop_intro (fun q : Nat × Nat => [(20, .int .i64 (q.1 : Int)), (21, .int .i64 (q.2 : Int))]) (fun q w => (s0 ≤ q.1 ∧ q.1 ≤ q.2 ∧ q.2 ≤ r0) ∧ Sep w0 w (lnR b n cap ys :: l)) (fun q => q.2 - q.1) (s0, r0) ⟨congrArg some (vint (by simp only []; omega)), congrArg some (vint (by simp only []; omega)), trivial⟩ ⟨⟨Nat.le_refl _, by simp only []; omega, Nat.le_refl _⟩, H⟩ ?_
    clear H
    rintro ⟨i, j⟩ w ⟨⟨b1, b2, b3⟩, H⟩
    simp only [] at b1 b2 b3 H ⊢
    refine Br_dec (fun k1 => ?_) (fun k1 => ?_)
    · obtain ⟨zs, hzs⟩ : ∃ zs, zs = ys := ⟨_, rfl⟩
      rw [← hzs] at H
      have hzl : zs.length = n := by rw [hzs]; exact hl
      (repeat first | refine go ?_ | ((try conv => whnf); (first | (refine St_gate ?_; refine xS ?_) | (refine StN_gate ?_; refine xN ?_)); clear H; intro w H))
      (obtain ⟨h, hh⟩ : ∃ h, h = (i + j) / 2 := ⟨_, rfl⟩; refine Ar_is (h : Int) (by rw [hh]; exact half_ar (by omega)) ?_; (repeat first | refine go ?_ | ((try conv => whnf); (first | (refine St_gate ?_; refine xS ?_) | (refine StN_gate ?_; refine xN ?_)); clear H; intro w H)))
      refine Draw_intro mixed [0, 1, 2, 3, 4, 5, 6, 7, 8, 9, 10, 11, 12, 13] (by decide +kernel) (fun w _ fd => ?_); replace H := H.fr fd; clear fd
      (repeat first | refine go ?_ | ((try conv => whnf); (first | (refine St_gate ?_; refine xS ?_) | (refine StN_gate ?_; refine xN ?_)); clear H; intro w H))
      obtain ⟨p, hpe⟩ : ∃ p, p = h := ⟨_, rfl⟩
      obtain ⟨q, hqe⟩ : ∃ q, q = mid + m - 1 - h := ⟨_, rfl⟩
      have hp' : p < zs.length := by omega
      have hq : q < zs.length := by omega
      (refine Ix_in q (by omega) (by omega) ?_; (repeat first | refine go ?_ | ((try conv => whnf); (first | (refine St_gate ?_; refine xS ?_) | (refine StN_gate ?_; refine xN ?_)); clear H; intro w H)); refine LdN_mO (j := q * 2) H mm (vs := ln2 (zs[q]'hq)) (ln_row hq) rfl ?_; (repeat first | refine go ?_ | ((try conv => whnf); (first | (refine St_gate ?_; refine xS ?_) | (refine StN_gate ?_; refine xN ?_)); clear H; intro w H)); refine Ix_in p (by omega) (by omega) ?_; (repeat first | refine go ?_ | ((try conv => whnf); (first | (refine St_gate ?_; refine xS ?_) | (refine StN_gate ?_; refine xN ?_)); clear H; intro w H)); refine LdN_mO (j := p * 2) H mm (vs := ln2 (zs[p]'hp')) (ln_row hp') rfl ?_; (repeat first | refine go ?_ | ((try conv => whnf); (first | (refine St_gate ?_; refine xS ?_) | (refine StN_gate ?_; refine xN ?_)); clear H; intro w H)); refine Call_of (hcf H _ _) ?_; clear H; rintro _ w ⟨⟨z, rfl⟩, H⟩; (repeat first | refine go ?_ | ((try conv => whnf); (first | (refine St_gate ?_; refine xS ?_) | (refine StN_gate ?_; refine xN ?_)); clear H; intro w H)))
      rw [hzs] at H
      by_cases hz : z < 0
      · (repeat first | refine go ?_ | ((try conv => whnf); (first | (refine St_gate ?_; refine xS ?_) | (refine StN_gate ?_; refine xN ?_)); clear H; intro w H))
        exact ⟨(i, h), ⟨rfl, rfl, trivial⟩, ⟨⟨b1, by simp only []; omega, by simp only []; omega⟩, H⟩, by simp only []; omega⟩
      · (repeat first | refine go ?_ | ((try conv => whnf); (first | (refine St_gate ?_; refine xS ?_) | (refine StN_gate ?_; refine xN ?_)); clear H; intro w H))
        exact ⟨(h + 1, j), ⟨congrArg some (vint (by simp)), rfl, trivial⟩, ⟨⟨by simp only []; omega, by simp only []; omega, b3⟩, H⟩, by simp only []; omega⟩
    · (try conv => whnf)
      obtain ⟨e0, he0⟩ : ∃ e0, e0 = mid + m - i := ⟨_, rfl⟩
      refine Ar_is (e0 : Int) (sub_ar (by omega) (by omega)) ?_
      obtain ⟨zs, hzs⟩ : ∃ zs, zs = ys := ⟨_, rfl⟩
      rw [← hzs] at H
      have hp : zs.Perm ys := by rw [hzs]
      have hzl : zs.length = n := by rw [hzs]; exact hl
      clear hzs
      by_cases c1 : i < m <;> by_cases c2 : m < e0 <;> by_cases c3 : a < i <;> by_cases c4 : i < mid <;> by_cases c5 : e0 < c
      all_goals (first | (exfalso; omega) | (repeat first | refine go ?_ | ((try conv => whnf); (first | (refine St_gate ?_; refine xS ?_) | (refine StN_gate ?_; refine xN ?_)); clear H; intro w H)))
      all_goals (first | (refine Call_of (nRotate H hzl hn (by omega) (by omega) (by omega)) ?_; clear H; rintro _ w ⟨zs, hu, H⟩; replace hp := hu.trans hp; replace hzl := hp.length_eq.trans hl; (repeat first | refine go ?_ | ((try conv => whnf); (first | (refine St_gate ?_; refine xS ?_) | (refine StN_gate ?_; refine xN ?_)); clear H; intro w H))) | skip)
      all_goals (first | (refine Call_of (ih (mid - a) (by omega) H hzl hn (by omega) (by omega) (by omega) (Nat.le_refl _)) ?_; clear H; rintro _ w ⟨zs, hu, H⟩; replace hp := hu.trans hp; replace hzl := hp.length_eq.trans hl; (repeat first | refine go ?_ | ((try conv => whnf); (first | (refine St_gate ?_; refine xS ?_) | (refine StN_gate ?_; refine xN ?_)); clear H; intro w H))) | skip)
      all_goals (first | (refine Call_of (ih (c - mid) (by omega) H hzl hn (by omega) (by omega) (by omega) (Nat.le_refl _)) ?_; clear H; rintro _ w ⟨zs, hu, H⟩; replace hp := hu.trans hp; replace hzl := hp.length_eq.trans hl; (repeat first | refine go ?_ | ((try conv => whnf); (first | (refine St_gate ?_; refine xS ?_) | (refine StN_gate ?_; refine xN ?_)); clear H; intro w H))) | skip)
      all_goals exact Ret_in ⟨_, hp, H⟩
theorem nStable (H : Sep w0 w (lnR b n cap ys :: l)) (hl : ys.length = n) (hn : n ≤ 1000000000) :
    Does Tryz.prog 132 #[.slice (some ⟨b, 0, none⟩) n cap, .int .i64 (n : Int), .func (.func cf) #[] #[]] w fun v w' => ∃ zs : List Ln, zs.Perm ys ∧ Sep w0 w' (lnR b n cap zs :: l) := by
  refine Does_intro tok (Tryz.call132 _ _) Tryz.func132 rfl (by rfl) ?_
  (repeat first | refine go ?_ | ((try conv => whnf); (first | (refine St_gate ?_; refine xS ?_) | (refine StN_gate ?_; refine xN ?_)); clear H; intro w H))
  refine Loop_intro (fun q : Nat × List Ln => [(7, .int .i64 (q.1 : Int)), (8, .int .i64 ((q.1 : Int) + 20))]) (fun q w => (q.1 ≤ n ∧ q.2.Perm ys) ∧ Sep w0 w (lnR b n cap q.2 :: l)) (fun q => n - q.1) (0, ys) ⟨rfl, rfl, trivial⟩ ⟨⟨Nat.zero_le _, List.Perm.refl _⟩, H⟩ ?_
  clear H
  rintro ⟨a, zs⟩ w ⟨⟨ha, hp⟩, H⟩
  simp only [] at ha hp H ⊢
  have hzl := hp.length_eq.trans hl
  refine Br_dec (fun k1 => ?_) (fun k1 => ?_)
  · (repeat first | refine go ?_ | ((try conv => whnf); (first | (refine St_gate ?_; refine xS ?_) | (refine StN_gate ?_; refine xN ?_)); clear H; intro w H))
    refine Call_of (nInsertion hcf (c := a + 20) H hzl hn (by omega) ha) ?_
    clear H
    rintro _ w ⟨us, hu, H⟩
    (repeat first | refine go ?_ | ((try conv => whnf); (first | (refine St_gate ?_; refine xS ?_) | (refine StN_gate ?_; refine xN ?_)); clear H; intro w H))
    exact ⟨(a + 20, us), ⟨congrArg some (vint (by simp)), congrArg some (vint (by simp)), trivial⟩, ⟨⟨by simp only []; omega, hu.trans hp⟩, H⟩, by simp only []; omega⟩
  · (repeat first | refine go ?_ | ((try conv => whnf); (first | (refine St_gate ?_; refine xS ?_) | (refine StN_gate ?_; refine xN ?_)); clear H; intro w H))
    refine Call_of (nInsertion hcf (c := n) H hzl hn (Nat.le_refl _) ha) ?_
    clear H
    rintro _ w ⟨us, hu, H⟩
    (repeat first | refine go ?_ | ((try conv => whnf); (first | (refine St_gate ?_; refine xS ?_) | (refine StN_gate ?_; refine xN ?_)); clear H; intro w H))
    refine Loop_intro (fun q : Nat × List Ln => [(6, .int .i64 (q.1 : Int))]) (fun q w => ((20 ≤ q.1 ∧ q.1 ≤ 4000000000) ∧ q.2.Perm ys) ∧ Sep w0 w (lnR b n cap q.2 :: l)) (fun q => n - q.1) (20, us) ⟨rfl, trivial⟩ ⟨⟨⟨Nat.le_refl _, by show 20 ≤ 4000000000; decide⟩, hu.trans hp⟩, H⟩ ?_
    clear H hp hu hzl
    rintro ⟨bs, zs⟩ w ⟨⟨⟨hb, hb2⟩, hp⟩, H⟩
    simp only [] at hb hb2 hp H ⊢
    refine Br_dec (fun k2 => ?_) (fun k2 => ?_)
    · (repeat first | refine go ?_ | ((try conv => whnf); (first | (refine St_gate ?_; refine xS ?_) | (refine StN_gate ?_; refine xN ?_)); clear H; intro w H))
      refine Loop_intro (fun q : Nat × List Ln => [(7, .int .i64 (q.1 : Int)), (8, .int .i64 ((q.1 : Int) + 2 * bs))]) (fun q w => (q.1 ≤ n ∧ q.2.Perm ys) ∧ Sep w0 w (lnR b n cap q.2 :: l)) (fun q => n - q.1) (0, zs) ⟨rfl, congrArg some (vint (by simp)), trivial⟩ ⟨⟨Nat.zero_le _, hp⟩, H⟩ ?_
      clear H hp zs
      rintro ⟨a, zs⟩ w ⟨⟨ha, hp⟩, H⟩
      simp only [] at ha hp H ⊢
      have hzl := hp.length_eq.trans hl
      refine Br_dec (fun k3 => ?_) (fun k3 => ?_)
      · (repeat first | refine go ?_ | ((try conv => whnf); (first | (refine St_gate ?_; refine xS ?_) | (refine StN_gate ?_; refine xN ?_)); clear H; intro w H))
        refine Call_of (nSym hcf n (m := a + bs) (c := a + 2 * bs) H hzl hn (by omega) (by omega) (by omega) (by omega)) ?_
        clear H
        rintro _ w ⟨us, hu, H⟩
        (repeat first | refine go ?_ | ((try conv => whnf); (first | (refine St_gate ?_; refine xS ?_) | (refine StN_gate ?_; refine xN ?_)); clear H; intro w H))
        exact ⟨(a + 2 * bs, us), ⟨congrArg some (vint (by simp)), congrArg some (vint (by simp)), trivial⟩, ⟨⟨by simp only []; omega, hu.trans hp⟩, H⟩, by simp only []; omega⟩
      · (repeat first | refine go ?_ | ((try conv => whnf); (first | (refine St_gate ?_; refine xS ?_) | (refine StN_gate ?_; refine xN ?_)); clear H; intro w H))
        by_cases k4 : a + bs < n
        · (repeat first | refine go ?_ | ((try conv => whnf); (first | (refine St_gate ?_; refine xS ?_) | (refine StN_gate ?_; refine xN ?_)); clear H; intro w H))
          refine Call_of (nSym hcf n (m := a + bs) (c := n) H hzl hn (by omega) (by omega) (Nat.le_refl _) (by omega)) ?_
          clear H
          rintro _ w ⟨us, hu, H⟩
          (repeat first | refine go ?_ | ((try conv => whnf); (first | (refine St_gate ?_; refine xS ?_) | (refine StN_gate ?_; refine xN ?_)); clear H; intro w H))
          exact ⟨(bs * 2, us), ⟨congrArg some (vint (by simp)), trivial⟩, ⟨⟨⟨by simp only []; omega, by simp only []; omega⟩, hu.trans hp⟩, H⟩, by simp only []; omega⟩
        · (repeat first | refine go ?_ | ((try conv => whnf); (first | (refine St_gate ?_; refine xS ?_) | (refine StN_gate ?_; refine xN ?_)); clear H; intro w H))
          exact ⟨(bs * 2, zs), ⟨congrArg some (vint (by simp)), trivial⟩, ⟨⟨⟨by simp only []; omega, by simp only []; omega⟩, hp⟩, H⟩, by simp only []; omega⟩
    · (repeat first | refine go ?_ | ((try conv => whnf); (first | (refine St_gate ?_; refine xS ?_) | (refine StN_gate ?_; refine xN ?_)); clear H; intro w H))
      exact Ret_in ⟨zs, hp, H⟩
theorem nSortStable (H : Sep w0 w (lnR b n cap ys :: l)) (hl : ys.length = n) (hn : n ≤ 1000000000) :
    Does Tryz.prog 105 #[.slice (some ⟨b, 0, none⟩) n cap, .func (.func cf) #[] #[]] w fun v w' => v = .tuple #[] ∧ ∃ zs : List Ln, zs.Perm ys ∧ Sep w0 w' (lnR b n cap zs :: l) := by
  refine Does_intro tok (Tryz.call105 _ _) Tryz.func105 rfl (by rfl) ?_
  (repeat first | refine go ?_ | ((try conv => whnf); (first | (refine St_gate ?_; refine xS ?_) | (refine StN_gate ?_; refine xN ?_)); clear H; intro w H))
  refine Call_of (nStable hcf H hl hn) ?_
  clear H
  rintro _ w ⟨us, hu, H⟩
  (repeat first | refine go ?_ | ((try conv => whnf); (first | (refine St_gate ?_; refine xS ?_) | (refine StN_gate ?_; refine xN ?_)); clear H; intro w H))
  exact Ret_in ⟨rfl, us, hu, H⟩
end
end Go.Proofs.YtcibiidebknkgaaGreat
/-! slices.DeleteFunc at what was learnt, of a function that does something; how what was learnt is compared. -/
set_option linter.unusedVariables false
set_option linter.unusedSimpArgs false
namespace Go.Proofs.YtcibiidebknkgaaGreat
open Go Go.Vc
set_option maxHeartbeats 4000000
set_option maxRecDepth 100000
section
variable {w0 w : World} {l : List Res} {b n cap : Nat} {ys xs : List Ln}
theorem nOr (H : Sep w0 w l) {a : Option Addr} {c : Nat} {p q : Int} (hs : Src w a 2 1 [.int .i64 p, .int .i64 q]) : Does Tryz.prog 107 #[.slice a 2 c] w fun v w' => (∃ z : Int, v = .int .i64 z) ∧ w = w' := by
  refine Does_intro tok (Tryz.call107 _ _) Tryz.func107 rfl (by rfl) ?_
  obtain ⟨yb, yo, rfl⟩ := hs.addr (by simp)
  (repeat first | refine go ?_ | ((try conv => whnf); (first | (refine St_gate ?_; refine xS ?_) | (refine StN_gate ?_; refine xN ?_)); clear H; intro w H))
  refine Loop_intro (fun i : Nat => [(8, .int .i64 (i : Int))]) (fun i w' => w = w' ∧ i ≤ 2) (fun i => 2 - i) 0 ⟨rfl, trivial⟩ ⟨rfl, by omega⟩ ?_
  rintro i _ ⟨rfl, hi⟩
  refine Br_dec (fun k1 => ?_) (fun k1 => ?_)
  · obtain ⟨z, hz⟩ : ∃ z, [Value.int .i64 p, Value.int .i64 q][i]? = some (Value.int .i64 z) := by
      rcases (by omega : i = 0 ∨ i = 1) with rfl | rfl
      · exact ⟨p, rfl⟩
      · exact ⟨q, rfl⟩
    (repeat first | refine go ?_ | ((try conv => whnf); (first | (refine St_gate ?_; refine xS ?_) | (refine StN_gate ?_; refine xN ?_)); clear H; intro w H))
    refine Ix_in i rfl (by omega) ?_
    refine Ld_src (j := i) hs (v := .int .i64 z) hz ?_
    (repeat first | refine go ?_ | ((try conv => whnf); (first | (refine St_gate ?_; refine xS ?_) | (refine StN_gate ?_; refine xN ?_)); clear H; intro w H))
    refine Br_ne (fun k2 => ?_) (fun k2 => ?_)
    · (repeat first | refine go ?_ | ((try conv => whnf); (first | (refine St_gate ?_; refine xS ?_) | (refine StN_gate ?_; refine xN ?_)); clear H; intro w H))
      exact Ret_in ⟨⟨_, rfl⟩, rfl⟩
    · (repeat first | refine go ?_ | ((try conv => whnf); (first | (refine St_gate ?_; refine xS ?_) | (refine StN_gate ?_; refine xN ?_)); clear H; intro w H))
      exact ⟨i + 1, ⟨congrArg some (vint (by omega)), trivial⟩, ⟨rfl, by omega⟩, by omega⟩
  · (repeat first | refine go ?_ | ((try conv => whnf); (first | (refine St_gate ?_; refine xS ?_) | (refine StN_gate ?_; refine xN ?_)); clear H; intro w H))
    exact Ret_in ⟨⟨_, rfl⟩, rfl⟩
theorem nCmp (H : Sep w0 w l) (x y : Ln) : Does Tryz.prog 106 #[.agg (ln2 x).toArray, .agg (ln2 y).toArray] w fun v w' => (∃ z : Int, v = .int .i64 z) ∧ Sep w0 w' l := by
  refine Does_intro tok (Tryz.call106 _ _) Tryz.func106 rfl (by rfl) ?_
  (repeat first | refine go ?_ | ((try conv => whnf); (first | (refine St_gate ?_; refine xS ?_) | (refine StN_gate ?_; refine xN ?_)); clear H; intro w H))
  (refine Nw_sep H ?_; clear H; intro xb w H; (try simp only [Value.cells, List.toList_toArray, List.append_nil, List.cons_append, List.nil_append] at H))
  (repeat first | refine go ?_ | ((try conv => whnf); (first | (refine St_gate ?_; refine xS ?_) | (refine StN_gate ?_; refine xN ?_)); clear H; intro w H))
  (refine Nw_sep H ?_; clear H; intro yb w H; (try simp only [Value.cells, List.toList_toArray, List.append_nil, List.cons_append, List.nil_append] at H))
  (repeat first | refine go ?_ | ((try conv => whnf); (first | (refine St_gate ?_; refine xS ?_) | (refine StN_gate ?_; refine xN ?_)); clear H; intro w H))
  refine Draw_intro mixed [0, 1, 2, 3, 5, 6, 7, 8, 4, 9, 10, 11, 12] (by decide +kernel) (fun w _ fd => ?_); replace H := H.fr fd; clear fd
  (repeat first | refine go ?_ | ((try conv => whnf); (first | (refine St_gate ?_; refine xS ?_) | (refine StN_gate ?_; refine xN ?_)); clear H; intro w H))
  refine Call_of (fCompare w) ?_
  rintro _ _ ⟨rfl, rfl⟩
  (try conv => whnf)
  (repeat (refine Kept_gate ?_; refine xK ?_))
  (repeat first | refine go ?_ | ((try conv => whnf); (first | (refine St_gate ?_; refine xS ?_) | (refine StN_gate ?_; refine xN ?_)); clear H; intro w H))
  refine Call_of (fCompare w) ?_
  rintro _ _ ⟨rfl, rfl⟩
  (try conv => whnf)
  (repeat (refine Kept_gate ?_; refine xK ?_))
  (repeat first | refine go ?_ | ((try conv => whnf); (first | (refine St_gate ?_; refine xS ?_) | (refine StN_gate ?_; refine xN ?_)); clear H; intro w H))
  (refine Nw_sep H ?_; clear H; intro zb w H; (try simp only [Value.cells, List.toList_toArray, List.append_nil, List.cons_append, List.nil_append] at H))
  (try conv => whnf)
  (repeat (refine Kept_gate ?_; refine xK ?_))
  (repeat first | refine go ?_ | ((try conv => whnf); (first | (refine St_gate ?_; refine xS ?_) | (refine StN_gate ?_; refine xN ?_)); clear H; intro w H))
  refine Call_of (nOr H (H.srcCM (b := zb) 2 1 (.head _) rfl (by decide))) ?_
  rintro _ _ ⟨⟨z, rfl⟩, rfl⟩
  (try conv => whnf)
  (repeat (refine Kept_gate ?_; refine xK ?_))
  (repeat first | refine go ?_ | ((try conv => whnf); (first | (refine St_gate ?_; refine xS ?_) | (refine StN_gate ?_; refine xN ?_)); clear H; intro w H))
  exact Ret_in ⟨⟨z, rfl⟩, H.tail.tail.tail⟩

/-! The end of a row is cleared. -/
theorem zc_len (zs : Array Value) (n : Nat) : (Builtin.zeroCells zs n).toList.length = n * zs.size := by simp [Builtin.zeroCells]
theorem zc_one {zs : Array Value} {n : Nat} (h0 : 0 < zs.size) (h : ∀ v ∈ zs.toList, oneCell v = true) : ∀ v ∈ (Builtin.zeroCells zs n).toList, oneCell v = true := by
  intro v hv
  simp only [Builtin.zeroCells, Array.toList_map, List.mem_map] at hv
  obtain ⟨i, _, rfl⟩ := hv
  have hlt : i % zs.size < zs.size := Nat.mod_lt _ h0
  rw [getElem!_pos zs _ hlt]
  exact h _ (by rw [← Array.getElem_toList]; exact List.getElem_mem _)
theorem DoN_clear2 {k c t ty : Nat} {z : Value} (H : Sep w0 w l) (hm : lnR b n cap ys ∈ l) (hk : k < n) (hd : Tab.d tab t = some (.slice 124)) (hz : Tab.z tab 124 = some z) (hzs : z.cells.size = 2) (h1 : ∀ v ∈ z.cells.toList, oneCell v = true)
    {cb : Array Bool} {K : Value → World → Prop} (hK : ∀ w', SepU w0 w' l (lnR b n cap ys) (lnR b k cap (ys.take k)) → K (.tuple #[]) w') :
    DoN Tryz.prog (builtin .clear #[t] ty cb #[.slice (some ⟨b, 0 + k * 2, none⟩) (n - k) c]) w K := by
  obtain ⟨S1, g1, g2, g3⟩ := H.at hm
  obtain ⟨o1, o2, o3, o4⟩ := g1.own
  rcases o4 with ⟨h, _⟩ | ⟨b', rest, h, hat, hl⟩
  · cases h
  · cases h
    have hll := ln_len ys
    obtain ⟨vs, hvs⟩ : ∃ vs, vs = (Builtin.zeroCells z.cells (n - k)).toList := ⟨_, rfl⟩
    have hvl : vs.length = (n - k) * 2 := by rw [hvs, zc_len, hzs]
    have hvo : ∀ v ∈ vs, oneCell v = true := by rw [hvs]; exact zc_one (by omega) h1
    have hlen : (ys.flatMap ln2 ++ rest).length = (ys.flatMap ln2).length + rest.length := List.length_append ..
    have hst := run_storeCells_cells (P := Tryz.prog) b (0 + k * 2) vs 0 w
      (fun j hj => by rw [Nat.add_zero, hat.cell, List.getElem?_eq_getElem (by omega)]; rfl) (fun j _ => hat.frozen _) (fun v hv => by rw [← oneCell_eq]; exact hvo v hv)
    rw [Nat.add_zero] at hst
    obtain ⟨mm, hmm⟩ : ∃ mm, n - k = mm + 1 := ⟨n - k - 1, by omega⟩
    have hrun : (Builtin.clear_ #[t] ty #[.slice (some ⟨b, 0 + k * 2, none⟩) (n - k) c]).run Tryz.prog w = .ok (.tuple #[]) (w.setCells b (0 + k * 2) vs) := by
      rw [hmm] at hvs ⊢
      rw [hvs] at hst ⊢
      rw [Nat.zero_add] at hst ⊢
      simp [Builtin.clear_, run_underlying (tok.d _ (find_mem hd)), tok.z _ (find_mem hz) , hst]
    rw [setCells_kit (o := 0) (k := k * 2)] at hrun
    obtain ⟨a1, a2, a3⟩ := setCells_at (vs := vs) (o := 0) (k := k * 2) hat (by omega)
    refine ⟨.inl ⟨.tuple #[], _, ?_, hK _ (g3 _ _ S1 (a2.mono fun x _ hx => g1.b_in x (by rw [hx]; rfl)) ⟨g1.b_in, ?_⟩ fun x hx => .inl hx)⟩⟩
    · show (do pure (Next.value (← Builtin.clear_ #[t] ty #[.slice (some ⟨b, 0 + k * 2, none⟩) (n - k) c])) : Sem Next).run Tryz.prog w = _
      rw [Sem.run_bind, hrun, Result.andThen_ok, Sem.run_pure]
    · have htl : (ys.take k).flatMap ln2 = (ys.flatMap ln2).take (k * 2) := by
        apply List.ext_getElem?
        intro i
        by_cases hi : i < k * 2
        · have e : i = i / 2 * 2 + i % 2 := by omega
          have hyl : i / 2 < ys.length := by omega
          rw [List.getElem?_take, if_pos hi, e, rowGet ln2_len (E := ys) (List.getElem?_eq_getElem hyl) (by omega)]
          rw [rowGet ln2_len (E := ys.take k) (i := i / 2) (x := ys[i / 2]) (by rw [List.getElem?_take, if_pos (by omega)]; exact List.getElem?_eq_getElem hyl) (by omega)]
        · rw [List.getElem?_eq_none (by rw [ln_len, List.length_take]; omega), List.getElem?_eq_none (by rw [List.length_take]; omega)]
      refine ⟨by rw [ln_len, List.length_take]; omega, by omega, o3, .inr ⟨b, vs ++ (ys.flatMap ln2 ++ rest).drop (0 + k * 2 + vs.length), rfl, ?_, ?_⟩⟩
      · have e : (ys.flatMap ln2 ++ rest).take (0 + k * 2) = (ys.take k).flatMap ln2 := by rw [Nat.zero_add, List.take_append_of_le_length (by omega), htl]
        rw [e, List.append_assoc] at a1
        exact a1
      · rw [List.length_append, ln_len, List.length_take, List.length_append, List.length_drop]
        omega
end
section
variable {w0 w : World} {b n cap : Nat} {xs : List Ln} {γ : Type} {Rr : γ → List Res} {Iv : γ → List Ln → List Ln → Prop} {g0 : γ} {k : FuncId} {c1 c2 : Value}
theorem nIndex {ex : List Res} (H : Sep w0 w (lnR b n cap xs :: (Rr g0 ++ ex))) (hl : xs.length = n) (h0 : Iv g0 [] xs) (hm : n ≤ 1000000000)
    (hf : ∀ {w' : World} {ex : List Res} {us : List Ln} {g : γ} {K r : List Ln} {x : Ln}, Iv g K (x :: r) → Sep w0 w' (lnR b n cap us :: (Rr g ++ ex)) → Does Tryz.prog k #[.agg (ln2 x).toArray, c1, c2] w' fun v w'' => ∃ (q : Bool) (g' : γ), v = .bool q ∧ Sep w0 w'' (lnR b n cap us :: (Rr g' ++ ex)) ∧ Iv g' (if q then K else K ++ [x]) r) :
    Does Tryz.prog 133 #[.slice (some ⟨b, 0, none⟩) n cap, .func (.func k) #[] #[c1, c2]] w fun v w' =>
      ∃ g', Sep w0 w' (lnR b n cap xs :: (Rr g' ++ ex)) ∧ ((v = .int .i64 (-1) ∧ Iv g' xs []) ∨ ∃ i, i < xs.length ∧ v = .int .i64 (i : Int) ∧ Iv g' (xs.take i) (xs.drop (i + 1))) := by
  refine Does_intro tok (Tryz.call133 _ _) Tryz.func133 rfl (by rfl) ?_
  subst hl
  (repeat first | refine go ?_ | ((try conv => whnf); (first | (refine St_gate ?_; refine xS ?_) | (refine StN_gate ?_; refine xN ?_)); clear H; intro w H))
  refine Loop_intro (fun q : Nat × γ => [(8, .int .i64 (q.1 : Int))]) (fun q w' => q.1 ≤ xs.length ∧ Iv q.2 (xs.take q.1) (xs.drop q.1) ∧ Sep w0 w' (lnR b xs.length cap xs :: (Rr q.2 ++ ex))) (fun q => xs.length - q.1) (0, g0) ⟨rfl, trivial⟩ ⟨Nat.zero_le _, h0, H⟩ ?_
  clear H
  rintro ⟨i, g⟩ w ⟨hi, hI, H⟩
  simp only [] at hi hI H ⊢
  refine Br_dec (fun k1 => ?_) (fun k1 => ?_)
  · have hlt : i < xs.length := by omega
    (repeat first | refine go ?_ | ((try conv => whnf); (first | (refine St_gate ?_; refine xS ?_) | (refine StN_gate ?_; refine xN ?_)); clear H; intro w H))
    refine Ix_in i rfl hlt ?_
    (try conv => whnf)
    refine LdN_mO (j := i * 2) H (.head _) (vs := ln2 (xs[i]'hlt)) (ln_row hlt) rfl ?_
    (repeat first | refine go ?_ | ((try conv => whnf); (first | (refine St_gate ?_; refine xS ?_) | (refine StN_gate ?_; refine xN ?_)); clear H; intro w H))
    have hdr : xs.drop i = xs[i] :: xs.drop (i + 1) := List.drop_eq_getElem_cons hlt
    rw [hdr] at hI
    refine Call_of (hf hI H) ?_
    clear H
    rintro _ w ⟨q, g', rfl, H, hI2⟩
    cases q with
    | true =>
      (repeat first | refine go ?_ | ((try conv => whnf); (first | (refine St_gate ?_; refine xS ?_) | (refine StN_gate ?_; refine xN ?_)); clear H; intro w H))
      exact Ret_in ⟨g', H, .inr ⟨i, hlt, rfl, hI2⟩⟩
    | false =>
      (repeat first | refine go ?_ | ((try conv => whnf); (first | (refine St_gate ?_; refine xS ?_) | (refine StN_gate ?_; refine xN ?_)); clear H; intro w H))
      refine ⟨(i + 1, g'), ⟨congrArg some (vint (by simp)), trivial⟩, ⟨by omega, ?_, H⟩, by simp; omega⟩
      simp only []
      rw [List.take_add_one, List.getElem?_eq_getElem hlt]
      exact hI2
  · obtain rfl : i = xs.length := by omega
    rw [List.take_length, List.drop_length] at hI
    (repeat first | refine go ?_ | ((try conv => whnf); (first | (refine St_gate ?_; refine xS ?_) | (refine StN_gate ?_; refine xN ?_)); clear H; intro w H))
    exact Ret_in ⟨g, H, .inl ⟨rfl, hI⟩⟩
theorem sliceAddr2 {b k cap : Nat} (h : cap ≠ k) : (if cap = k then some (⟨b, 0, none⟩ : Addr) else (some (⟨b, 0, none⟩ : Addr)).map (·.add (k * 2))) = some ⟨b, 0 + k * 2, none⟩ := by
  rw [if_neg h, Option.map_some, add_mk]
theorem nDelete {ex : List Res} (H : Sep w0 w (lnR b n cap xs :: (Rr g0 ++ ex))) (hl : xs.length = n) (h0 : Iv g0 [] xs) (hm : n ≤ 1000000000)
    (hf : ∀ {w' : World} {ex : List Res} {us : List Ln} {g : γ} {K r : List Ln} {x : Ln}, Iv g K (x :: r) → Sep w0 w' (lnR b n cap us :: (Rr g ++ ex)) → Does Tryz.prog k #[.agg (ln2 x).toArray, c1, c2] w' fun v w'' => ∃ (q : Bool) (g' : γ), v = .bool q ∧ Sep w0 w'' (lnR b n cap us :: (Rr g' ++ ex)) ∧ Iv g' (if q then K else K ++ [x]) r) :
    Does Tryz.prog 108 #[.slice (some ⟨b, 0, none⟩) n cap, .func (.func k) #[] #[c1, c2]] w fun v w' =>
      ∃ g' zs, v = .slice (some ⟨b, 0, none⟩) (zs : List Ln).length cap ∧ Sep w0 w' (lnR b zs.length cap zs :: (Rr g' ++ ex)) ∧ Iv g' zs [] := by
  have hcap := (H.ownM (.head _)).2.1
  subst hl
  refine Does_intro tok (Tryz.call108 _ _) Tryz.func108 rfl (by rfl) ?_
  (repeat first | refine go ?_ | ((try conv => whnf); (first | (refine St_gate ?_; refine xS ?_) | (refine StN_gate ?_; refine xN ?_)); clear H; intro w H))
  refine Call_of (nIndex H rfl h0 hm hf) ?_
  clear H h0 g0
  rintro _ w ⟨g0, H, ⟨rfl, hI⟩ | ⟨i0, hi0, rfl, hI⟩⟩
  · (repeat first | refine go ?_ | ((try conv => whnf); (first | (refine St_gate ?_; refine xS ?_) | (refine StN_gate ?_; refine xN ?_)); clear H; intro w H))
    exact Ret_in ⟨g0, xs, rfl, H, hI⟩
  · (repeat first | refine go ?_ | ((try conv => whnf); (first | (refine St_gate ?_; refine xS ?_) | (refine StN_gate ?_; refine xN ?_)); clear H; intro w H))
    refine Loop_intro (fun s : Nat × List Ln × List Ln × γ => [(6, .int .i64 (s.1 : Int)), (5, .int .i64 (s.2.1.length : Int))])
      (fun s w => s.1 ≤ xs.length ∧ s.2.2.1.length = xs.length ∧ s.2.2.1.take s.2.1.length = s.2.1 ∧ s.2.2.1.drop s.1 = xs.drop s.1 ∧ s.2.1.length < s.1 ∧ Iv s.2.2.2 s.2.1 (xs.drop s.1) ∧
        Sep w0 w (lnR b xs.length cap s.2.2.1 :: (Rr s.2.2.2 ++ ex))) (fun s => xs.length - s.1) (i0 + 1, xs.take i0, xs, g0) ⟨?_, ?_, trivial⟩ ⟨by simp only []; omega, rfl, ?_, rfl, ?_, hI, H⟩ ?_
    · exact congrArg some (vint (by simp))
    · simp only []
      rw [List.length_take]
      exact congrArg some (vint (by omega))
    · simp only []
      rw [List.length_take, Nat.min_eq_left (by omega)]
    · simp only []
      rw [List.length_take]; omega
    clear H hI
    rintro ⟨j, zs, us, g⟩ w ⟨hj, hyl, htk, hdr, hlt, hI, H⟩
    simp only [] at hj hyl htk hdr hlt hI H ⊢
    refine Br_dec (fun k1 => ?_) (fun k1 => ?_)
    · have hjl : j < xs.length := by omega
      have hju : j < us.length := by omega
      have hyj : us[j]'hju = xs[j] := by
        have : (us.drop j)[0]? = (xs.drop j)[0]? := by rw [hdr]
        rw [List.getElem?_drop, List.getElem?_drop, Nat.add_zero, List.getElem?_eq_getElem hju, List.getElem?_eq_getElem hjl] at this
        exact Option.some.inj this
      (repeat first | refine go ?_ | ((try conv => whnf); (first | (refine St_gate ?_; refine xS ?_) | (refine StN_gate ?_; refine xN ?_)); clear H; intro w H))
      refine Ix_in j rfl hjl ?_
      (try conv => whnf)
      obtain ⟨x, hx⟩ : ∃ x, x = xs[j] := ⟨_, rfl⟩
      refine LdN_mO (j := j * 2) H (.head _) (vs := [idV x.1, .int .i64 x.2]) (by rw [hx, ← hyj]; exact ln_row hju) rfl ?_
      (repeat first | refine go ?_ | ((try conv => whnf); (first | (refine St_gate ?_; refine xS ?_) | (refine StN_gate ?_; refine xN ?_)); clear H; intro w H))
      (refine Nw_sep H ?_; clear H; intro vb w H; (try simp only [Value.cells, List.toList_toArray, List.append_nil, List.cons_append, List.nil_append] at H))
      (repeat first | refine go ?_ | ((try conv => whnf); (first | (refine St_gate ?_; refine xS ?_) | (refine StN_gate ?_; refine xN ?_)); clear H; intro w H))
      have hdx : xs.drop j = x :: xs.drop (j + 1) := by rw [hx]; exact List.drop_eq_getElem_cons hjl
      rw [hdx] at hI
      replace H := H.perm ((List.Perm.swap _ _ _).trans (List.Perm.cons _ (List.perm_middle (a := cellsR vb 124 [idV x.1, .int .i64 x.2]) (l₁ := Rr g) (l₂ := ex)).symm))
      refine Call_of (hf (ex := cellsR vb 124 [idV x.1, .int .i64 x.2] :: ex) hI H) ?_
      clear H
      rintro _ w ⟨bb, g', rfl, H, hI2⟩
      replace H := H.perm ((List.Perm.cons _ (List.perm_middle (a := cellsR vb 124 [idV x.1, .int .i64 x.2]) (l₁ := Rr g') (l₂ := ex))).trans (List.Perm.swap _ _ _))
      have hdr2 : us.drop (j + 1) = xs.drop (j + 1) := by
        have := congrArg (List.drop 1) hdr
        rw [List.drop_drop, List.drop_drop] at this
        exact this
      cases bb with
      | true =>
        (repeat first | refine go ?_ | ((try conv => whnf); (first | (refine St_gate ?_; refine xS ?_) | (refine StN_gate ?_; refine xN ?_)); clear H; intro w H))
        refine ⟨(j + 1, zs, us, g'), ⟨congrArg some (vint (by simp)), congrArg some (vint rfl), trivial⟩, ⟨by omega, hyl, htk, hdr2, by simp only []; omega, hI2, H.tail⟩, by simp; omega⟩
      | false =>
        have hzu : zs.length < us.length := by omega
        (repeat first | refine go ?_ | ((try conv => whnf); (first | (refine St_gate ?_; refine xS ?_) | (refine StN_gate ?_; refine xN ?_)); clear H; intro w H))
        refine Ix_in zs.length rfl (by omega) ?_
        (try conv => whnf)
        refine StN_uO H (.tail .head) (vs := ln2 x) ln_one (by rw [ln_len]; show _ + 2 ≤ _; omega) (ln_set hzu) ?_
        clear H; intro w H
        (repeat first | refine go ?_ | ((try conv => whnf); (first | (refine St_gate ?_; refine xS ?_) | (refine StN_gate ?_; refine xN ?_)); clear H; intro w H))
        refine ⟨(j + 1, zs ++ [x], us.set zs.length x, g'), ⟨congrArg some (vint (by simp)), congrArg some (vint (by simp)), trivial⟩, ⟨by omega, by simpa using hyl, ?_, ?_, by simp; omega, hI2, H.tail⟩, by simp; omega⟩
        · simp only []
          rw [List.length_append, List.length_singleton, List.take_add_one, List.getElem?_set_self (by omega), List.take_set_of_le (by omega), htk]
          rfl
        · simp only []
          rw [List.drop_set_of_lt (by omega)]
          exact hdr2
    · obtain rfl : j = xs.length := by omega
      rw [List.drop_length] at hI
      (repeat first | refine go ?_ | ((try conv => whnf); (first | (refine St_gate ?_; refine xS ?_) | (refine StN_gate ?_; refine xN ?_)); clear H; intro w H))
      refine Do_slice tok rfl rfl zs.length xs.length (.inr ⟨_, rfl⟩) (.inl ⟨rfl, rfl⟩) (by omega) (by omega) ?_
      rw [sliceAddr2 (by omega)]
      (repeat first | refine go ?_ | ((try conv => whnf); (first | (refine St_gate ?_; refine xS ?_) | (refine StN_gate ?_; refine xN ?_)); clear H; intro w H))
      refine DoN_clear2 H (.head _) hlt rfl rfl rfl (by decide) ?_
      clear H
      intro w H
      replace H := H _ .head
      rw [htk] at H
      (repeat first | refine go ?_ | ((try conv => whnf); (first | (refine St_gate ?_; refine xS ?_) | (refine StN_gate ?_; refine xN ?_)); clear H; intro w H))
      refine Do_slice tok rfl rfl 0 zs.length (.inl ⟨rfl, rfl⟩) (.inr ⟨_, rfl⟩) (by omega) (by omega) ?_
      rw [add_zero_map]
      (repeat first | refine go ?_ | ((try conv => whnf); (first | (refine St_gate ?_; refine xS ?_) | (refine StN_gate ?_; refine xN ?_)); clear H; intro w H))
      exact Ret_in ⟨g, zs, rfl, H, hI⟩
end
end Go.Proofs.YtcibiidebknkgaaGreat
/-! A solver goes back. -/
set_option linter.unusedVariables false
set_option linter.unusedSimpArgs false
namespace Go.Proofs.YtcibiidebknkgaaGreat
open Go Go.Vc Go.Watch Go.Lit
open Go.Trail (Ent value find upto okLit litsV)
set_option maxHeartbeats 8000000
set_option maxRecDepth 100000
section
variable {w0 w : World} {l : List Res} {b : Nat} {x : Sol} {n k m : Nat} {L : List (List Int)} {cs : List Int} {ca : Option Addr} {cc eb : Nat}
/-- How far a solver has gone back: what no longer has a value waits. -/
structure Bk (x : Sol) (n i : Nat) (K : List Entry) (ph : List Bool) : Prop where
  kl : K.length = n + 1
  pl : ph.length = n + 1
  more : ∀ v, wts x.K v = true → wts K v = true
  done : ∀ (j : Nat) e, x.s.E[j]? = some e → i ≤ j → wts K (Trail.var e.lit) = true
theorem Bk.start (h : x.Ok n L k m) : Bk x n x.s.E.length x.K x.ph := ⟨h.kl, h.pl, fun _ h => h, fun j e he hj => by rw [List.getElem?_eq_none hj] at he; cases he⟩
theorem Bk.next {i : Nat} {K : List Entry} {ph : List Bool} {e : Ent} (h : Bk x n (i + 1) K ph) (he : x.s.E[i]? = some e) (hv : Trail.var e.lit < n + 1) (q : Bool) : Bk x n i (pushE K (Trail.var e.lit)) (ph.set (Trail.var e.lit) q) := by
  have hw : ∀ u, wts (pushE K (Trail.var e.lit)) u = if u = Trail.var e.lit then true else wts K u := fun u => wts_set (by rw [h.kl]; exact hv)
  refine ⟨by unfold pushE; rw [List.length_set]; exact h.kl, by rw [List.length_set]; exact h.pl, fun v hv => ?_, fun j g hg hj => ?_⟩
  · rw [hw]; split
    · rfl
    · exact h.more v hv
  · rw [hw]
    split
    · rfl
    · rename_i hne
      rcases Nat.lt_or_ge i j with h1 | h1
      · exact h.done j g hg h1
      · obtain rfl : j = i := by omega
        rw [he] at hg; cases hg
        exact (hne rfl).elim
def backS (x : Sol) (j : Nat) (K : List Entry) (ph : List Bool) : Sol := { x with s := Watch.back x.s j, K := K, ph := ph }
theorem Bk.ok {K : List Entry} {ph : List Bool} (h : x.Ok n L k m) {j : Nat} (hj : j ≤ x.s.D) (hk : K.length = n + 1) (hp : ph.length = n + 1) (hm : ∀ v, wts x.K v = true → wts K v = true) (hd : ∀ e ∈ x.s.E, j < e.lev → wts K (Trail.var e.lit) = true) : (backS x j K ph).Ok n L k m := by
  refine { h with sv := h.sv.back hj, kl := hk, pl := hp, wt := fun v h1 h2 h3 => ?_ }
  have h3' : wts K v = false := h3
  have h4 : wts x.K v = false := by
    cases hw : wts x.K v with
    | false => rfl
    | true => rw [hm v hw] at h3'; cases h3'
  have h5 := h.wt v h1 h2 h4
  intro hf
  cases he : find x.s.E (v : Int) with
  | none => exact h5 he
  | some e =>
    obtain ⟨e1, e2, _⟩ := Trail.find_some he
    have hev : Trail.var e.lit = v := by omega
    rcases Nat.lt_or_ge j e.lev with h6 | h6
    · have := hd e e1 h6
      rw [hev, h3'] at this
      cases this
    · have hf' : find (upto x.s.E j) (v : Int) = none := hf
      rw [Trail.find_none (by omega)] at hf'
      exact hf' e (List.mem_filter.2 ⟨e1, by simpa using h6⟩) e2
theorem Bk.all {i : Nat} {K : List Entry} {ph : List Bool} (h : x.Ok n L k m) (hb : Bk x n i K ph) {j : Nat} (hi : ∀ (t : Nat) e, x.s.E[t]? = some e → t < i → e.lev ≤ j) : ∀ e ∈ x.s.E, j < e.lev → wts K (Trail.var e.lit) = true := by
  intro e he hl
  obtain ⟨t, ht⟩ := List.getElem?_of_mem he
  rcases Nat.lt_or_ge t i with h1 | h1
  · have := hi t e ht h1; omega
  · exact hb.done t e ht h1
theorem sBack (H : Sep w0 w (solR b x :: l)) (h : x.Ok n L k m) {j : Nat} (hj : j < x.s.D) (hm : m ≤ 800000000000) : Does Tryz.prog 25 #[.pointer (some ⟨b, 0, none⟩), .int .i64 (j : Int)] w fun v w' => ∃ K ph, (backS x j K ph).Ok n L k m ∧ Sep w0 w' (solR b (backS x j K ph) :: l) := by
  have hg := h.sv.good
  have hdl := hg.deepLe
  have hn := h.few
  have hsn := h.sv.n
  have hyo := hg.yo
  have hfew := h.sv.few
  have hfC := h.sv.fewC
  have hkk := h.kk
  refine DoesM_intro tok (Tryz.call25 _ _) Tryz.func25 rfl (by rfl) ?_
  (repeat first | refine go ?_ | ((try conv => whnf); (first | (refine St_gate ?_; refine xS ?_) | (refine StN_gate ?_; refine xN ?_)); clear H; intro w H))
  (refine Nw_sep H ?_; clear H; intro sb w H; (try simp only [Value.cells, List.toList_toArray, List.append_nil, List.cons_append, List.nil_append] at H))
  (repeat first | refine go ?_ | ((try conv => whnf); (first | (refine St_gate ?_; refine xS ?_) | (refine StN_gate ?_; refine xN ?_)); clear H; intro w H))
  (refine Nw_sep H ?_; clear H; intro vb w H; (try simp only [Value.cells, List.toList_toArray, List.append_nil, List.cons_append, List.nil_append] at H))
  (repeat first | refine go ?_ | ((try conv => whnf); (first | (refine St_gate ?_; refine xS ?_) | (refine StN_gate ?_; refine xN ?_)); clear H; intro w H))
  refine Draw_intro mixed [0, 1, 2, 3, 4, 5, 6, 7, 8, 9] (by decide +kernel) (fun w _ fd => ?_); replace H := H.fr fd; clear fd
  replace H := H.tp 2
  obtain ⟨r, H⟩ := solOpen H
  (repeat first | refine go ?_ | ((try conv => whnf); (first | (refine St_gate ?_; refine xS ?_) | (refine StN_gate ?_; refine xN ?_)); clear H; intro w H))
  replace H := H.tp 1
  obtain ⟨q, hq, H⟩ := engOpen H
  (repeat first | refine go ?_ | ((try conv => whnf); (first | (refine St_gate ?_; refine xS ?_) | (refine StN_gate ?_; refine xN ?_)); clear H; intro w H))
  refine Call_of (sTrailDepth H mm) ?_
  rintro _ _ ⟨rfl, rfl⟩
  (try conv => whnf)
  (repeat (refine Kept_gate ?_; refine xK ?_))
  replace H := engClose hq H
  (repeat first | refine go ?_ | ((try conv => whnf); (first | (refine St_gate ?_; refine xS ?_) | (refine StN_gate ?_; refine xN ?_)); clear H; intro w H))
  refine Call_of (eTrue2 H (by omega)) ?_
  clear H
  rintro _ w ⟨ta, tc, rfl, H⟩
  (repeat first | refine go ?_ | ((try conv => whnf); (first | (refine St_gate ?_; refine xS ?_) | (refine StN_gate ?_; refine xN ?_)); clear H; intro w H))
  refine Call_of (lBackward H) ?_
  clear H
  rintro _ w ⟨qb, rfl, H⟩
  have hll := litL_len x.s
  generalize hnn : (litL x.s).length = nn at H ⊢
  (repeat first | refine go ?_ | ((try conv => whnf); (first | (refine St_gate ?_; refine xS ?_) | (refine StN_gate ?_; refine xN ?_)); clear H; intro w H))
  refine Range_intro (backL (a := ta) (n := nn) (c := tc) (xs := litL x.s) (sb := qb) hnn (by omega) (fun w h => h)) rfl (fun k _ => rfl) (by decide) ?_
  intro rl D rec hD2 hrl hrec
  have hrec' : ∀ s p, noCells (rec s p) = true := fun s p => noCells_of (hrec s p)
  have hY : ∀ p ∈ x.s.Y, p.1 ≤ 1048576 ∧ p.2 ≤ 1000000 := by
    intro p hp
    obtain ⟨h1, c, h2, _⟩ := hyo p hp
    have h3 := (List.getElem?_eq_some_iff.1 h2).1
    omega
  have hlev : ∀ (t u : Nat) e g, x.s.E[t]? = some e → x.s.E[u]? = some g → t ≤ u → e.lev ≤ g.lev := by
    intro t u e g he hg' htu
    rcases Nat.eq_or_lt_of_le htu with rfl | hlt
    · rw [he] at hg'; cases hg'; exact Nat.le_refl _
    · obtain ⟨h1, h2⟩ := List.getElem?_eq_some_iff.1 he
      obtain ⟨h3, h4⟩ := List.getElem?_eq_some_iff.1 hg'
      have := (List.pairwise_iff_getElem.1 hg.inv.rise) t u h1 h3 hlt
      rwa [h2, h4] at this
  refine ⟨fun k w => ∃ K ph, Bk x n (nn - k) K ph ∧ Sep w0 w (objR rl (rec .ready none) :: objR D (.deferred (some [])) :: cellsR qb 37 [.slice ta nn tc] :: ownR ta nn tc 29 1 ((litL x.s).map lV) :: engR r.eb x.s :: soP b x r :: rkR r.rb K :: paceR r.pb x.pc :: ownR r.pa x.ph.length r.pk 4 1 (ph.map boV) :: lrP x r :: moP x r :: coP x r :: lgP x r ::
    cellsR vb 3 [.int .i64 (j : Int)] :: cellsR sb 22 [.pointer (some ⟨b, 0, none⟩)] :: l),
    fun c w => c = .exit 0 ∧ ∃ K ph i, Bk x n i K ph ∧ (∀ (t : Nat) e, x.s.E[t]? = some e → t < i → e.lev ≤ j) ∧ Sep w0 w (objR rl (rec .done (some (.exit 0))) :: objR D (.deferred (some [])) :: cellsR qb 37 [.slice ta nn tc] :: ownR ta nn tc 29 1 ((litL x.s).map lV) :: engR r.eb x.s :: soP b x r :: rkR r.rb K :: paceR r.pb x.pc :: ownR r.pa x.ph.length r.pk 4 1 (ph.map boV) :: lrP x r :: moP x r :: coP x r :: lgP x r ::
    cellsR vb 3 [.int .i64 (j : Int)] :: cellsR sb 22 [.pointer (some ⟨b, 0, none⟩)] :: l), ?_, ?_, ?_, ?_, ?_⟩
  · have H3 := (H.newObj (o := .deferred (some [])) rfl).newObj (hrec' .ready none)
    rw [World.size_alloc, ← hrl, ← hD2] at H3
    have e0 : nn - 0 = x.s.E.length := by omega
    exact ⟨x.K, x.ph, by rw [e0]; exact Bk.start h, H3⟩
  · rintro k w hk ⟨K, ph, hb, H⟩
    exact ⟨H.cellAt mm rfl, H.srcM mm⟩
  · rintro k w hk ⟨K, ph, hb, H⟩
    refine ⟨H.objE mm, ?_⟩
    have hkl : k < x.s.E.length := by omega
    obtain ⟨t, ht⟩ : ∃ t, nn - k = t + 1 := ⟨nn - k - 1, by omega⟩
    have ht2 : nn - 1 - k = t := by omega
    have ht3 : nn - (k + 1) = t := by omega
    have he : x.s.E[t]? = some (x.s.E[t]'(by omega)) := List.getElem?_eq_getElem (by omega)
    have hem := List.getElem_mem (l := x.s.E) (n := t) (by omega)
    generalize x.s.E[t]'(by omega) = e at he hem
    have hlm : (litL x.s)[nn - 1 - k]?.getD 0 = e.lit := by rw [ht2, litL_get he]; rfl
    rw [hlm]
    rw [ht] at hb
    have heo := hg.inv.ok e hem
    have hvp := Trail.var_pos.2 heo.1
    have hlv : lvE x.s.E (Trail.var e.lit : Int) = (e.lev : Int) := (hg.lv_at hem (x := e.lit) rfl).1
    have hkl2 := hb.kl
    have hpl2 := hb.pl
    have hpl3 := h.pl
    (repeat first | refine go ?_ | ((try conv => whnf); (first | (refine St_gate ?_; refine xS ?_) | (refine StN_gate ?_; refine xN ?_)); clear H; intro w H))
    refine ⟨H.objE mm, ?_⟩
    replace H := H.putO (o' := rec .busy none) mm (hrec' _ _) _ (by repeat first | exact Upd.head | apply Upd.tail)
    generalize w.putObj rl (rec .busy none) = w at H ⊢
    (repeat first | refine go ?_ | ((try conv => whnf); (first | (refine St_gate ?_; refine xS ?_) | (refine StN_gate ?_; refine xN ?_)); clear H; intro w H))
    refine Call_of (litVar e.lit w) ?_
    rintro _ _ ⟨rfl, rfl⟩
    (repeat first | refine go ?_ | ((try conv => whnf); (first | (refine St_gate ?_; refine xS ?_) | (refine StN_gate ?_; refine xN ?_)); clear H; intro w H))
    refine Draw_intro mixed [0, 1, 2, 3, 4, 5, 6, 7, 9, 8, 10] (by decide +kernel) (fun w _ fd => ?_); replace H := H.fr fd; clear fd
    (repeat first | refine go ?_ | ((try conv => whnf); (first | (refine St_gate ?_; refine xS ?_) | (refine StN_gate ?_; refine xN ?_)); clear H; intro w H))
    replace H := H.tp 4
    obtain ⟨q2, hq2, H⟩ := engOpen H
    (repeat first | refine go ?_ | ((try conv => whnf); (first | (refine St_gate ?_; refine xS ?_) | (refine StN_gate ?_; refine xN ?_)); clear H; intro w H))
    refine Call_of (sTrailLevel H mm) ?_
    clear H
    rintro _ w ⟨rfl, H⟩
    rw [show (knownOf x.s.E (Trail.var e.lit : Int)).2.1 = (e.lev : Int) from hlv]
    (try conv => whnf)
    (repeat (refine Kept_gate ?_; refine xK ?_))
    replace H := engClose hq2 H
    replace H := H.tp 4
    replace H := H.tp 4
    replace H := H.tp 4
    replace H := H.tp 4
    (repeat first | refine go ?_ | ((try conv => whnf); (first | (refine St_gate ?_; refine xS ?_) | (refine StN_gate ?_; refine xN ?_)); clear H; intro w H))
    by_cases hle : e.lev ≤ j
    · (repeat first | refine go ?_ | ((try conv => whnf); (first | (refine St_gate ?_; refine xS ?_) | (refine StN_gate ?_; refine xN ?_)); clear H; intro w H))
      refine ⟨H.objE mm, rfl, K, ph, t + 1, hb, fun u g hu hlt => ?_, ?_⟩
      · exact Nat.le_trans (hlev u t g e hu he (by omega)) hle
      · replace H := H.putO (o' := rec .done (some (.exit 0))) mm (hrec' _ _) _ (by repeat first | exact Upd.head | apply Upd.tail)
        exact H
    · (repeat first | refine go ?_ | ((try conv => whnf); (first | (refine St_gate ?_; refine xS ?_) | (refine StN_gate ?_; refine xN ?_)); clear H; intro w H))
      obtain ⟨pab, hpa⟩ := (H.ownM (a := r.pa) (n := x.ph.length) (cap := r.pk) (el := 4) (sz := 1) (xs := ph.map boV) mm).some (by omega)
      rw [hpa] at H ⊢
      refine Ix_in (Trail.var e.lit) rfl (by omega) ?_
      (try conv => whnf)
      refine St_uO H (by repeat first | exact Upd.head | apply Upd.tail) rfl (by rw [List.length_map]; omega) (List.map_set (f := boV) (a := decide (0 < e.lit))).symm ?_
      clear H; intro w H
      (repeat first | refine go ?_ | ((try conv => whnf); (first | (refine St_gate ?_; refine xS ?_) | (refine StN_gate ?_; refine xN ?_)); clear H; intro w H))
      refine Call_of (kPush H mm) ?_
      clear H
      rintro _ w ⟨rfl, H⟩
      replace H := H _ (by repeat first | exact Upd.head | apply Upd.tail)
      have hth : thereE K (Trail.var e.lit : Int) = true := by unfold thereE; simp; omega
      rw [hth, if_pos rfl] at H
      rw [Int.toNat_natCast] at H
      (repeat first | refine go ?_ | ((try conv => whnf); (first | (refine St_gate ?_; refine xS ?_) | (refine StN_gate ?_; refine xN ?_)); clear H; intro w H))
      refine ⟨H.objE mm, pushE K (Trail.var e.lit), ph.set (Trail.var e.lit) (decide (0 < e.lit)), by rw [ht3]; exact hb.next he (by omega) _, ?_⟩
      replace H := H.putO (o' := rec .ready none) mm (hrec' _ _) _ (by repeat first | exact Upd.head | apply Upd.tail)
      exact H
  · rintro w ⟨K, ph, hb, H⟩
    rw [Nat.sub_self] at hb
    have hall := Bk.all h hb (j := j) fun t e he hlt => by omega
    refine ⟨H.objE mm, ?_⟩
    replace H := H.putO (o' := rec .exhausted none) mm (hrec' _ _) _ (by repeat first | exact Upd.head | apply Upd.tail)
    generalize w.putObj rl (rec .exhausted none) = w at H ⊢
    (repeat first | refine go ?_ | ((try conv => whnf); (first | (refine St_gate ?_; refine xS ?_) | (refine StN_gate ?_; refine xN ?_)); clear H; intro w H))
    refine Draw_intro mixed [0, 1, 2, 3, 4, 5] (by decide +kernel) (fun w _ fd => ?_); replace H := H.fr fd; clear fd
    (repeat first | refine go ?_ | ((try conv => whnf); (first | (refine St_gate ?_; refine xS ?_) | (refine StN_gate ?_; refine xN ?_)); clear H; intro w H))
    replace H := H.tp 4
    refine Call_of (eBack H (k := j) (by omega) (by omega) (by omega) hg.hd (by omega) hY) ?_
    clear H
    rintro _ w ⟨rfl, H⟩
    (try conv => whnf)
    (repeat (refine Kept_gate ?_; refine xK ?_))
    replace H := H.tp 4
    replace H := H.tp 4
    replace H := H.tp 4
    replace H := H.tp 4
    (repeat first | refine go ?_ | ((try conv => whnf); (first | (refine St_gate ?_; refine xS ?_) | (refine StN_gate ?_; refine xN ?_)); clear H; intro w H))
    refine ⟨H.objE mm, ?_⟩
    replace H := H.putO (b := D) (o' := .deferred none) mm rfl _ (by repeat first | exact Upd.head | apply Upd.tail)
    replace H := H.tail.tail.tail.tail
    replace H := H.drop 10 rfl rfl
    replace H := H.drop 9 rfl rfl
    replace H := H.tp 1
    (repeat first | refine go ?_ | ((try conv => whnf); (first | (refine St_gate ?_; refine xS ?_) | (refine StN_gate ?_; refine xN ?_)); clear H; intro w H))
    refine Ret_in ⟨K, ph, Bk.ok h (by omega) hb.kl hb.pl hb.more hall, solClose (x := backS x j K ph) (r := r) ?_⟩
    have ep : (backS x j K ph).ph.length = x.ph.length := by rw [h.pl]; exact hb.pl
    unfold sol soP phP
    rw [ep]
    exact H
  · rintro c w ⟨rfl, K, ph, i, hb, hi, H⟩
    have hall := Bk.all h hb hi
    refine ⟨H.objE mm, ?_⟩
    replace H := H.putO (o' := rec .exhausted (some (.exit 0))) mm (hrec' _ _) _ (by repeat first | exact Upd.head | apply Upd.tail)
    (repeat first | refine go ?_ | ((try conv => whnf); (first | (refine St_gate ?_; refine xS ?_) | (refine StN_gate ?_; refine xN ?_)); clear H; intro w H))
    refine Draw_intro mixed [0, 1, 2, 3, 4, 5] (by decide +kernel) (fun w _ fd => ?_); replace H := H.fr fd; clear fd
    (repeat first | refine go ?_ | ((try conv => whnf); (first | (refine St_gate ?_; refine xS ?_) | (refine StN_gate ?_; refine xN ?_)); clear H; intro w H))
    replace H := H.tp 4
    refine Call_of (eBack H (k := j) (by omega) (by omega) (by omega) hg.hd (by omega) hY) ?_
    clear H
    rintro _ w ⟨rfl, H⟩
    (try conv => whnf)
    (repeat (refine Kept_gate ?_; refine xK ?_))
    replace H := H.tp 4
    replace H := H.tp 4
    replace H := H.tp 4
    replace H := H.tp 4
    (repeat first | refine go ?_ | ((try conv => whnf); (first | (refine St_gate ?_; refine xS ?_) | (refine StN_gate ?_; refine xN ?_)); clear H; intro w H))
    refine ⟨H.objE mm, ?_⟩
    replace H := H.putO (b := D) (o' := .deferred none) mm rfl _ (by repeat first | exact Upd.head | apply Upd.tail)
    replace H := H.tail.tail.tail.tail
    replace H := H.drop 10 rfl rfl
    replace H := H.drop 9 rfl rfl
    replace H := H.tp 1
    (repeat first | refine go ?_ | ((try conv => whnf); (first | (refine St_gate ?_; refine xS ?_) | (refine StN_gate ?_; refine xN ?_)); clear H; intro w H))
    refine Ret_in ⟨K, ph, Bk.ok h (by omega) hb.kl hb.pl hb.more hall, solClose (x := backS x j K ph) (r := r) ?_⟩
    have ep : (backS x j K ph).ph.length = x.ph.length := by rw [h.pl]; exact hb.pl
    unfold sol soP phP
    rw [ep]
    exact H
end
end Go.Proofs.YtcibiidebknkgaaGreat
/-! A solver forgets. -/
set_option linter.unusedVariables false
set_option linter.unusedSimpArgs false
namespace Go.Watch
open Go.Trail
section
variable {n k m : Nat} {L : List (List Int)} {lr : List Nat} {s s' : St}
theorem Sv.ne (h : Sv n L lr k m s) : lr.Pairwise (· ≠ ·) := by
  refine List.Pairwise.imp_of_mem ?_ h.new
  rintro i j hi hj hij rfl
  obtain ⟨c, hc, _⟩ := h.lrn i hi
  exact hij c c hc hc fun x => Iff.rfl
theorem Sv.perm (h : Sv n L lr k m s) {lr' : List Nat} (hp : lr.Perm lr') : Sv n L lr' k m s :=
  { h with
    usr := fun vs hv => h.usr vs fun id c h1 h2 => hv id c h1 fun h3 => h2 (hp.mem_iff.2 h3)
    has := fun c hc hb => by obtain ⟨id, d, h1, h2, h3⟩ := h.has c hc hb; exact ⟨id, d, h1, fun h4 => h2 (hp.mem_iff.2 h4), h3⟩
    lrn := fun id hid => h.lrn id (hp.mem_iff.2 hid)
    new := (hp.pairwise_iff fun h c d hc hd he => h d c hd hc fun x => (he x).symm).1 h.new }
end
end Go.Watch
namespace Go.Proofs.YtcibiidebknkgaaGreat
open Go Go.Vc Go.Watch Go.Lit
open Go.Trail (Ent value find upto okLit litsV)
set_option maxHeartbeats 8000000
set_option maxRecDepth 100000
section
variable {w0 w : World} {l : List Res} {b : Nat} {x : Sol} {n k m : Nat} {L : List (List Int)} {cs : List Int} {ca : Option Addr} {cc eb : Nat}
/-- What forgetting turns. -/
structure Fg where
  many : Int
  s : St
  lg : Nat
  ga : Option Addr
  gk : Nat
  gs : List Value
def fgL (b sb mb : Nat) (x : Sol) (r : SRep) (g : Fg) : List Res := [cellsR mb 3 [.int .i64 g.many], cellsR sb 22 [.pointer (some ⟨b, 0, none⟩)], soP b { x with lg := g.lg } { r with ga := g.ga, gk := g.gk }, engR r.eb g.s, ownR g.ga g.lg g.gk 117 2 g.gs]
structure FgI (x : Sol) (n : Nat) (L : List (List Int)) (k m z : Nat) (g : Fg) (K r : List Ln) : Prop where
  sv : Sv n L ((K ++ r).map (·.1)) k m g.s
  D : g.s.D = 0
  E : g.s.E = x.s.E
  lg : g.lg + r.length ≤ z
  m0 : -1000000000 ≤ g.many - r.length
  m1 : g.many ≤ 1000000000
  sub : ∀ p ∈ K ++ r, p ∈ x.lr
theorem sForget2 {sb mb : Nat} {r : SRep} {z : Nat} (hz : z ≤ 1000000000000) (hk : k ≤ 1048576) {g : Fg} {K q : List Ln} {y : Ln} {ex : List Res} (hI : FgI x n L k m z g K (y :: q)) {us : List Ln} {lb ln lc : Nat} (H : Sep w0 w (lnR lb ln lc us :: (fgL b sb mb x r g ++ ex))) :
    Does Tryz.prog 109 #[.agg (ln2 y).toArray, .pointer (some ⟨sb, 0, none⟩), .pointer (some ⟨mb, 0, none⟩)] w fun v w' => ∃ (p : Bool) (g' : Fg), v = .bool p ∧ Sep w0 w' (lnR lb ln lc us :: (fgL b sb mb x r g' ++ ex)) ∧ FgI x n L k m z g' (if p then K else K ++ [y]) q := by
  have hsv := hI.sv
  have hlrn := hsv.lrn y.1 (by simp)
  obtain ⟨c, hc, ho, hi⟩ := hlrn
  have hcl := hsv.good.cl c (List.mem_of_getElem? hc)
  have hfC := hsv.fewC
  have hfl := hsv.good.lits_few (List.mem_of_getElem? hc)
  have hlt := (List.getElem?_eq_some_iff.1 hc).1
  have hkeep : ∀ g', g'.s = g.s → g'.lg = g.lg → g'.many = g.many → FgI x n L k m z g' (K ++ [y]) q := by
    intro g' h1 h2 h3
    refine ⟨by rw [List.append_assoc, h1]; exact hsv, h1 ▸ hI.D, h1 ▸ hI.E, ?_, ?_, h3 ▸ hI.m1, by rw [List.append_assoc]; exact hI.sub⟩
    · have := hI.lg; rw [h2]; simp at this; omega
    · have := hI.m0; rw [h3]; simp at this; omega
  have m0 := hI.m0
  have m1 := hI.m1
  have hlg := hI.lg
  rw [List.length_cons] at m0 hlg
  unfold fgL at H
  refine Does_intro tok (Tryz.call109 _ _) Tryz.func109 rfl (by rfl) ?_
  (repeat first | refine go ?_ | ((try conv => whnf); (first | (refine St_gate ?_; refine xS ?_) | (refine StN_gate ?_; refine xN ?_)); clear H; intro w H))
  (refine Nw_sep H ?_; clear H; intro yb w H; (try simp only [Value.cells, List.toList_toArray, List.append_nil, List.cons_append, List.nil_append] at H))
  (repeat first | refine go ?_ | ((try conv => whnf); (first | (refine St_gate ?_; refine xS ?_) | (refine StN_gate ?_; refine xN ?_)); clear H; intro w H))
  refine Draw_intro mixed [0, 1, 2, 3, 4, 5, 6, 7, 8, 9, 10, 11] (by decide +kernel) (fun w _ fd => ?_); replace H := H.fr fd; clear fd
  (repeat first | refine go ?_ | ((try conv => whnf); (first | (refine St_gate ?_; refine xS ?_) | (refine StN_gate ?_; refine xN ?_)); clear H; intro w H))
  replace H := H.tp 5
  refine Call_of (eClause H hc ho (fun x hx => by rw [one_ok]; exact (hcl.1 x hx).1) (by omega) (by omega)) ?_
  clear H
  rintro _ w ⟨oa, oc, out, rfl, hcl2, hol, H⟩
  (try conv => whnf)
  (repeat (refine Kept_gate ?_; refine xK ?_))
  (repeat first | refine go ?_ | ((try conv => whnf); (first | (refine St_gate ?_; refine xS ?_) | (refine StN_gate ?_; refine xN ?_)); clear H; intro w H))
  refine Draw_intro mixed [0, 1, 2, 3, 4, 5, 6, 7, 8, 9, 10, 11, 12, 13, 14, 15, 16, 17, 18, 19, 20] (by decide +kernel) (fun w _ fd => ?_); replace H := H.fr fd; clear fd
  (repeat first | refine go ?_ | ((try conv => whnf); (first | (refine St_gate ?_; refine xS ?_) | (refine StN_gate ?_; refine xN ?_)); clear H; intro w H))
  by_cases hm0 : g.many ≤ 0
  · (repeat first | refine go ?_ | ((try conv => whnf); (first | (refine St_gate ?_; refine xS ?_) | (refine StN_gate ?_; refine xN ?_)); clear H; intro w H))
    (replace H := H.tail; replace H := H.drop 1 rfl rfl; replace H := H.tp 4; replace H := H.tp 4; replace H := H.tp 4; replace H := H.tp 4)
    exact Ret_in ⟨false, g, rfl, H, hkeep g rfl rfl rfl⟩
  by_cases ho2 : out.length ≤ 2
  · (repeat first | refine go ?_ | ((try conv => whnf); (first | (refine St_gate ?_; refine xS ?_) | (refine StN_gate ?_; refine xN ?_)); clear H; intro w H))
    (replace H := H.tail; replace H := H.drop 1 rfl rfl; replace H := H.tp 4; replace H := H.tp 4; replace H := H.tp 4; replace H := H.tp 4)
    exact Ret_in ⟨false, g, rfl, H, hkeep g rfl rfl rfl⟩
  (repeat first | refine go ?_ | ((try conv => whnf); (first | (refine St_gate ?_; refine xS ?_) | (refine StN_gate ?_; refine xN ?_)); clear H; intro w H))
  replace H := H.tp 1
  refine Call_of (eRemove H hc ho (fun x hx => by rw [one_ok]; exact (hcl.1 x hx).1) (by omega) (by omega)) ?_
  clear H
  rintro _ w (⟨rfl, _, H⟩ | ⟨rfl, hno, H⟩)
  · (try conv => whnf)
    (repeat (refine Kept_gate ?_; refine xK ?_))
    (repeat first | refine go ?_ | ((try conv => whnf); (first | (refine St_gate ?_; refine xS ?_) | (refine StN_gate ?_; refine xN ?_)); clear H; intro w H))
    replace H := H.tp 1
    (replace H := H.tail; replace H := H.drop 1 rfl rfl; replace H := H.tp 4; replace H := H.tp 4; replace H := H.tp 4; replace H := H.tp 4)
    exact Ret_in ⟨false, g, rfl, H, hkeep g rfl rfl rfl⟩
  · (try conv => whnf)
    (repeat (refine Kept_gate ?_; refine xK ?_))
    (repeat first | refine go ?_ | ((try conv => whnf); (first | (refine St_gate ?_; refine xS ?_) | (refine StN_gate ?_; refine xN ?_)); clear H; intro w H))
    refine Draw_intro mixed [0, 1, 2, 3, 4, 5, 6, 7, 8, 9, 10, 11] (by decide +kernel) (fun w _ fd => ?_); replace H := H.fr fd; clear fd
    (repeat first | refine go ?_ | ((try conv => whnf); (first | (refine St_gate ?_; refine xS ?_) | (refine StN_gate ?_; refine xN ?_)); clear H; intro w H))
    (refine Nw_sep H ?_; clear H; intro nb w H; (try simp only [Value.cells, List.toList_toArray, List.append_nil, List.cons_append, List.nil_append] at H))
    (try conv => whnf)
    (repeat (refine Kept_gate ?_; refine xK ?_))
    (repeat first | refine go ?_ | ((try conv => whnf); (first | (refine St_gate ?_; refine xS ?_) | (refine StN_gate ?_; refine xN ?_)); clear H; intro w H))
    refine DoN_gate ?_
    refine append_one tok H rfl rfl rfl rfl rfl (by decide) (List.Mem.tail _ (List.Mem.tail _ (List.Mem.tail _ (List.Mem.tail _ (List.Mem.tail _ (List.Mem.tail _ (List.Mem.tail _ (List.Mem.head _)))))))) (n := g.lg) (xs := g.gs) (m := 1) rfl (by simp [oneCell]) (by omega) (by unfold maxLen; omega) ?_
    clear H
    intro ga' gk' w H
    replace H := H _ (by repeat first | exact Upd.head | apply Upd.tail)
    (try conv => whnf)
    (repeat (refine Kept_gate ?_; refine xK ?_))
    (repeat first | refine go ?_ | ((try conv => whnf); (first | (refine St_gate ?_; refine xS ?_) | (refine StN_gate ?_; refine xN ?_)); clear H; intro w H))
    replace H := H.tp 1
    (replace H := H.tail; replace H := H.drop 1 rfl rfl; replace H := H.tp 4; replace H := H.tp 4; replace H := H.tp 4; replace H := H.tp 4)
    refine Ret_in ⟨true, ⟨g.many - 1, Watch.off g.s y.1 c, g.lg + 1, ga', gk', g.gs ++ [Value.bool true, Value.slice oa out.length oc]⟩, rfl, H, ?_⟩
    have hne := hsv.ne
    have hsub : ((K ++ q).map (·.1)).Sublist ((K ++ y :: q).map (·.1)) := (List.Sublist.append_left (List.sublist_cons_self y q) K).map _
    refine ⟨hsv.remove hc (lr' := (K ++ q).map (·.1)) (fun j => ?_) (by simp) hsub (fun x hx => hno x hx) hI.D, hI.D, hI.E, by simp only []; omega, by simp only []; omega, by simp only []; omega, fun p hp => hI.sub p (by rw [List.mem_append] at hp ⊢; exact hp.imp id (List.mem_cons_of_mem _))⟩
    rw [List.map_append, List.map_cons, List.pairwise_append, List.pairwise_cons] at hne
    obtain ⟨_, ⟨h2, _⟩, h3⟩ := hne
    rw [List.map_append, List.map_append, List.map_cons, List.mem_append, List.mem_append, List.mem_cons]
    constructor
    · rintro (h4 | h4)
      · exact ⟨.inl h4, h3 j h4 y.1 (by simp)⟩
      · exact ⟨.inr (.inr h4), (h2 j h4).symm⟩
    · rintro ⟨h4 | rfl | h4, h5⟩
      · exact .inl h4
      · exact (h5 rfl).elim
      · exact .inr h4
/-- What forgetting leaves. -/
structure Fgt (x y : Sol) : Prop where
  pc : y.pc = x.pc
  conf : y.conf = x.conf
  brk : y.broken = x.broken
  model : y.model = x.model
  core : y.core = x.core
  few : (x.lr.length : Int) < x.pc.r + x.pc.a / 10 → y.lr.length = x.lr.length
  E : y.s.E = x.s.E
  D : y.s.D = x.s.D
theorem Fgt.refl (x : Sol) : Fgt x x := ⟨rfl, rfl, rfl, rfl, rfl, fun _ => rfl, rfl, rfl⟩
theorem sForget (H : Sep w0 w (solR b x :: l)) (h : x.Ok n L k m) (hD : x.s.D = 0) (ha : x.pc.a ≤ 1048576) (hlr : x.lr.length ≤ 1000000) (hm : m + x.lr.length ≤ 1000000000000) : Does Tryz.prog 82 #[.pointer (some ⟨b, 0, none⟩)] w fun v w' => ∃ y : Sol, y.Ok n L k (m + x.lr.length) ∧ Fgt x y ∧ Sep w0 w' (solR b y :: l) := by
  refine Does_intro tok (Tryz.call82 _ _) Tryz.func82 rfl (by rfl) ?_
  (repeat first | refine go ?_ | ((try conv => whnf); (first | (refine St_gate ?_; refine xS ?_) | (refine StN_gate ?_; refine xN ?_)); clear H; intro w H))
  (refine Nw_sep H ?_; clear H; intro sb w H; (try simp only [Value.cells, List.toList_toArray, List.append_nil, List.cons_append, List.nil_append] at H))
  (repeat first | refine go ?_ | ((try conv => whnf); (first | (refine St_gate ?_; refine xS ?_) | (refine StN_gate ?_; refine xN ?_)); clear H; intro w H))
  replace H := H.tp 1
  obtain ⟨r, H⟩ := solOpen H
  refine Draw_tree mixed (Tr.row [0, 1, 2, 3, 4, 5, 6, 7, 8] (.alt (.step 9 (Tr.row [10, 11] .done)) (.step 10 (Tr.row [9, 11] .done)))) (by decide +kernel) (fun w _ fd => ?_); replace H := H.fr fd; clear fd
  (repeat first | refine go ?_ | ((try conv => whnf); (first | (refine St_gate ?_; refine xS ?_) | (refine StN_gate ?_; refine xN ?_)); clear H; intro w H))
  refine Both_in ?a1 ?a2
  case' a1 =>
    refine Call_of (pForget H mm h.pc ha (n := x.lr.length) (by omega)) ?_
    clear H
    rintro _ w ⟨⟨mn, rfl, hmn, hfew⟩, H⟩
    (try conv => whnf)
    (repeat (refine Kept_gate ?_; refine xK ?_))
    (repeat first | refine go ?_ | ((try conv => whnf); (first | (refine St_gate ?_; refine xS ?_) | (refine StN_gate ?_; refine xN ?_)); clear H; intro w H))
    (refine Nw_sep H ?_; clear H; intro mb w H; (try simp only [Value.cells, List.toList_toArray, List.append_nil, List.cons_append, List.nil_append] at H))
    (try conv => whnf)
    (repeat (refine Kept_gate ?_; refine xK ?_))
    (repeat first | refine go ?_ | ((try conv => whnf); (first | (refine St_gate ?_; refine xS ?_) | (refine StN_gate ?_; refine xN ?_)); clear H; intro w H))
  case' a2 =>
    (refine Nw_sep H ?_; clear H; intro mb w H; (try simp only [Value.cells, List.toList_toArray, List.append_nil, List.cons_append, List.nil_append] at H))
    (try conv => whnf)
    (repeat (refine Kept_gate ?_; refine xK ?_))
    (repeat first | refine go ?_ | ((try conv => whnf); (first | (refine St_gate ?_; refine xS ?_) | (refine StN_gate ?_; refine xN ?_)); clear H; intro w H))
    refine Call_of (pForget H mm h.pc ha (n := x.lr.length) (by omega)) ?_
    clear H
    rintro _ w ⟨⟨mn, rfl, hmn, hfew⟩, H⟩
    (try conv => whnf)
    (repeat (refine Kept_gate ?_; refine xK ?_))
    (repeat first | refine go ?_ | ((try conv => whnf); (first | (refine St_gate ?_; refine xS ?_) | (refine StN_gate ?_; refine xN ?_)); clear H; intro w H))
  all_goals
    by_cases hz : mn = 0
    · subst hz
      (repeat first | refine go ?_ | ((try conv => whnf); (first | (refine St_gate ?_; refine xS ?_) | (refine StN_gate ?_; refine xN ?_)); clear H; intro w H))
      refine Ret_in ⟨x, { h with sv := h.sv.mono (Nat.le_refl _) (Nat.le_add_right _ _), lg := Nat.le_add_right_of_le h.lg }, Fgt.refl x, ?_⟩
      replace H := H.tail
      exact (solClose H).drop 1 rfl rfl
    · (repeat first | refine go ?_ | ((try conv => whnf); (first | (refine St_gate ?_; refine xS ?_) | (refine StN_gate ?_; refine xN ?_)); clear H; intro w H))
      obtain ⟨lab, hla⟩ := (H.ownM (a := r.la) (n := x.lr.length) (cap := r.lk) (el := 124) (sz := 2) (xs := x.lr.flatMap ln2) mm).some (by omega)
      rw [hla]
      replace H := H.tp 6
      replace H := H.head (R' := lnR lab x.lr.length r.lk x.lr) (fun S hS => by unfold lnR; rw [← hla]; exact hS)
      refine Call_of (nSortStable (fun H x y => nCmp H x y) H rfl (by omega)) ?_
      clear H
      rintro _ w ⟨rfl, zs, hp, H⟩
      have hzl := hp.length_eq
      (repeat first | refine go ?_ | ((try conv => whnf); (first | (refine St_gate ?_; refine xS ?_) | (refine StN_gate ?_; refine xN ?_)); clear H; intro w H))
      refine Draw_intro mixed [0, 1, 2, 3, 4, 5, 6, 7, 8, 9] (by decide +kernel) (fun w _ fd => ?_); replace H := H.fr fd; clear fd
      (repeat first | refine go ?_ | ((try conv => whnf); (first | (refine St_gate ?_; refine xS ?_) | (refine StN_gate ?_; refine xN ?_)); clear H; intro w H))
      rw [hla]
      replace H := H.tp 9
      replace H := H.tp 4
      replace H := H.tp 4
      replace H := H.tp 10
      replace H := H.tp 5
      replace H := H.tp 5
      refine Call_of (nDelete (γ := Fg) (Rr := fgL b sb mb x r) (Iv := FgI x n L k m (x.lg + x.lr.length)) (g0 := ⟨mn, x.s, x.lg, r.ga, r.gk, r.gs⟩) (ex := rkR r.rb x.K :: paceR r.pb x.pc :: phP x r :: moP x r :: coP x r :: l) (xs := zs) H hzl ?_ (by omega) (fun hI H => sForget2 (by have := h.lg; omega) h.kk hI H)) ?_
      · exact ⟨h.sv.perm (hp.map _).symm, hD, rfl, by simp only []; omega, by simp only []; omega, by simp only []; omega, fun p hpm => hp.mem_iff.1 hpm⟩
      clear H
      rintro _ w ⟨g', zs2, rfl, H, hI⟩
      unfold fgL at H
      replace H : Sep w0 w (lnR lab zs2.length r.lk zs2 :: cellsR mb 3 [.int .i64 g'.many] :: cellsR sb 22 [.pointer (some ⟨b, 0, none⟩)] :: soP b { x with lg := g'.lg } { r with ga := g'.ga, gk := g'.gk } :: engR r.eb g'.s :: ownR g'.ga g'.lg g'.gk 117 2 g'.gs :: rkR r.rb x.K :: paceR r.pb x.pc :: phP x r :: moP x r :: coP x r :: l) := H
      (try conv => whnf)
      (repeat (refine Kept_gate ?_; refine xK ?_))
      (repeat first | refine go ?_ | ((try conv => whnf); (first | (refine St_gate ?_; refine xS ?_) | (refine StN_gate ?_; refine xN ?_)); clear H; intro w H))
      replace H := H.drop 2 rfl rfl
      replace H := H.drop 1 rfl rfl
      replace H := H.tp 3
      replace H := H.tp 8
      replace H := H.tp 8
      replace H := H.tp 3
      replace H := H.tp 8
      replace H := H.tp 8
      replace H := H.tp 8
      replace H := H.tp 8
      replace H := H.tp 8
      refine Ret_in ⟨{ x with s := g'.s, lr := zs2, lg := g'.lg }, ?_, ⟨rfl, rfl, rfl, rfl, rfl, fun hf => (hz (hfew hf)).elim, hI.E, hI.D.trans hD.symm⟩, solClose (x := { x with s := g'.s, lr := zs2, lg := g'.lg }) (r := { r with la := some ⟨lab, 0, none⟩, ga := g'.ga, gk := g'.gk, gs := g'.gs }) H⟩
      have hsv := hI.sv
      rw [List.append_nil] at hsv
      refine { h with sv := hsv.mono (Nat.le_refl _) (Nat.le_add_right _ _), wt := fun v h1 h2 h3 => ?_, lv := fun p hp => h.lv p (hI.sub p (by rw [List.append_nil]; exact hp)), lg := ?_ }
      · show find g'.s.E (v : Int) ≠ none
        rw [hI.E]
        exact h.wt v h1 h2 h3
      · have := hI.lg
        have := h.lg
        show g'.lg ≤ m + x.lr.length
        simp at *
        omega
end
end Go.Proofs.YtcibiidebknkgaaGreat
