/- Clauses cleaned, resolved; the references' searches. -/
import Derived.Test.YtcibiidebknkgaaGreatLitD
namespace Go.Lit
theorem clean_one {xs out : List Int} (h : Clean xs out) : out.all one = xs.all one := by
  rw [Bool.eq_iff_iff, List.all_eq_true, List.all_eq_true]
  exact ⟨fun hh x hx => hh x ((h.mem x).2 hx), fun hh x hx => hh x ((h.mem x).1 hx)⟩
end Go.Lit
namespace Go.Proofs.YtcibiidebknkgaaGreat
open Go Go.Vc Go.Lit
set_option linter.unusedVariables false
set_option linter.unusedSimpArgs false
set_option maxHeartbeats 4000000
set_option maxRecDepth 100000

section
variable {w0 w : World} {l : List Res}

theorem fClean {xs : List Int} {a : Option Addr} {c : Nat} (H : Sep w0 w l) (hs : Src w a xs.length 1 (xs.map lV)) (hm : xs.length ≤ 35184372087808) (ho : ∀ x ∈ xs, Lit.one x = true) : Does Tryz.prog 39 #[.slice a xs.length c] w fun v w' =>
    ∃ a' c' out, v = .tuple #[.slice a' out.length c', .bool (bothB xs), .int .i64 0] ∧ Lit.Clean xs out ∧ out.length ≤ xs.length ∧ Sep w0 w' (ownR a' out.length c' 29 1 (out.map lV) :: l) := by
  refine Does_intro tok (Tryz.call39 _ _) Tryz.func39 rfl (by rfl) ?_
  (repeat first | refine go ?_ | ((try conv => whnf); (first | (refine St_gate ?_; refine xS ?_) | (refine StN_gate ?_; refine xN ?_)); clear H; intro w H))
  refine Call_of (fRight hs (by unfold maxLen; omega)) ?_
  rintro _ _ ⟨rfl, rfl⟩
  rw [List.all_eq_true.2 ho]
  (repeat first | refine go ?_ | ((try conv => whnf); (first | (refine St_gate ?_; refine xS ?_) | (refine StN_gate ?_; refine xN ?_)); clear H; intro w H))
  refine Call_of (cloneL H hs lits_one hm) ?_
  clear H
  rintro _ w ⟨a1, c1, rfl, H⟩
  (repeat first | refine go ?_ | ((try conv => whnf); (first | (refine St_gate ?_; refine xS ?_) | (refine StN_gate ?_; refine xN ?_)); clear H; intro w H))
  refine Call_of (fSort H (.head _) ho (by omega)) ?_
  clear H
  rintro _ w ⟨rfl, ys, hperm, hpair, H⟩
  replace H := H _ .head
  have hyl : ys.length = xs.length := hperm.length_eq
  (repeat first | refine go ?_ | ((try conv => whnf); (first | (refine St_gate ?_; refine xS ?_) | (refine StN_gate ?_; refine xN ?_)); clear H; intro w H))
  refine Call_of (litCompact H (.head _) (by omega)) ?_
  clear H
  rintro _ w ⟨rfl, H⟩
  replace H := H _ .head
  have hcl : Lit.Clean xs (squeeze ys) := squeeze_clean ho hpair fun x => hperm.mem_iff
  have hsl : (squeeze ys).length ≤ xs.length := by have := squeeze_len ys; omega
  have hnb := near_both ho hcl
  have hone : ∀ x ∈ squeeze ys, Lit.one x = true := fun x hx => ho x ((hcl.mem x).1 hx)
  generalize squeeze ys = out at *
  (repeat first | refine go ?_ | ((try conv => whnf); (first | (refine St_gate ?_; refine xS ?_) | (refine StN_gate ?_; refine xN ?_)); clear H; intro w H))
  refine Loop_intro (fun i : Nat => [(19, .int .i64 (i : Int)), (6, .bool (nearB out i))]) (fun i w => i ≤ out.length ∧ Sep w0 w (ownR a1 out.length c1 29 1 (out.map lV) :: l)) (fun i => out.length - i) 0 ⟨rfl, rfl, trivial⟩ ⟨Nat.zero_le _, H⟩ ?_
  clear H
  rintro i w ⟨hi, H⟩
  simp only [] at hi H ⊢
  refine Br_dec (fun k1 => ?_) (fun k1 => ?_)
  · have hlt : i < out.length := by omega
    have hnx : nearB out (i + 1) = (nearB out i || decide (0 < i ∧ out.getD i 0 = -out.getD (i - 1) 0)) := rfl
    obtain ⟨b, rfl⟩ := (H.ownM (hm := .head _)).some (by omega)
    (repeat first | refine go ?_ | ((try conv => whnf); (first | (refine St_gate ?_; refine xS ?_) | (refine StN_gate ?_; refine xN ?_)); clear H; intro w H))
    refine Draw_intro mixed [0, 1, 2, 3, 4, 5, 6, 7, 8, 9, 10, 11, 12, 13, 14, 15, 16, 17, 18] (by decide +kernel) (fun w _ fd => ?_); replace H := H.fr fd; clear fd
    (repeat first | refine go ?_ | ((try conv => whnf); (first | (refine St_gate ?_; refine xS ?_) | (refine StN_gate ?_; refine xN ?_)); clear H; intro w H))
    cases hb : nearB out i with
    | true =>
      rw [hb, Bool.true_or] at hnx
      (repeat first | refine go ?_ | ((try conv => whnf); (first | (refine St_gate ?_; refine xS ?_) | (refine StN_gate ?_; refine xN ?_)); clear H; intro w H))
      exact ⟨i + 1, ⟨congrArg some (vint (by omega)), congrArg some (vbool hnx.symm), trivial⟩, ⟨by omega, H⟩, by omega⟩
    | false =>
      rw [hb, Bool.false_or] at hnx
      by_cases h0 : i = 0
      · rw [decide_eq_false (by omega)] at hnx
        (repeat first | refine go ?_ | ((try conv => whnf); (first | (refine St_gate ?_; refine xS ?_) | (refine StN_gate ?_; refine xN ?_)); clear H; intro w H))
        exact ⟨i + 1, ⟨congrArg some (vint (by omega)), congrArg some (vbool hnx.symm), trivial⟩, ⟨by omega, H⟩, by omega⟩
      · have ho1 := one_iff.1 (hone (out.getD (i - 1) 0) (by rw [List.getD_eq_getElem?_getD, List.getElem?_eq_getElem (by omega)]; exact List.getElem_mem _))
        (repeat first | refine go ?_ | ((try conv => whnf); (first | (refine St_gate ?_; refine xS ?_) | (refine StN_gate ?_; refine xN ?_)); clear H; intro w H))
        refine Ix_in i rfl hlt ?_
        (repeat first | refine go ?_ | ((try conv => whnf); (first | (refine St_gate ?_; refine xS ?_) | (refine StN_gate ?_; refine xN ?_)); clear H; intro w H))
        refine Ld_mO H mm (lits_get hlt) ?_
        (repeat first | refine go ?_ | ((try conv => whnf); (first | (refine St_gate ?_; refine xS ?_) | (refine StN_gate ?_; refine xN ?_)); clear H; intro w H))
        refine Ix_in (i - 1) (by omega) (by omega) ?_
        (repeat first | refine go ?_ | ((try conv => whnf); (first | (refine St_gate ?_; refine xS ?_) | (refine StN_gate ?_; refine xN ?_)); clear H; intro w H))
        refine Ld_mO H mm (lits_get (by omega)) ?_
        (repeat first | refine go ?_ | ((try conv => whnf); (first | (refine St_gate ?_; refine xS ?_) | (refine StN_gate ?_; refine xN ?_)); clear H; intro w H))
        refine ⟨i + 1, ⟨congrArg some (vint (by omega)), congrArg some (vbool ?_), trivial⟩, ⟨by omega, H⟩, by omega⟩
        rw [hnx, Bool.eq_iff_iff, beq_iff_eq, decide_eq_true_iff]
        omega
  · obtain rfl : i = out.length := by omega
    rw [hnb]
    (repeat first | refine go ?_ | ((try conv => whnf); (first | (refine St_gate ?_; refine xS ?_) | (refine StN_gate ?_; refine xN ?_)); clear H; intro w H))
    exact Ret_in ⟨a1, c1, out, rfl, hcl, hsl, H⟩

theorem fClean_no {xs : List Int} {a : Option Addr} {c : Nat} (hs : Src w a xs.length 1 (xs.map lV)) (hm : xs.length ≤ maxLen) (ho : xs.all Lit.one = false) : Does Tryz.prog 39 #[.slice a xs.length c] w fun v w' =>
    v = .tuple #[.slice none 0 0, .bool false, .int .i64 11] ∧ w = w' := by
  refine Does_intro tok (Tryz.call39 _ _) Tryz.func39 rfl (by rfl) ?_
  (repeat first | refine go ?_ | ((try conv => whnf); (first | (refine St_gate ?_; refine xS ?_) | (refine StN_gate ?_; refine xN ?_)); clear H; intro w H))
  refine Call_of (fRight hs hm) ?_
  rintro _ _ ⟨rfl, rfl⟩
  rw [ho]
  (repeat first | refine go ?_ | ((try conv => whnf); (first | (refine St_gate ?_; refine xS ?_) | (refine StN_gate ?_; refine xN ?_)); clear H; intro w H))
  exact Ret_in ⟨rfl, rfl⟩


/-- What is resolved. -/
def resL (xs ys : List Int) (v : Int) : List Int := (xs.filter fun x => !decide (x = v)) ++ ys.filter fun y => decide (y ≠ -v)
def resOk (xs ys : List Int) (v : Int) : Bool := xs.all Lit.one && (ys.all Lit.one && (decide (1 ≤ v ∧ v ≤ 262144) && (decide (v ∈ xs) && decide (-v ∈ ys))))

end
end Go.Proofs.YtcibiidebknkgaaGreat
