/- The names' law on trees. -/
import Derived.Test.YthpekiohalejmaaGreatDoorTreeA
import Derived.Test.YthpekiohalejmaaGreatDoorTreeP
set_option linter.unusedVariables false
set_option linter.unusedSimpArgs false
namespace Go.Proofs.YthpekiohalejmaaGreatDoor
open Go Go.Vc Go.Tree
set_option maxHeartbeats 4000000
set_option maxRecDepth 100000
section
variable {w0 w : World} {l : List Res}
theorem tSource (m : So) (H : Sep w0 w l) (hp : Pow w0) (hs : ∀ {w' : World} {l' : List Res}, Sep w0 w' (l' ++ l) → SoOk w' m) (hb : soK m ≤ 2000000) :
    Does Tryz.prog 5 #[soA m] w fun v w' => v = .tuple #[.string (if soB m then ⟨(soL txt itoaC m).toArray⟩ else str []), .int .i64 (if soB m then 0 else 141)] ∧ Sep w0 w' l := by
  refine Does.mono (tSource0 m (TabIs.fr hp H.base) (hs (l' := []) H) hb) ?_
  rintro v w' ⟨rfl, H'⟩
  exact ⟨rfl, H.fr H'.base⟩
theorem rSign (op : Int) (H : Sep w0 w l) : Does Tryz.prog 84 #[.int .i64 op] w fun v w' => v = .string (signB op) ∧ Sep w0 w' l := by
  refine Does_intro tok (Tryz.call84 _ _) Tryz.func84 rfl (by rfl) ?_
  (repeat first | refine goN ?_ | ((try conv => whnf); first | (refine Ar_gate ?_; first | (fail_if_success skip) | refine xA ?_) | (first | refine Do_str_eq ?_ | refine Do_str_ne ?_ | refine DoN_len tok rfl ?_ | refine Eqv_in ?_)) | ((try conv => whnf); (first | (refine St_gate ?_; refine xS ?_) | (refine StN_gate ?_; refine xN ?_)); clear H; intro w H))
  unfold signB
  by_cases h1 : op < 5
  · rw [if_pos (.inl h1)]
    (repeat first | refine goN ?_ | ((try conv => whnf); first | (refine Ar_gate ?_; first | (fail_if_success skip) | refine xA ?_) | (first | refine Do_str_eq ?_ | refine Do_str_ne ?_ | refine DoN_len tok rfl ?_ | refine Eqv_in ?_)) | ((try conv => whnf); (first | (refine St_gate ?_; refine xS ?_) | (refine StN_gate ?_; refine xN ?_)); clear H; intro w H))
    exact Ret_in ⟨rfl, H⟩
  by_cases h2 : 31 ≤ op
  · rw [if_pos (.inr h2)]
    (repeat first | refine goN ?_ | ((try conv => whnf); first | (refine Ar_gate ?_; first | (fail_if_success skip) | refine xA ?_) | (first | refine Do_str_eq ?_ | refine Do_str_ne ?_ | refine DoN_len tok rfl ?_ | refine Eqv_in ?_)) | ((try conv => whnf); (first | (refine St_gate ?_; refine xS ?_) | (refine StN_gate ?_; refine xN ?_)); clear H; intro w H))
    exact Ret_in ⟨rfl, H⟩
  rw [if_neg (by omega)]
  (repeat first | refine goN ?_ | ((try conv => whnf); first | (refine Ar_gate ?_; first | (fail_if_success skip) | refine xA ?_) | (first | refine Do_str_eq ?_ | refine Do_str_ne ?_ | refine DoN_len tok rfl ?_ | refine Eqv_in ?_)) | ((try conv => whnf); (first | (refine St_gate ?_; refine xS ?_) | (refine StN_gate ?_; refine xN ?_)); clear H; intro w H))
  (refine Nw_sep H ?_; clear H; intro sb w H; (try simp only [Value.cells, List.toList_toArray, List.append_nil, List.cons_append, List.nil_append] at H))
  (repeat first | refine goN ?_ | ((try conv => whnf); first | (refine Ar_gate ?_; first | (fail_if_success skip) | refine xA ?_) | (first | refine Do_str_eq ?_ | refine Do_str_ne ?_ | refine DoN_len tok rfl ?_ | refine Eqv_in ?_)) | ((try conv => whnf); (first | (refine St_gate ?_; refine xS ?_) | (refine StN_gate ?_; refine xN ?_)); clear H; intro w H))
  obtain ⟨i, hi⟩ : ∃ i : Nat, op - 5 = i := ⟨(op - 5).toNat, by omega⟩
  have hsrc : Src w (some ⟨sb, 0, none⟩) 26 1 (signL.map Value.string) := H.srcCM 26 1 (cs := signL.map Value.string) (.head _) rfl (by decide)
  have hlt : i < signL.length := by rw [show signL.length = 26 from rfl]; omega
  have hx := List.getElem?_eq_getElem hlt
  refine Ix_in i hi (by omega) ?_
  conv => whnf
  refine Ld_src (j := i) hsrc (v := .string signL[i]) (by rw [List.getElem?_map, hx]; rfl) ?_
  (repeat first | refine goN ?_ | ((try conv => whnf); first | (refine Ar_gate ?_; first | (fail_if_success skip) | refine xA ?_) | (first | refine Do_str_eq ?_ | refine Do_str_ne ?_ | refine DoN_len tok rfl ?_ | refine Eqv_in ?_)) | ((try conv => whnf); (first | (refine St_gate ?_; refine xS ?_) | (refine StN_gate ?_; refine xN ?_)); clear H; intro w H))
  refine Ret_in ⟨?_, H.tail⟩
  rw [hi, Int.toNat_natCast, hx]
  rfl
end
end Go.Proofs.YthpekiohalejmaaGreatDoor
