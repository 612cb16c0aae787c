/- The names' law on trees. -/
import Derived.Test.YthpekiohalejmaaDoorTreeA
import Derived.Test.YthpekiohalejmaaDoorTreeP
set_option linter.unusedVariables false
set_option linter.unusedSimpArgs false
namespace Go.Proofs.YthpekiohalejmaaDoor
open Go Go.Vc Go.Tree
set_option maxHeartbeats 4000000
set_option maxRecDepth 100000
section
variable {w0 w : World} {l : List Res}
theorem tSource (m : So) (H : Sep w0 w l) (hp : Pow w0) (hs : ∀ {w' : World} {l' : List Res}, Sep w0 w' (l' ++ l) → SoOk w' m) (hb : soK m ≤ 2000000) :
    Does Tryd.prog 13 #[soA m] w fun v w' => v = .tuple #[.string (if soB m then ⟨(soL txt itoaC m).toArray⟩ else str []), .int .i64 (if soB m then 0 else 141)] ∧ Sep w0 w' l := by
  refine Does.mono (tSource0 m (TabIs.fr hp H.base) (hs (l' := []) H) hb) ?_
  rintro v w' ⟨rfl, H'⟩
  exact ⟨rfl, H.fr H'.base⟩
theorem rSign (op : Int) (H : Sep w0 w l) : Does Tryd.prog 15 #[.int .i64 op] w fun v w' => v = .string (signB op) ∧ Sep w0 w' l := by
  refine Does_intro tok (Tryd.call15 _ _) Tryd.func15 rfl (by rfl) ?_
  (repeat first | refine goN ?_ | ((try conv => whnf); first | (refine Ar_gate ?_; first | (fail_if_success skip) | refine xA ?_) | (first | refine Do_str_eq ?_ | refine Do_str_ne ?_ | refine DoN_len tok rfl ?_ | refine Eqv_in ?_)) | ((try conv => whnf); (first | (refine St_gate ?_; refine xS ?_) | (refine StN_gate ?_; refine xN ?_)); clear H; intro w H))
  unfold signB
  by_cases h1 : op < 5
  · rw [if_pos (.inl h1)]
    (repeat first | refine goN ?_ | ((try conv => whnf); first | (refine Ar_gate ?_; first | (fail_if_success skip) | refine xA ?_) | (first | refine Do_str_eq ?_ | refine Do_str_ne ?_ | refine DoN_len tok rfl ?_ | refine Eqv_in ?_)) | ((try conv => whnf); (first | (refine St_gate ?_; refine xS ?_) | (refine StN_gate ?_; refine xN ?_)); clear H; intro w H))
    exact Ret_in ⟨rfl, H⟩
  by_cases h2 : 31 ≤ op
  · rw [if_pos (.inr h2)]
    (repeat first | refine goN ?_ | ((try conv => whnf); first | (refine Ar_gate ?_; first | (fail_if_success skip) | refine xA ?_) | (first | refine Do_str_eq ?_ | refine Do_str_ne ?_ | refine DoN_len tok rfl ?_ | refine Eqv_in ?_)) | ((try conv => whnf); (first | (refine St_gate ?_; refine xS ?_) | (refine StN_gate ?_; refine xN ?_)); clear H; intro w H))
    exact Ret_in ⟨rfl, H⟩
  rw [if_neg (by omega)]
  (repeat first | refine goN ?_ | ((try conv => whnf); first | (refine Ar_gate ?_; first | (fail_if_success skip) | refine xA ?_) | (first | refine Do_str_eq ?_ | refine Do_str_ne ?_ | refine DoN_len tok rfl ?_ | refine Eqv_in ?_)) | ((try conv => whnf); (first | (refine St_gate ?_; refine xS ?_) | (refine StN_gate ?_; refine xN ?_)); clear H; intro w H))
  (refine Nw_sep H ?_; clear H; intro sb w H; (try simp only [Value.cells, List.toList_toArray, List.append_nil, List.cons_append, List.nil_append] at H))
  (repeat first | refine goN ?_ | ((try conv => whnf); first | (refine Ar_gate ?_; first | (fail_if_success skip) | refine xA ?_) | (first | refine Do_str_eq ?_ | refine Do_str_ne ?_ | refine DoN_len tok rfl ?_ | refine Eqv_in ?_)) | ((try conv => whnf); (first | (refine St_gate ?_; refine xS ?_) | (refine StN_gate ?_; refine xN ?_)); clear H; intro w H))
  obtain ⟨i, hi⟩ : ∃ i : Nat, op - 5 = i := ⟨(op - 5).toNat, by omega⟩
  have hsrc : Src w (some ⟨sb, 0, none⟩) 26 1 (signL.map Value.string) := H.srcCM 26 1 (cs := signL.map Value.string) (.head _) rfl (by decide)
  have hlt : i < signL.length := by rw [show signL.length = 26 from rfl]; omega
  have hx := List.getElem?_eq_getElem hlt
  refine Ix_in i hi (by omega) ?_
  conv => whnf
  refine Ld_src (j := i) hsrc (v := .string signL[i]) (by rw [List.getElem?_map, hx]; rfl) ?_
  (repeat first | refine goN ?_ | ((try conv => whnf); first | (refine Ar_gate ?_; first | (fail_if_success skip) | refine xA ?_) | (first | refine Do_str_eq ?_ | refine Do_str_ne ?_ | refine DoN_len tok rfl ?_ | refine Eqv_in ?_)) | ((try conv => whnf); (first | (refine St_gate ?_; refine xS ?_) | (refine StN_gate ?_; refine xN ?_)); clear H; intro w H))
  refine Ret_in ⟨?_, H.tail⟩
  rw [hi, Int.toNat_natCast, hx]
  rfl
def opsL : List Value := (List.range 30).map fun k : Nat => .int .i64 ((k : Int) + 1)
theorem Do_ops {i : Nat} {w : World} {K : Value → World → Prop} (hi : i < 30) (hk : K (.int .i64 ((i : Int) + 1)) w) : Do Tryd.prog (Instr.index 39 (.agg opsL.toArray) (.int .i64 (i : Int))) w K := by
  refine ⟨_, w, ?_, hk⟩
  have hx : opsL[i]? = some (.int .i64 ((i : Int) + 1)) := by
    unfold opsL
    rw [List.getElem?_map, List.getElem?_range hi]
    rfl
  unfold Instr.index
  simp [asIntOf, run_underlying Tryd.underlying39, Tryd.sizeOf3, part, Tryd.isAgg3, hi, hx]
def zE (op : Int) : Ex := .mk op 0 ⟨#[]⟩ none 0 0 0 []
def zD : De := ⟨⟨#[]⟩, ⟨#[]⟩, 0, 0, none, 0, 0, 0, []⟩
def zS : So := ⟨none, 0, none, 0, none, 0, [], [], []⟩
def oneS (a : Addr) : So := ⟨none, 0, some a, 1, none, 0, [], [zD], []⟩
theorem zE_0 : writB (zE 0) = false := by
  unfold writB
  rw [right_eq]
  rfl
theorem zE_4 : writB (zE 4) = false := by
  unfold writB
  rw [var_eq]
  show (_ && !(true || _)) = false
  simp
theorem zE_bulk (op : Int) : bulk (zE op) ≤ 2000000 := by
  rw [bulk_eq]
  show 7 + 0 + 0 ≤ _
  decide
theorem zS_ok : soB zS = true := rfl
theorem one_no (a : Addr) : soB (oneS a) = false := rfl
theorem tNames (H : Sep w0 w l) (hp : Pow w0) : Does Tryd.prog 5 #[] w fun v w' => v = .bool true ∧ Sep w0 w' l := by
  refine Does_intro tok (args := []) (Tryd.call5 _ _) Tryd.func5 rfl (by rfl) ?_
  (repeat first | refine goN ?_ | ((try conv => whnf); first | (refine Ar_gate ?_; first | (fail_if_success skip) | refine xA ?_) | (first | refine Do_str_eq ?_ | refine Do_str_ne ?_ | refine DoN_len tok rfl ?_ | refine Eqv_in ?_)) | ((try conv => whnf); (first | (refine St_gate ?_; refine xS ?_) | (refine StN_gate ?_; refine xN ?_)); clear H; intro w H))
  refine Call_of (tExpr (zE 0) H hp (fun _ => TOk.leaf) (zE_bulk 0)) ?_
  clear H
  rintro v1 w ⟨hv, H⟩
  rw [zE_0] at hv
  obtain rfl : v1 = .tuple #[.string (str []), .int .i64 141] := hv
  (repeat first | refine goN ?_ | ((try conv => whnf); first | (refine Ar_gate ?_; first | (fail_if_success skip) | refine xA ?_) | (first | refine Do_str_eq ?_ | refine Do_str_ne ?_ | refine DoN_len tok rfl ?_ | refine Eqv_in ?_)) | ((try conv => whnf); (first | (refine St_gate ?_; refine xS ?_) | (refine StN_gate ?_; refine xN ?_)); clear H; intro w H))
  refine Call_of (tExpr (zE 4) H hp (fun _ => TOk.leaf) (zE_bulk 4)) ?_
  clear H
  rintro v1 w ⟨hv, H⟩
  rw [zE_4] at hv
  obtain rfl : v1 = .tuple #[.string (str []), .int .i64 141] := hv
  (repeat first | refine goN ?_ | ((try conv => whnf); first | (refine Ar_gate ?_; first | (fail_if_success skip) | refine xA ?_) | (first | refine Do_str_eq ?_ | refine Do_str_ne ?_ | refine DoN_len tok rfl ?_ | refine Eqv_in ?_)) | ((try conv => whnf); (first | (refine St_gate ?_; refine xS ?_) | (refine StN_gate ?_; refine xN ?_)); clear H; intro w H))
  refine make_sep tok H rfl rfl rfl rfl rfl (by decide) 1 1 rfl rfl (by omega) (by omega) (by unfold maxLen; omega) ?_
  clear H
  intro na w H
  (repeat first | refine goN ?_ | ((try conv => whnf); first | (refine Ar_gate ?_; first | (fail_if_success skip) | refine xA ?_) | (first | refine Do_str_eq ?_ | refine Do_str_ne ?_ | refine DoN_len tok rfl ?_ | refine Eqv_in ?_)) | ((try conv => whnf); (first | (refine St_gate ?_; refine xS ?_) | (refine StN_gate ?_; refine xN ?_)); clear H; intro w H))
  replace H : Sep w0 w (ownR (some ⟨na, 0, none⟩) 1 1 62 7 (deV zD) :: l) := H
  have hnone : ∀ (w : World) (sz : Nat), Src w none 0 sz [] := fun w sz => ⟨by simp, fun j u h => by cases h⟩
  have hO : ∀ {w' : World} {l' : List Res}, Sep w0 w' (l' ++ (ownR (some ⟨na, 0, none⟩) 1 1 62 7 (deV zD) :: l)) → SoOk w' (oneS ⟨na, 0, none⟩) := fun {w'} {l'} h =>
    { es := hnone w' 4, vs := h.srcM (List.mem_append_right _ (.head _)), ps := hnone w' 4, en := fun x hx => (by cases hx), pr := fun x hx => (by cases hx),
      de := fun x hx => by
        simp only [oneS, List.mem_cons, List.not_mem_nil, or_false] at hx
        subst hx
        exact ⟨hnone w' 6, fun y hy => by cases hy⟩ }
  refine Call_of (tSource (oneS ⟨na, 0, none⟩) H hp hO (show 4 + 0 + (8 + 0 + 0 + 0 + 0) + 0 ≤ _ by decide)) ?_
  clear H
  rintro v1 w ⟨hv, H⟩
  rw [one_no] at hv
  obtain rfl : v1 = .tuple #[.string (str []), .int .i64 141] := hv
  (repeat first | refine goN ?_ | ((try conv => whnf); first | (refine Ar_gate ?_; first | (fail_if_success skip) | refine xA ?_) | (first | refine Do_str_eq ?_ | refine Do_str_ne ?_ | refine DoN_len tok rfl ?_ | refine Eqv_in ?_)) | ((try conv => whnf); (first | (refine St_gate ?_; refine xS ?_) | (refine StN_gate ?_; refine xN ?_)); clear H; intro w H))
  refine Call_of (tSource zS H hp (fun {w'} {l'} h => { es := hnone w' 4, vs := hnone w' 7, ps := hnone w' 4, en := fun x hx => (by cases hx), de := fun x hx => (by cases hx), pr := fun x hx => (by cases hx) }) (show 4 + 0 + 0 + 0 ≤ _ by decide)) ?_
  clear H
  rintro v1 w ⟨hv, H⟩
  rw [zS_ok] at hv
  obtain rfl : v1 = .tuple #[.string (str []), .int .i64 0] := hv
  (repeat first | refine goN ?_ | ((try conv => whnf); first | (refine Ar_gate ?_; first | (fail_if_success skip) | refine xA ?_) | (first | refine Do_str_eq ?_ | refine Do_str_ne ?_ | refine DoN_len tok rfl ?_ | refine Eqv_in ?_)) | ((try conv => whnf); (first | (refine St_gate ?_; refine xS ?_) | (refine StN_gate ?_; refine xN ?_)); clear H; intro w H))
  (refine Nw_sep H ?_; clear H; intro ob w H; (try simp only [Value.cells, List.toList_toArray, List.append_nil, List.cons_append, List.nil_append] at H))
  (repeat first | refine goN ?_ | ((try conv => whnf); first | (refine Ar_gate ?_; first | (fail_if_success skip) | refine xA ?_) | (first | refine Do_str_eq ?_ | refine Do_str_ne ?_ | refine DoN_len tok rfl ?_ | refine Eqv_in ?_)) | ((try conv => whnf); (first | (refine St_gate ?_; refine xS ?_) | (refine StN_gate ?_; refine xN ?_)); clear H; intro w H))
  refine Loop_intro (fun i : Nat => [(35, .int .i64 (i : Int))]) (fun i w => i ≤ 30 ∧ Sep w0 w (cellsR ob 39 opsL :: ownR (some ⟨na, 0, none⟩) 1 1 62 7 (deV zD) :: l)) (fun i => 30 - i)
    0 ⟨rfl, trivial⟩ ⟨Nat.zero_le _, H⟩ ?_
  clear H
  rintro i w ⟨hi, H⟩
  refine Br_dec (fun k1 => ?_) (fun k1 => ?_)
  · (repeat first | refine goN ?_ | ((try conv => whnf); first | (refine Ar_gate ?_; first | (fail_if_success skip) | refine xA ?_) | (first | refine Do_str_eq ?_ | refine Do_str_ne ?_ | refine DoN_len tok rfl ?_ | refine Eqv_in ?_)) | ((try conv => whnf); (first | (refine St_gate ?_; refine xS ?_) | (refine StN_gate ?_; refine xN ?_)); clear H; intro w H))
    refine Do_ops (i := i) (by omega) ?_
    (repeat first | refine goN ?_ | ((try conv => whnf); first | (refine Ar_gate ?_; first | (fail_if_success skip) | refine xA ?_) | (first | refine Do_str_eq ?_ | refine Do_str_ne ?_ | refine DoN_len tok rfl ?_ | refine Eqv_in ?_)) | ((try conv => whnf); (first | (refine St_gate ?_; refine xS ?_) | (refine StN_gate ?_; refine xN ?_)); clear H; intro w H))
    refine Call_of (tSign ((i : Int) + 1) H) ?_
    clear H
    rintro _ w ⟨rfl, H⟩
    (repeat first | refine goN ?_ | ((try conv => whnf); first | (refine Ar_gate ?_; first | (fail_if_success skip) | refine xA ?_) | (first | refine Do_str_eq ?_ | refine Do_str_ne ?_ | refine DoN_len tok rfl ?_ | refine Eqv_in ?_)) | ((try conv => whnf); (first | (refine St_gate ?_; refine xS ?_) | (refine StN_gate ?_; refine xN ?_)); clear H; intro w H))
    refine Call_of (rSign ((i : Int) + 1) H) ?_
    clear H
    rintro _ w ⟨rfl, H⟩
    (repeat first | refine goN ?_ | ((try conv => whnf); first | (refine Ar_gate ?_; first | (fail_if_success skip) | refine xA ?_) | (first | refine Do_str_eq ?_ | refine Do_str_ne ?_ | refine DoN_len tok rfl ?_ | refine Eqv_in ?_)) | ((try conv => whnf); (first | (refine St_gate ?_; refine xS ?_) | (refine StN_gate ?_; refine xN ?_)); clear H; intro w H))
    refine Br_dec_yes rfl ?_
    (repeat first | refine goN ?_ | ((try conv => whnf); first | (refine Ar_gate ?_; first | (fail_if_success skip) | refine xA ?_) | (first | refine Do_str_eq ?_ | refine Do_str_ne ?_ | refine DoN_len tok rfl ?_ | refine Eqv_in ?_)) | ((try conv => whnf); (first | (refine St_gate ?_; refine xS ?_) | (refine StN_gate ?_; refine xN ?_)); clear H; intro w H))
    exact ⟨i + 1, ⟨congrArg some (vint (by omega)), trivial⟩, ⟨by omega, H⟩, by omega⟩
  · (repeat first | refine goN ?_ | ((try conv => whnf); first | (refine Ar_gate ?_; first | (fail_if_success skip) | refine xA ?_) | (first | refine Do_str_eq ?_ | refine Do_str_ne ?_ | refine DoN_len tok rfl ?_ | refine Eqv_in ?_)) | ((try conv => whnf); (first | (refine St_gate ?_; refine xS ?_) | (refine StN_gate ?_; refine xN ?_)); clear H; intro w H))
    refine Call_of (tAlive H hp) ?_
    clear H
    rintro _ w ⟨rfl, H⟩
    (repeat first | refine goN ?_ | ((try conv => whnf); first | (refine Ar_gate ?_; first | (fail_if_success skip) | refine xA ?_) | (first | refine Do_str_eq ?_ | refine Do_str_ne ?_ | refine DoN_len tok rfl ?_ | refine Eqv_in ?_)) | ((try conv => whnf); (first | (refine St_gate ?_; refine xS ?_) | (refine StN_gate ?_; refine xN ?_)); clear H; intro w H))
    refine Br_dec_yes rfl ?_
    (repeat first | refine goN ?_ | ((try conv => whnf); first | (refine Ar_gate ?_; first | (fail_if_success skip) | refine xA ?_) | (first | refine Do_str_eq ?_ | refine Do_str_ne ?_ | refine DoN_len tok rfl ?_ | refine Eqv_in ?_)) | ((try conv => whnf); (first | (refine St_gate ?_; refine xS ?_) | (refine StN_gate ?_; refine xN ?_)); clear H; intro w H))
    refine Call_of (tSign 31 H) ?_
    clear H
    rintro _ w ⟨rfl, H⟩
    (repeat first | refine goN ?_ | ((try conv => whnf); first | (refine Ar_gate ?_; first | (fail_if_success skip) | refine xA ?_) | (first | refine Do_str_eq ?_ | refine Do_str_ne ?_ | refine DoN_len tok rfl ?_ | refine Eqv_in ?_)) | ((try conv => whnf); (first | (refine St_gate ?_; refine xS ?_) | (refine StN_gate ?_; refine xN ?_)); clear H; intro w H))
    refine Br_dec_yes (by decide +kernel) ?_
    (repeat first | refine goN ?_ | ((try conv => whnf); first | (refine Ar_gate ?_; first | (fail_if_success skip) | refine xA ?_) | (first | refine Do_str_eq ?_ | refine Do_str_ne ?_ | refine DoN_len tok rfl ?_ | refine Eqv_in ?_)) | ((try conv => whnf); (first | (refine St_gate ?_; refine xS ?_) | (refine StN_gate ?_; refine xN ?_)); clear H; intro w H))
    refine Call_of (tSign (-1) H) ?_
    clear H
    rintro _ w ⟨rfl, H⟩
    (repeat first | refine goN ?_ | ((try conv => whnf); first | (refine Ar_gate ?_; first | (fail_if_success skip) | refine xA ?_) | (first | refine Do_str_eq ?_ | refine Do_str_ne ?_ | refine DoN_len tok rfl ?_ | refine Eqv_in ?_)) | ((try conv => whnf); (first | (refine St_gate ?_; refine xS ?_) | (refine StN_gate ?_; refine xN ?_)); clear H; intro w H))
    exact Ret_in ⟨congrArg Value.bool (decide_eq_true (by decide +kernel)), H.tail.tail⟩
end
end Go.Proofs.YthpekiohalejmaaDoor
