/- The reference's cleaning. -/
import Derived.Test.YtkgmgjiomniijaaGreatDoorLitR
set_option linter.unusedVariables false
set_option linter.unusedSimpArgs false
namespace Go.Lit
theorem insL_clean {p out : List Int} {x : Int} (hx : one x = true) (hp : ∀ z ∈ p, one z = true) (h : Clean p out) (hn : x ∉ out) : Clean (p ++ [x]) (insL x out) := by
  have ho : ∀ z ∈ out, one z = true := fun z hz => hp z ((h.mem z).1 hz)
  obtain ⟨h1, h2⟩ := insL_ok hx ho h.asc hn
  refine ⟨h1, fun z => ?_⟩
  rw [h2, h.mem, List.mem_append, List.mem_singleton]
  exact or_comm
theorem skip_clean {p out : List Int} {x : Int} (h : Clean p out) (hn : x ∈ out) : Clean (p ++ [x]) out := by
  refine ⟨h.asc, fun z => ?_⟩
  rw [h.mem, List.mem_append, List.mem_singleton]
  constructor
  · exact .inl
  · rintro (h1 | rfl)
    · exact h1
    · exact (h.mem _).1 hn
/-- Whether a variable is there by both signs, told of the first ones. -/
def bothTo (xs : List Int) (i : Nat) : Bool := (xs.take i).any fun x => decide (-x ∈ xs)
theorem bothTo_all {xs : List Int} : bothTo xs xs.length = bothB xs := by unfold bothTo bothB; rw [List.take_length]
theorem bothTo_next {xs : List Int} {i : Nat} {x : Int} (h : xs[i]? = some x) : bothTo xs (i + 1) = (bothTo xs i || decide (-x ∈ xs)) := by
  unfold bothTo; rw [List.take_add_one, h, List.any_append]; simp
end Go.Lit
namespace Go.Proofs.YtkgmgjiomniijaaGreatDoor
open Go Go.Vc Go.Lit
set_option maxHeartbeats 4000000
set_option maxRecDepth 100000

section
variable {w0 w : World} {l : List Res}

theorem rClean_no {xs : List Int} {a : Option Addr} {c : Nat} (hs : Src w a xs.length 1 (xs.map lV)) (hm : xs.length ≤ maxLen) (ho : xs.all Lit.one = false) : Does Tryz.prog 13 #[.slice a xs.length c] w fun v w' =>
    v = .tuple #[.slice none 0 0, .bool false, .int .i64 11] ∧ w = w' := by
  refine Does_intro tok (Tryz.call13 _ _) Tryz.func13 rfl (by rfl) ?_
  (repeat first | refine go ?_ | ((try conv => whnf); (first | (refine St_gate ?_; refine xS ?_) | (refine StN_gate ?_; refine xN ?_)); clear H; intro w H))
  refine Call_of (rRight hs (by unfold maxLen at hm; omega)) ?_
  rintro _ _ ⟨rfl, rfl⟩
  rw [ho]
  (repeat first | refine go ?_ | ((try conv => whnf); (first | (refine St_gate ?_; refine xS ?_) | (refine StN_gate ?_; refine xN ?_)); clear H; intro w H))
  exact Ret_in ⟨rfl, rfl⟩

theorem rClean {xs : List Int} {a : Option Addr} {c : Nat} (H : Sep w0 w l) (hs : ∀ {w' : World} {l' : List Res}, Sep w0 w' (l' ++ l) → Src w' a xs.length 1 (xs.map lV)) (hm : xs.length ≤ 35184372087808) (ho : ∀ x ∈ xs, Lit.one x = true) : Does Tryz.prog 13 #[.slice a xs.length c] w fun v w' =>
    ∃ a' c' out, v = .tuple #[.slice a' out.length c', .bool (bothB xs), .int .i64 0] ∧ Lit.Clean xs out ∧ out.length ≤ xs.length ∧ Sep w0 w' (ownR a' out.length c' 41 1 (out.map lV) :: l) := by
  refine Does_intro tok (Tryz.call13 _ _) Tryz.func13 rfl (by rfl) ?_
  (repeat first | refine go ?_ | ((try conv => whnf); (first | (refine St_gate ?_; refine xS ?_) | (refine StN_gate ?_; refine xN ?_)); clear H; intro w H))
  refine Call_of (rRight (hs (l' := []) H) (by omega)) ?_
  rintro _ _ ⟨rfl, rfl⟩
  rw [List.all_eq_true.2 ho]
  (repeat first | refine go ?_ | ((try conv => whnf); (first | (refine St_gate ?_; refine xS ?_) | (refine StN_gate ?_; refine xN ?_)); clear H; intro w H))
  (refine Nw_sep H ?_; clear H; intro ob w H; (try simp only [Value.cells, List.toList_toArray, List.append_nil, List.cons_append, List.nil_append] at H))
  replace H := H.row 0 0 1 rfl rfl (by decide) (by simp only [List.set_cons_succ, List.set_cons_zero]; rfl)
  (repeat first | refine go ?_ | ((try conv => whnf); (first | (refine St_gate ?_; refine xS ?_) | (refine StN_gate ?_; refine xN ?_)); clear H; intro w H))
  refine Loop_intro (fun s : Nat × Option Addr × Nat × List Int => [(19, .int .i64 (s.1 : Int)), (5, .slice s.2.1 s.2.2.2.length s.2.2.1), (6, .bool (bothTo xs s.1))])
    (fun s w => s.1 ≤ xs.length ∧ Lit.Clean (xs.take s.1) s.2.2.2 ∧ s.2.2.2.length ≤ s.1 ∧ Sep w0 w (ownR s.2.1 s.2.2.2.length s.2.2.1 41 1 (s.2.2.2.map lV) :: l)) (fun s => xs.length - s.1) (0, _, _, []) ⟨rfl, rfl, rfl, trivial⟩ ⟨Nat.zero_le _, ⟨List.Pairwise.nil, fun x => by simp⟩, Nat.le_refl _, H⟩ ?_
  clear H
  rintro ⟨i, a1, c1, out⟩ w ⟨hi, hcl, hol, H⟩
  simp only [] at hi hcl hol H ⊢
  refine Br_dec (fun k1 => ?_) (fun k1 => ?_)
  · have hlt : i < xs.length := by omega
    have hsrc := hs (l' := [_]) H
    obtain ⟨sb, so, rfl⟩ := hsrc.addr (by rw [List.length_map]; omega)
    have hx : xs[i]? = some xs[i] := List.getElem?_eq_getElem hlt
    have hx1 := ho xs[i] (List.getElem_mem hlt)
    have hb := bothTo_next hx
    have ht : xs.take (i + 1) = xs.take i ++ [xs[i]] := by rw [List.take_add_one, hx]; rfl
    refine Ix_in i rfl hlt ?_
    refine Ld_src (j := i) hsrc (v := lV xs[i]) (by rw [List.getElem?_map, hx]; rfl) ?_
    clear hsrc
    generalize xs[i] = x at *
    have hx2 := one_iff.1 hx1
    have hp1 : ∀ z ∈ xs.take i, Lit.one z = true := fun z hz => ho z (List.mem_of_mem_take hz)
    (repeat first | refine go ?_ | ((try conv => whnf); (first | (refine St_gate ?_; refine xS ?_) | (refine StN_gate ?_; refine xN ?_)); clear H; intro w H))
    have hbn : bothTo xs i = true ∨ bothTo xs i = false := by cases bothTo xs i <;> simp
    rcases hbn with hbt | hbt
    case' inl => rw [hbt]; (repeat first | refine go ?_ | ((try conv => whnf); (first | (refine St_gate ?_; refine xS ?_) | (refine StN_gate ?_; refine xN ?_)); clear H; intro w H))
    case' inr =>
      rw [hbt]
      (repeat first | refine go ?_ | ((try conv => whnf); (first | (refine St_gate ?_; refine xS ?_) | (refine StN_gate ?_; refine xN ?_)); clear H; intro w H))
      rw [Int.zero_sub]
      refine Call_of (rHas (y := -x) (hs (l' := [_]) H) (by omega)) ?_
      rintro _ _ ⟨rfl, rfl⟩
      (repeat first | refine go ?_ | ((try conv => whnf); (first | (refine St_gate ?_; refine xS ?_) | (refine StN_gate ?_; refine xN ?_)); clear H; intro w H))
    all_goals
      refine Call_of (rHas (y := x) (H.srcM (.head _)) (by omega)) ?_
      rintro _ _ ⟨rfl, rfl⟩
      cases hh : decide (x ∈ out)
      case true =>
        (repeat first | refine go ?_ | ((try conv => whnf); (first | (refine St_gate ?_; refine xS ?_) | (refine StN_gate ?_; refine xN ?_)); clear H; intro w H))
        exact ⟨(i + 1, a1, c1, out), ⟨congrArg some (vint (by simp)), rfl, congrArg some (vbool (by rw [hb, hbt]; simp)), trivial⟩, ⟨by omega, by rw [ht]; exact skip_clean hcl (of_decide_eq_true hh), by simp; omega, H⟩, by simp; omega⟩
      case false =>
        have hcl2 := insL_clean hx1 hp1 hcl (of_decide_eq_false hh)
        have hil := insTo_len (x := x) (p := out)
        have hinL : insL x out = if (insTo x out).2 then (insTo x out).1 else (insTo x out).1 ++ [x] := rfl
        (repeat first | refine go ?_ | ((try conv => whnf); (first | (refine St_gate ?_; refine xS ?_) | (refine StN_gate ?_; refine xN ?_)); clear H; intro w H))
        (refine Nw_sep H ?_; clear H; intro nb w H; (try simp only [Value.cells, List.toList_toArray, List.append_nil, List.cons_append, List.nil_append] at H))
        replace H := H.row 0 0 1 rfl rfl (by decide) (by simp only [List.set_cons_succ, List.set_cons_zero]; rfl)
        (repeat first | refine go ?_ | ((try conv => whnf); (first | (refine St_gate ?_; refine xS ?_) | (refine StN_gate ?_; refine xN ?_)); clear H; intro w H))
        refine Loop_intro (fun s : Nat × Option Addr × Nat => [(36, .int .i64 (s.1 : Int)), (9, .slice s.2.1 (insTo x (out.take s.1)).1.length s.2.2), (10, .bool (insTo x (out.take s.1)).2)])
          (fun s w => s.1 ≤ out.length ∧ Sep w0 w (ownR s.2.1 (insTo x (out.take s.1)).1.length s.2.2 41 1 ((insTo x (out.take s.1)).1.map lV) :: ownR a1 out.length c1 41 1 (out.map lV) :: l)) (fun s => out.length - s.1) (0, _, _) ⟨rfl, rfl, rfl, trivial⟩ ⟨Nat.zero_le _, H⟩ ?_
        clear H
        rintro ⟨j, a2, c2⟩ w ⟨hj, H⟩
        simp only [] at hj H ⊢
        refine Br_dec (fun k2 => ?_) (fun k2 => ?_)
        · have hlt2 : j < out.length := by omega
          obtain ⟨b1, rfl⟩ := (H.ownM (hm := .tail _ (.head _))).some (by omega)
          have hy : out[j]? = some out[j] := List.getElem?_eq_getElem hlt2
          have hy1 := hp1 out[j] ((hcl.mem _).1 (List.getElem_mem hlt2))
          have ht2 : out.take (j + 1) = out.take j ++ [out[j]] := by rw [List.take_add_one, hy]; rfl
          have hjl := (insTo_len (x := x) (p := out.take j)).1
          rw [List.length_take] at hjl
          have hst : insTo x (out.take (j + 1)) = insStep x (insTo x (out.take j)) out[j] := by rw [ht2, insTo_snoc]
          refine Ix_in j rfl hlt2 ?_
          refine Ld_mO H mm (v := lV out[j]) (by rw [List.getElem?_map, hy]; rfl) ?_
          generalize out[j] = y at *
          generalize insTo x (out.take j) = st at *
          obtain ⟨nx, put⟩ := st
          simp only [] at H hjl ⊢
          unfold insStep at hst
          simp only [] at hst
          have e3 : nx.map lV ++ [lV y] = (nx ++ [y]).map lV := by simp
          have e4 : (nx ++ [x]).map lV ++ [lV y] = (nx ++ [x] ++ [y]).map lV := by simp
          have e5 : nx.map lV ++ [lV x] = (nx ++ [x]).map lV := by simp
          have e7 : (nx ++ [x] ++ [y]).length = (nx ++ [x]).length + 1 := by simp
          cases put with
          | true =>
            rw [if_neg (fun h => Bool.noConfusion h.1)] at hst
            (repeat first | refine go ?_ | ((try conv => whnf); (first | (refine St_gate ?_; refine xS ?_) | (refine StN_gate ?_; refine xN ?_)); clear H; intro w H))
            (refine Nw_sep H ?_; clear H; intro nb2 w H; (try simp only [Value.cells, List.toList_toArray, List.append_nil, List.cons_append, List.nil_append] at H))
            (repeat first | refine go ?_ | ((try conv => whnf); (first | (refine St_gate ?_; refine xS ?_) | (refine StN_gate ?_; refine xN ?_)); clear H; intro w H))
            (refine DoN_gate ?_; refine append_one tok H rfl rfl rfl rfl rfl (by decide) mm (m := 1) rfl (by simp [oneCell]) (by omega) (by unfold maxLen; omega) ?_; clear H; intro a3 c3 w H; replace H := H _ (by repeat first | exact Upd.head | apply Upd.tail))
            (repeat first | refine go ?_ | ((try conv => whnf); (first | (refine St_gate ?_; refine xS ?_) | (refine StN_gate ?_; refine xN ?_)); clear H; intro w H))
            rw [e3] at H
            exact ⟨(j + 1, a3, c3), ⟨congrArg some (vint (by simp)), by simp only []; rw [hst, List.length_append]; rfl, by simp only []; rw [hst]; rfl, trivial⟩, ⟨by simp; omega, by simp only []; rw [hst, List.length_append]; exact H⟩, by simp; omega⟩
          | false =>
            (repeat first | refine go ?_ | ((try conv => whnf); (first | (refine St_gate ?_; refine xS ?_) | (refine StN_gate ?_; refine xN ?_)); clear H; intro w H))
            refine Call_of (rBefore hx1 hy1 w) ?_
            rintro _ _ ⟨rfl, rfl⟩
            by_cases hpl : place x < place y
            · rw [if_pos ⟨rfl, hpl⟩] at hst
              rw [decide_eq_true hpl]
              (repeat first | refine go ?_ | ((try conv => whnf); (first | (refine St_gate ?_; refine xS ?_) | (refine StN_gate ?_; refine xN ?_)); clear H; intro w H))
              (refine Nw_sep H ?_; clear H; intro nb2 w H; (try simp only [Value.cells, List.toList_toArray, List.append_nil, List.cons_append, List.nil_append] at H))
              (repeat first | refine go ?_ | ((try conv => whnf); (first | (refine St_gate ?_; refine xS ?_) | (refine StN_gate ?_; refine xN ?_)); clear H; intro w H))
              (refine DoN_gate ?_; refine append_one tok H rfl rfl rfl rfl rfl (by decide) mm (m := 1) rfl (by simp [oneCell]) (by omega) (by unfold maxLen; omega) ?_; clear H; intro a3 c3 w H; replace H := H _ (by repeat first | exact Upd.head | apply Upd.tail))
              (repeat first | refine go ?_ | ((try conv => whnf); (first | (refine St_gate ?_; refine xS ?_) | (refine StN_gate ?_; refine xN ?_)); clear H; intro w H))
              rw [e5] at H
              (refine Nw_sep H ?_; clear H; intro nb3 w H; (try simp only [Value.cells, List.toList_toArray, List.append_nil, List.cons_append, List.nil_append] at H))
              (repeat first | refine go ?_ | ((try conv => whnf); (first | (refine St_gate ?_; refine xS ?_) | (refine StN_gate ?_; refine xN ?_)); clear H; intro w H))
              have hl1 : nx.length + 1 = (nx ++ [x]).length := by simp
              rw [hl1] at H ⊢
              (refine DoN_gate ?_; refine append_one tok H rfl rfl rfl rfl rfl (by decide) mm (m := 1) rfl (by simp [oneCell]) (by omega) (by unfold maxLen; omega) ?_; clear H; intro a4 c4 w H; replace H := H _ (by repeat first | exact Upd.head | apply Upd.tail))
              (repeat first | refine go ?_ | ((try conv => whnf); (first | (refine St_gate ?_; refine xS ?_) | (refine StN_gate ?_; refine xN ?_)); clear H; intro w H))
              rw [e4] at H
              exact ⟨(j + 1, a4, c4), ⟨congrArg some (vint (by simp)), by simp only []; rw [hst]; simp only []; rw [e7]; rfl, by simp only []; rw [hst]; rfl, trivial⟩, ⟨by simp; omega, by simp only []; rw [hst]; simp only []; rw [e7]; exact H⟩, by simp; omega⟩
            · rw [if_neg (fun h => hpl h.2)] at hst
              rw [decide_eq_false hpl]
              (repeat first | refine go ?_ | ((try conv => whnf); (first | (refine St_gate ?_; refine xS ?_) | (refine StN_gate ?_; refine xN ?_)); clear H; intro w H))
              (refine Nw_sep H ?_; clear H; intro nb2 w H; (try simp only [Value.cells, List.toList_toArray, List.append_nil, List.cons_append, List.nil_append] at H))
              (repeat first | refine go ?_ | ((try conv => whnf); (first | (refine St_gate ?_; refine xS ?_) | (refine StN_gate ?_; refine xN ?_)); clear H; intro w H))
              (refine DoN_gate ?_; refine append_one tok H rfl rfl rfl rfl rfl (by decide) mm (m := 1) rfl (by simp [oneCell]) (by omega) (by unfold maxLen; omega) ?_; clear H; intro a3 c3 w H; replace H := H _ (by repeat first | exact Upd.head | apply Upd.tail))
              (repeat first | refine go ?_ | ((try conv => whnf); (first | (refine St_gate ?_; refine xS ?_) | (refine StN_gate ?_; refine xN ?_)); clear H; intro w H))
              rw [e3] at H
              exact ⟨(j + 1, a3, c3), ⟨congrArg some (vint (by simp)), by simp only []; rw [hst, List.length_append]; rfl, by simp only []; rw [hst]; rfl, trivial⟩, ⟨by simp; omega, by simp only []; rw [hst, List.length_append]; exact H⟩, by simp; omega⟩
        · obtain rfl : j = out.length := by omega
          rw [List.take_length] at H ⊢
          cases hp : (insTo x out).2 with
          | true =>
            rw [hp, if_pos rfl] at hinL
            rw [← hinL] at H ⊢
            have hlen : (insL x out).length ≤ i + 1 := by rw [hinL]; omega
            (repeat first | refine go ?_ | ((try conv => whnf); (first | (refine St_gate ?_; refine xS ?_) | (refine StN_gate ?_; refine xN ?_)); clear H; intro w H))
            refine ⟨(i + 1, a2, c2, insL x out), ⟨congrArg some (vint (by simp)), rfl, congrArg some (vbool (by rw [hb, hbt]; simp)), trivial⟩, ⟨by simp; omega, by rw [ht]; exact hcl2, by simp; omega, H.drop 1 rfl rfl⟩, by simp; omega⟩
          | false =>
            rw [hp, if_neg Bool.false_ne_true] at hinL
            have hlen : (insL x out).length ≤ i + 1 := by rw [hinL, List.length_append, hil.2 hp]; simp; omega
            have e5 : (insTo x out).1.map lV ++ [lV x] = (insL x out).map lV := by rw [hinL]; simp
            have e6 : (insTo x out).1.length + 1 = (insL x out).length := by rw [hinL]; simp
            have hle := hil.1
            (repeat first | refine go ?_ | ((try conv => whnf); (first | (refine St_gate ?_; refine xS ?_) | (refine StN_gate ?_; refine xN ?_)); clear H; intro w H))
            (refine Nw_sep H ?_; clear H; intro nb2 w H; (try simp only [Value.cells, List.toList_toArray, List.append_nil, List.cons_append, List.nil_append] at H))
            (repeat first | refine go ?_ | ((try conv => whnf); (first | (refine St_gate ?_; refine xS ?_) | (refine StN_gate ?_; refine xN ?_)); clear H; intro w H))
            (refine DoN_gate ?_; refine append_one tok H rfl rfl rfl rfl rfl (by decide) mm (m := 1) rfl (by simp [oneCell]) (by omega) (by unfold maxLen; omega) ?_; clear H; intro a3 c3 w H; replace H := H _ (by repeat first | exact Upd.head | apply Upd.tail))
            (repeat first | refine go ?_ | ((try conv => whnf); (first | (refine St_gate ?_; refine xS ?_) | (refine StN_gate ?_; refine xN ?_)); clear H; intro w H))
            rw [e5, e6] at H
            rw [e6]
            refine ⟨(i + 1, a3, c3, insL x out), ⟨congrArg some (vint (by simp)), rfl, congrArg some (vbool (by rw [hb, hbt]; simp)), trivial⟩, ⟨by simp; omega, by rw [ht]; exact hcl2, by simp; omega, H.drop 1 rfl rfl⟩, by simp; omega⟩
  · obtain rfl : i = xs.length := by omega
    rw [List.take_length] at hcl
    rw [bothTo_all]
    (repeat first | refine go ?_ | ((try conv => whnf); (first | (refine St_gate ?_; refine xS ?_) | (refine StN_gate ?_; refine xN ?_)); clear H; intro w H))
    exact Ret_in ⟨a1, c1, out, rfl, hcl, hol, H⟩
end
end Go.Proofs.YtkgmgjiomniijaaGreatDoor
