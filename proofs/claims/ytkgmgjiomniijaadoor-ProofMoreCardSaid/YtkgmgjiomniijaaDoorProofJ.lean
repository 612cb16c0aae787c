/- The law's function: a proof is one of a formula with more clauses, too; each of its beginnings is one. -/
import Derived.Test.YtkgmgjiomniijaaDoorProofN
set_option linter.unusedVariables false
set_option linter.unusedSimpArgs false
namespace Go.Watch
section
variable {z : Int} {C M K1 K2 : List (List Int)} {L : List (Bool × List Int)} {o1 o2 : Option Nat}
def CleanL (C K : List (List Int)) : Prop := K.length = C.length ∧ ∀ (i : Nat) c k, C[i]? = some c → K[i]? = some k → Lit.Clean c k
theorem clean_pre (ho : ∀ c ∈ C, ∀ x ∈ c, Lit.one x = true) (h1 : CleanL C K1) (h2 : CleanL (C ++ M) K2) : ∃ R, K2 = K1 ++ R := by
  refine ⟨K2.drop C.length, ?_⟩
  have e : K2.take C.length = K1 := by
    apply List.ext_getElem?
    intro i
    have hl : C.length ≤ K2.length := by rw [h2.1, List.length_append]; omega
    by_cases hi : i < C.length
    · rw [List.getElem?_take, if_pos hi]
      have a1 : K1[i]? = some (K1[i]'(by rw [h1.1]; exact hi)) := List.getElem?_eq_getElem _
      have a2 : K2[i]? = some (K2[i]'(by omega)) := List.getElem?_eq_getElem _
      have ac : C[i]? = some C[i] := List.getElem?_eq_getElem hi
      have ac2 : (C ++ M)[i]? = some C[i] := by rw [List.getElem?_append_left hi]; exact ac
      rw [a1, a2]
      exact congrArg some (Lit.Clean.same (ho _ (List.getElem_mem hi)) (h2.2 i _ _ ac2 a2) (h1.2 i _ _ ac a1) fun x => Iff.rfl)
    · rw [List.getElem?_take, if_neg hi, List.getElem?_eq_none (by rw [h1.1]; omega)]
  rw [← e, List.take_append_drop]
theorem clean_same (ho : ∀ c ∈ C, ∀ x ∈ c, Lit.one x = true) (h1 : CleanL C K1) (h2 : CleanL C K2) : K2 = K1 := by
  obtain ⟨R, rfl⟩ := clean_pre (M := []) ho h1 (by rw [List.append_nil]; exact h2)
  have := h2.1
  rw [List.length_append, h1.1] at this
  have : R = [] := List.length_eq_zero_iff.1 (by omega)
  rw [this, List.append_nil]
theorem more_none (ho : ∀ c ∈ C, ∀ x ∈ c, Lit.one x = true) (h1 : CleanL C K1) (h2 : CleanL (C ++ M) K2) (r1 : Run (K1.map fun k => (k, true)) L none) (r2 : Run (K2.map fun k => (k, true)) L o2) : o2 = none := by
  obtain ⟨R, rfl⟩ := clean_pre ho h1 h2
  refine Run.more r1 (fun k => ?_) r2
  rw [List.map_append, List.count_append]
  omega
end
end Go.Watch
namespace Go.Proofs.YtkgmgjiomniijaaDoor
open Go Go.Vc Go.Watch Go.Lit
open Go.Trail (Ent value find upto okLit litsV)
set_option maxHeartbeats 4000000
set_option maxRecDepth 100000
theorem fit_one {z : Int} {c : List Int} (h : fitZ z c = true) : ∀ x ∈ c, Lit.one x = true := fun x hx => by
  unfold fitZ at h
  have := List.all_eq_true.1 h x hx
  rw [Bool.and_eq_true] at this
  exact this.1
theorem open_bits {z : Int} {C : List (List Int)} {L : List (List Int)} (h : openZ z C L [] = true) : (∀ c ∈ C, ∀ x ∈ c, Lit.one x = true) ∧ ∀ c ∈ L, ∀ x ∈ c, Lit.one x = true := by
  unfold openZ rightZ at h
  simp only [Bool.and_eq_true] at h
  obtain ⟨⟨⟨_, hfC⟩, _⟩, hfL, _⟩ := h
  exact ⟨fun c hc x hx => fit_one (List.all_eq_true.1 hfC c hc) x hx, fun c hc x hx => fit_one (List.all_eq_true.1 hfL c hc) x hx⟩
theorem open_take {z : Int} {C : List (List Int)} {G : List Stp} (h : openZ z C (logL G) [] = true) (k : Nat) : openZ z C (logL (G.take k)) [] = true := by
  unfold openZ at h ⊢
  simp only [Bool.and_eq_true] at h ⊢
  refine ⟨h.1, ?_, h.2.2⟩
  have := h.2.1
  rw [List.all_eq_true] at this ⊢
  intro c hc
  refine this c ?_
  unfold logL at hc ⊢
  rw [List.map_take] at hc
  exact List.mem_of_mem_take hc
section
variable {w0 w : World} {l : List Res} {z : Int} {C M : List (List Int)} {R RM : List Fl} {ca ma : Option Addr} {cc mc : Nat} {G : List Stp} {la : Option Addr} {lc : Nat}
theorem LSrc.take {w : World} {a : Option Addr} {G : List Stp} (h : LSrc w a G) {k : Nat} (hk : k ≤ G.length) : LSrc w a (G.take k) := by
  refine ⟨?_, fun x hx => h.each x (List.mem_of_mem_take hx)⟩
  obtain ⟨h1, h2⟩ := h.rows
  have e : (G.take k).flatMap stepV = (G.flatMap stepV).take (k * 2) := by
    have := rowLen (f := stepV) (sz := 2) stepV_len (G.take k)
    rw [List.length_take, Nat.min_eq_left hk] at this
    conv => rhs; rw [← List.take_append_drop k G, List.flatMap_append, List.take_append_of_le_length (by omega), List.take_of_length_le (by omega)]
  refine ⟨by rw [rowLen stepV_len], fun j u hj => ?_⟩
  rw [e, List.getElem?_take] at hj
  split at hj
  · exact h2 j u hj
  · cases hj
theorem pMore (H : Sep w0 w l) (hp : Pow w0) (hs : ∀ {w' : World} {l' : List Res}, Sep w0 w' (l' ++ l) → FSrc w' ca C R) (hcap : C.length ≤ cc) (hl : ∀ {w' : World} {l' : List Res}, Sep w0 w' (l' ++ l) → LSrc w' la G) (hlc : G.length ≤ lc)
    (hm : ∀ {w' : World} {l' : List Res}, Sep w0 w' (l' ++ l) → FSrc w' ma M RM) (hml : M.length ≤ 9223372036854775807) (hmm : ∀ x ∈ RM, x.2.2.length ≤ 35184372087808) :
    Does Tryd.prog 3 #[.agg #[.int .i64 z, .slice ca C.length cc], .slice la G.length lc, .slice ma M.length mc] w fun v w' => v = .bool true ∧ Sep w0 w' l := by
  refine Does_intro tok (Tryd.call3 _ _) Tryd.func3 rfl (by rfl) ?_
  (repeat first | refine go ?_ | ((try conv => whnf); (first | (refine St_gate ?_; refine xS ?_) | (refine StN_gate ?_; refine xN ?_)); clear H; intro w H))
  (refine Nw_sep H ?_; clear H; intro fb w H; (try simp only [Value.cells, List.toList_toArray, List.append_nil, List.cons_append, List.nil_append] at H))
  (repeat first | refine go ?_ | ((try conv => whnf); (first | (refine St_gate ?_; refine xS ?_) | (refine StN_gate ?_; refine xN ?_)); clear H; intro w H))
  refine Call_of (pAlive H hp) ?_
  clear H
  rintro _ w ⟨rfl, H⟩
  (repeat first | refine go ?_ | ((try conv => whnf); (first | (refine St_gate ?_; refine xS ?_) | (refine StN_gate ?_; refine xN ?_)); clear H; intro w H))
  refine Call_of (gGreat H (fun {w'} {l'} h => hs (l' := l' ++ [_]) (by simpa using h)) hcap (fun {w'} {l'} h => hl (l' := l' ++ [_]) (by simpa using h))) ?_
  clear H
  rintro _ w ⟨b, rfl, hb, H⟩
  cases b with
  | true =>
    (repeat first | refine go ?_ | ((try conv => whnf); (first | (refine St_gate ?_; refine xS ?_) | (refine StN_gate ?_; refine xN ?_)); clear H; intro w H))
    exact Ret_in ⟨rfl, H.tail⟩
  | false =>
    obtain ⟨hz, hC, hG, hc20, hg20⟩ := hb rfl
    by_cases hm10 : 10 < M.length
    · (repeat first | refine go ?_ | ((try conv => whnf); (first | (refine St_gate ?_; refine xS ?_) | (refine StN_gate ?_; refine xN ?_)); clear H; intro w H))
      exact Ret_in ⟨rfl, H.tail⟩
    have hsm : ∀ x ∈ R, x.2.2.length ≤ 35184372087808 := fun x hx => by
      have := hc20 x.2.2 (by rw [← (hs (l' := [_]) H).eq]; exact List.mem_map.2 ⟨x, hx, rfl⟩)
      omega
    have hgl : ∀ x ∈ G, x.2.2.2.length ≤ 900000 := fun x hx => by have := hg20 x hx; omega
    (repeat first | refine go ?_ | ((try conv => whnf); (first | (refine St_gate ?_; refine xS ?_) | (refine StN_gate ?_; refine xN ?_)); clear H; intro w H))
    refine Call_of (pCheck H hp (fun {w'} {l'} h => hs (l' := l' ++ [_]) (by simpa using h)) hsm (by omega) (fun {w'} {l'} h => hl (l' := l' ++ [_]) (by simpa using h)) (by omega) hgl hz) ?_
    clear H
    rintro v0 w ⟨hv, H⟩
    obtain ⟨nv, e, rfl, hfact⟩ : ∃ nv e : Int, v0 = .tuple #[.int .i64 nv, .int .i64 e] ∧ (e = 91 ∨ e = 0 ∧ ∃ (K : List (List Int)) (o : Option Nat), nv = outV o ∧ openZ z C (logL G) [] = true ∧ CleanL C K ∧ ∀ L, Steps G L → Run (K.map fun k => (k, true)) L o) := by
      rcases hv with ⟨_, rfl⟩ | ⟨ho, n', K, o, _, _, rfl, hK, hc, hr⟩
      · exact ⟨_, _, rfl, .inl rfl⟩
      · exact ⟨_, _, rfl, .inr ⟨rfl, K, o, rfl, ho, ⟨hK, hc⟩, hr⟩⟩
    clear hv
    (repeat first | refine go ?_ | ((try conv => whnf); (first | (refine St_gate ?_; refine xS ?_) | (refine StN_gate ?_; refine xN ?_)); clear H; intro w H))
    refine Draw_tree mixed (Tr.row [0, 1, 3, 4, 6] (.alt (.step 2 (.alt (.step 5 (.alt (.step 7 (Tr.row [8, 9, 10] .done)) (.step 9 (Tr.row [7, 8, 10] .done)))) (.step 9 (Tr.row [5, 7, 8, 10] .done)))) (.step 9 (Tr.row [2, 5, 7, 8, 10] .done)))) (by decide +kernel) (fun w _ fd => ?_); replace H := H.fr fd; clear fd
    (repeat first | refine go ?_ | ((try conv => whnf); (first | (refine St_gate ?_; refine xS ?_) | (refine StN_gate ?_; refine xN ?_)); clear H; intro w H))
    have hones : ∀ Q : List Fl, ∀ u ∈ Q.map flV, oneCell u = true := fun Q u hu => by
      obtain ⟨x, _, rfl⟩ := List.mem_map.1 hu; rfl
    have hRl : R.length = C.length := (hs (l' := [_]) H).len
    refine Both_in ?a1 ?a2
    case' a1 =>
      (refine Nw_sep H ?_; clear H; intro ob w H; (try simp only [Value.cells, List.toList_toArray, List.append_nil, List.cons_append, List.nil_append] at H))
      (try conv => whnf)
      (repeat (refine Kept_gate ?_; refine xK ?_))
      (repeat first | refine go ?_ | ((try conv => whnf); (first | (refine St_gate ?_; refine xS ?_) | (refine StN_gate ?_; refine xN ?_)); clear H; intro w H))
      refine Both_in ?b1 ?b2
      case' b1 =>
        refine DoN_gate ?_
        refine append_new tok H rfl rfl rfl rfl rfl (by decide) mm (hs (l' := [_, _]) H).rows (hones R) (by omega) (by unfold maxLen; omega) ?_
        clear H; intro a1 c1 w H; replace H := H _ (by repeat first | exact Upd.head | apply Upd.tail)
        (try conv => whnf)
        (repeat (refine Kept_gate ?_; refine xK ?_))
        (repeat first | refine go ?_ | ((try conv => whnf); (first | (refine St_gate ?_; refine xS ?_) | (refine StN_gate ?_; refine xN ?_)); clear H; intro w H))
        refine Both_in ?c1 ?c2
        case' c1 =>
          refine DoN_gate ?_
          refine append_sep tok H rfl rfl rfl rfl rfl (by decide) mm (hm (l' := [_, _]) H).rows (hones _) (by omega) (by unfold maxLen; omega) rfl (List.map_append).symm ?_
          clear H; intro a2 c2 w H; replace H := H _ (by repeat first | exact Upd.head | apply Upd.tail)
          (try conv => whnf)
          (repeat (refine Kept_gate ?_; refine xK ?_))
          (repeat first | refine go ?_ | ((try conv => whnf); (first | (refine St_gate ?_; refine xS ?_) | (refine StN_gate ?_; refine xN ?_)); clear H; intro w H))
          (refine Nw_sep H ?_; clear H; intro gb w H; (try simp only [Value.cells, List.toList_toArray, List.append_nil, List.cons_append, List.nil_append] at H))
          (repeat first | refine go ?_ | ((try conv => whnf); (first | (refine St_gate ?_; refine xS ?_) | (refine StN_gate ?_; refine xN ?_)); clear H; intro w H))
        case' c2 =>
          (refine Nw_sep H ?_; clear H; intro gb w H; (try simp only [Value.cells, List.toList_toArray, List.append_nil, List.cons_append, List.nil_append] at H))
          (try conv => whnf)
          (repeat (refine Kept_gate ?_; refine xK ?_))
          (repeat first | refine go ?_ | ((try conv => whnf); (first | (refine St_gate ?_; refine xS ?_) | (refine StN_gate ?_; refine xN ?_)); clear H; intro w H))
          refine DoN_gate ?_
          refine append_sep tok H rfl rfl rfl rfl rfl (by decide) mm (hm (l' := [_, _, _]) H).rows (hones _) (by omega) (by unfold maxLen; omega) rfl (List.map_append).symm ?_
          clear H; intro a2 c2 w H; replace H := H _ (by repeat first | exact Upd.head | apply Upd.tail)
          (repeat first | refine go ?_ | ((try conv => whnf); (first | (refine St_gate ?_; refine xS ?_) | (refine StN_gate ?_; refine xN ?_)); clear H; intro w H))
      case' b2 =>
        (refine Nw_sep H ?_; clear H; intro gb w H; (try simp only [Value.cells, List.toList_toArray, List.append_nil, List.cons_append, List.nil_append] at H))
        (try conv => whnf)
        (repeat (refine Kept_gate ?_; refine xK ?_))
        (repeat first | refine go ?_ | ((try conv => whnf); (first | (refine St_gate ?_; refine xS ?_) | (refine StN_gate ?_; refine xN ?_)); clear H; intro w H))
        refine DoN_gate ?_
        refine append_new tok H rfl rfl rfl rfl rfl (by decide) mm (hs (l' := [_, _, _]) H).rows (hones R) (by omega) (by unfold maxLen; omega) ?_
        clear H; intro a1 c1 w H; replace H := H _ (by repeat first | exact Upd.head | apply Upd.tail)
        (try conv => whnf)
        (repeat (refine Kept_gate ?_; refine xK ?_))
        (repeat first | refine go ?_ | ((try conv => whnf); (first | (refine St_gate ?_; refine xS ?_) | (refine StN_gate ?_; refine xN ?_)); clear H; intro w H))
        refine DoN_gate ?_
        refine append_sep tok H rfl rfl rfl rfl rfl (by decide) mm (hm (l' := [_, _, _]) H).rows (hones _) (by omega) (by unfold maxLen; omega) rfl (List.map_append).symm ?_
        clear H; intro a2 c2 w H; replace H := H _ (by repeat first | exact Upd.head | apply Upd.tail)
        (repeat first | refine go ?_ | ((try conv => whnf); (first | (refine St_gate ?_; refine xS ?_) | (refine StN_gate ?_; refine xN ?_)); clear H; intro w H))
    case' a2 =>
      (refine Nw_sep H ?_; clear H; intro gb w H; (try simp only [Value.cells, List.toList_toArray, List.append_nil, List.cons_append, List.nil_append] at H))
      (try conv => whnf)
      (repeat (refine Kept_gate ?_; refine xK ?_))
      (repeat first | refine go ?_ | ((try conv => whnf); (first | (refine St_gate ?_; refine xS ?_) | (refine StN_gate ?_; refine xN ?_)); clear H; intro w H))
      (refine Nw_sep H ?_; clear H; intro ob w H; (try simp only [Value.cells, List.toList_toArray, List.append_nil, List.cons_append, List.nil_append] at H))
      (try conv => whnf)
      (repeat (refine Kept_gate ?_; refine xK ?_))
      (repeat first | refine go ?_ | ((try conv => whnf); (first | (refine St_gate ?_; refine xS ?_) | (refine StN_gate ?_; refine xN ?_)); clear H; intro w H))
      refine DoN_gate ?_
      refine append_new tok H rfl rfl rfl rfl rfl (by decide) mm (hs (l' := [_, _, _]) H).rows (hones R) (by omega) (by unfold maxLen; omega) ?_
      clear H; intro a1 c1 w H; replace H := H _ (by repeat first | exact Upd.head | apply Upd.tail)
      (try conv => whnf)
      (repeat (refine Kept_gate ?_; refine xK ?_))
      (repeat first | refine go ?_ | ((try conv => whnf); (first | (refine St_gate ?_; refine xS ?_) | (refine StN_gate ?_; refine xN ?_)); clear H; intro w H))
      refine DoN_gate ?_
      refine append_sep tok H rfl rfl rfl rfl rfl (by decide) mm (hm (l' := [_, _, _]) H).rows (hones _) (by omega) (by unfold maxLen; omega) rfl (List.map_append).symm ?_
      clear H; intro a2 c2 w H; replace H := H _ (by repeat first | exact Upd.head | apply Upd.tail)
      (repeat first | refine go ?_ | ((try conv => whnf); (first | (refine St_gate ?_; refine xS ?_) | (refine StN_gate ?_; refine xN ?_)); clear H; intro w H))
      replace H := H.tp 1
    all_goals
      have hCM : (C ++ M).length = C.length + M.length := List.length_append
      rw [← hCM] at H ⊢
      replace H : Sep w0 w (cellsR gb 24 [.int .i64 z, .slice a2 (C ++ M).length c2] :: ownR a2 (C ++ M).length c2 33 1 ((R ++ RM).map flV) :: cellsR fb 24 [.int .i64 z, .slice ca C.length cc] :: l) := H
      have hF2 : ∀ {w' : World} {l' : List Res}, Sep w0 w' (l' ++ (cellsR gb 24 [.int .i64 z, .slice a2 (C ++ M).length c2] :: ownR a2 (C ++ M).length c2 33 1 ((R ++ RM).map flV) :: cellsR fb 24 [.int .i64 z, .slice ca C.length cc] :: l)) → FSrc w' a2 (C ++ M) (R ++ RM) := fun {w'} {l'} h => by
        have f1 := hs (l' := l' ++ [_, _, _]) (by simpa using h)
        have f2 := hm (l' := l' ++ [_, _, _]) (by simpa using h)
        refine ⟨by rw [List.map_append, f1.eq, f2.eq], h.srcM (List.mem_append_right _ (.tail _ (.head _))), fun x hx => ?_⟩
        rcases List.mem_append.1 hx with hx | hx
        · exact f1.cls x hx
        · exact f2.cls x hx
      have hsm2 : ∀ x ∈ R ++ RM, x.2.2.length ≤ 35184372087808 := fun x hx => by
        rcases List.mem_append.1 hx with hx | hx
        · exact hsm x hx
        · exact hmm x hx
      refine Call_of (pCheck (C := C ++ M) (R := R ++ RM) H hp hF2 hsm2 (by omega) (fun {w'} {l'} h => hl (l' := l' ++ [_, _, _]) (by simpa using h)) (by omega) hgl hz) ?_
      clear H
      rintro v0 w ⟨hv, H⟩
      obtain ⟨mv, h, rfl, hfact2⟩ : ∃ mv h : Int, v0 = .tuple #[.int .i64 mv, .int .i64 h] ∧ (h = 91 ∨ h = 0 ∧ ∃ (K : List (List Int)) (o : Option Nat), mv = outV o ∧ CleanL (C ++ M) K ∧ ∀ L, Steps G L → Run (K.map fun k => (k, true)) L o) := by
        rcases hv with ⟨_, rfl⟩ | ⟨ho, n', K, o, _, _, rfl, hK, hc, hr⟩
        · exact ⟨_, _, rfl, .inl rfl⟩
        · exact ⟨_, _, rfl, .inr ⟨rfl, K, o, rfl, ⟨hK, hc⟩, hr⟩⟩
      clear hv
      rcases hfact with rfl | ⟨rfl, K, o, hnv, ho, hK, hr⟩
      · (repeat first | refine go ?_ | ((try conv => whnf); (first | (refine St_gate ?_; refine xS ?_) | (refine StN_gate ?_; refine xN ?_)); clear H; intro w H))
        exact Ret_in ⟨rfl, H.tail.tail.tail⟩
      rcases hfact2 with rfl | ⟨rfl, K2, o2, hmv, hK2, hr2⟩
      · (repeat first | refine go ?_ | ((try conv => whnf); (first | (refine St_gate ?_; refine xS ?_) | (refine StN_gate ?_; refine xN ?_)); clear H; intro w H))
        exact Ret_in ⟨rfl, H.tail.tail.tail⟩
      obtain ⟨hoC, hoL⟩ := open_bits ho
      obtain ⟨L, hL⟩ := steps_ex (G := G) fun x hx y hy => hoL x.2.2.2 (List.mem_map.2 ⟨x, hx, rfl⟩) y hy
      have hrun := hr L hL
      have hcut : ∀ k K3 o3, CleanL C K3 → (∀ L, Steps (G.take k) L → Run (K3.map fun k => (k, true)) L o3) → o3 = o.bind fun i => if i < k then some i else none := fun k K3 o3 hK3 hr3 => by
        have e := clean_same hoC hK hK3
        subst e
        exact (hr3 _ (Steps.take hL k)).det (hrun.take k)
      cases o with
      | none =>
        obtain rfl : nv = -1 := hnv
        obtain rfl : o2 = none := more_none hoC hK hK2 hrun (hr2 L hL)
        obtain rfl : mv = -1 := hmv
        (repeat first | refine go ?_ | ((try conv => whnf); (first | (refine St_gate ?_; refine xS ?_) | (refine StN_gate ?_; refine xN ?_)); clear H; intro w H))
        refine Loop_intro (fun k : Nat => [(12, .int .i64 (k : Int))]) (fun k w => k ≤ G.length + 1 ∧ Sep w0 w (cellsR gb 24 [.int .i64 z, .slice a2 (C ++ M).length c2] :: ownR a2 (C ++ M).length c2 33 1 ((R ++ RM).map flV) :: cellsR fb 24 [.int .i64 z, .slice ca C.length cc] :: l)) (fun k => G.length + 1 - k)
          0 ⟨rfl, trivial⟩ ⟨Nat.zero_le _, H⟩ ?_
        clear H
        rintro k w ⟨hk, H⟩
        (repeat first | refine go ?_ | ((try conv => whnf); (first | (refine St_gate ?_; refine xS ?_) | (refine StN_gate ?_; refine xN ?_)); clear H; intro w H))
        refine Br_dec (fun k1 => ?_) (fun k1 => ?_)
        · have hkl : k ≤ G.length := by omega
          have hgk : (G.take k).length = k := by rw [List.length_take, Nat.min_eq_left hkl]
          (repeat first | refine go ?_ | ((try conv => whnf); (first | (refine St_gate ?_; refine xS ?_) | (refine StN_gate ?_; refine xN ?_)); clear H; intro w H))
          refine Draw_intro mixed [0, 1, 2, 3, 4, 5, 6, 7, 8, 9] (by decide +kernel) (fun w _ fd => ?_); replace H := H.fr fd; clear fd
          (repeat first | refine go ?_ | ((try conv => whnf); (first | (refine St_gate ?_; refine xS ?_) | (refine StN_gate ?_; refine xN ?_)); clear H; intro w H))
          refine DoS_slice tok rfl rfl 0 k (.inl ⟨rfl, rfl⟩) (.inr ⟨_, rfl⟩) (by omega) (by omega) (fun J1 hJ1 => ?_)
          rw [add_zero_map, Nat.sub_zero, Nat.sub_zero]
          (repeat first | refine go ?_ | ((try conv => whnf); (first | (refine St_gate ?_; refine xS ?_) | (refine StN_gate ?_; refine xN ?_)); clear H; intro w H))
          have hck := pCheck (cc := cc) (G := G.take k) (la := la) (lc := lc) (z := z) H hp (fun {w'} {l'} h => hs (l' := l' ++ [_, _, _]) (by simpa using h)) hsm (by omega) (fun {w'} {l'} h => LSrc.take (hl (l' := l' ++ [_, _, _]) (by simpa using h)) hkl) (by omega) (fun x hx => hgl x (List.mem_of_mem_take hx)) hz
          rw [hgk] at hck
          refine Call_of hck ?_
          clear H hck
          rintro v0 w ⟨hv, H⟩
          rcases hv with ⟨hno, _⟩ | ⟨_, n', K3, o3, _, _, rfl, hK3, hc3, hr3⟩
          · rw [open_take ho] at hno; cases hno
          have ho3 := hcut k K3 o3 ⟨hK3, hc3⟩ hr3
          obtain rfl : o3 = none := ho3
          rw [show outV none = -1 from rfl]
          (repeat first | refine go ?_ | ((try conv => whnf); (first | (refine St_gate ?_; refine xS ?_) | (refine StN_gate ?_; refine xN ?_)); clear H; intro w H))
          exact ⟨k + 1, ⟨congrArg some (vint (by omega)), trivial⟩, ⟨by omega, H⟩, by omega⟩
        · (repeat first | refine go ?_ | ((try conv => whnf); (first | (refine St_gate ?_; refine xS ?_) | (refine StN_gate ?_; refine xN ?_)); clear H; intro w H))
          exact Ret_in ⟨rfl, H.tail.tail.tail⟩
      | some i =>
        obtain rfl : nv = (i : Int) := hnv
        have hi := hrun.lt
        (repeat first | refine go ?_ | ((try conv => whnf); (first | (refine St_gate ?_; refine xS ?_) | (refine StN_gate ?_; refine xN ?_)); clear H; intro w H))
        refine Loop_intro (fun k : Nat => [(12, .int .i64 (k : Int))]) (fun k w => k ≤ G.length + 1 ∧ Sep w0 w (cellsR gb 24 [.int .i64 z, .slice a2 (C ++ M).length c2] :: ownR a2 (C ++ M).length c2 33 1 ((R ++ RM).map flV) :: cellsR fb 24 [.int .i64 z, .slice ca C.length cc] :: l)) (fun k => G.length + 1 - k)
          0 ⟨rfl, trivial⟩ ⟨Nat.zero_le _, H⟩ ?_
        clear H
        rintro k w ⟨hk, H⟩
        (repeat first | refine go ?_ | ((try conv => whnf); (first | (refine St_gate ?_; refine xS ?_) | (refine StN_gate ?_; refine xN ?_)); clear H; intro w H))
        refine Br_dec (fun k1 => ?_) (fun k1 => ?_)
        · have hkl : k ≤ G.length := by omega
          have hgk : (G.take k).length = k := by rw [List.length_take, Nat.min_eq_left hkl]
          (repeat first | refine go ?_ | ((try conv => whnf); (first | (refine St_gate ?_; refine xS ?_) | (refine StN_gate ?_; refine xN ?_)); clear H; intro w H))
          refine Draw_intro mixed [0, 1, 2, 3, 4, 5, 6, 7, 8, 9] (by decide +kernel) (fun w _ fd => ?_); replace H := H.fr fd; clear fd
          (repeat first | refine go ?_ | ((try conv => whnf); (first | (refine St_gate ?_; refine xS ?_) | (refine StN_gate ?_; refine xN ?_)); clear H; intro w H))
          refine DoS_slice tok rfl rfl 0 k (.inl ⟨rfl, rfl⟩) (.inr ⟨_, rfl⟩) (by omega) (by omega) (fun J1 hJ1 => ?_)
          rw [add_zero_map, Nat.sub_zero, Nat.sub_zero]
          (repeat first | refine go ?_ | ((try conv => whnf); (first | (refine St_gate ?_; refine xS ?_) | (refine StN_gate ?_; refine xN ?_)); clear H; intro w H))
          have hck := pCheck (cc := cc) (G := G.take k) (la := la) (lc := lc) (z := z) H hp (fun {w'} {l'} h => hs (l' := l' ++ [_, _, _]) (by simpa using h)) hsm (by omega) (fun {w'} {l'} h => LSrc.take (hl (l' := l' ++ [_, _, _]) (by simpa using h)) hkl) (by omega) (fun x hx => hgl x (List.mem_of_mem_take hx)) hz
          rw [hgk] at hck
          refine Call_of hck ?_
          clear H hck
          rintro v0 w ⟨hv, H⟩
          rcases hv with ⟨hno, _⟩ | ⟨_, n', K3, o3, _, _, rfl, hK3, hc3, hr3⟩
          · rw [open_take ho] at hno; cases hno
          have ho3 := hcut k K3 o3 ⟨hK3, hc3⟩ hr3
          rw [Option.bind_some] at ho3
          by_cases hik : i < k
          · rw [if_pos hik] at ho3
            subst ho3
            rw [show outV (some i) = (i : Int) from rfl]
            (repeat first | refine go ?_ | ((try conv => whnf); (first | (refine St_gate ?_; refine xS ?_) | (refine StN_gate ?_; refine xN ?_)); clear H; intro w H))
            exact ⟨k + 1, ⟨congrArg some (vint (by omega)), trivial⟩, ⟨by omega, H⟩, by omega⟩
          · rw [if_neg hik] at ho3
            subst ho3
            rw [show outV none = -1 from rfl]
            (repeat first | refine go ?_ | ((try conv => whnf); (first | (refine St_gate ?_; refine xS ?_) | (refine StN_gate ?_; refine xN ?_)); clear H; intro w H))
            exact ⟨k + 1, ⟨congrArg some (vint (by omega)), trivial⟩, ⟨by omega, H⟩, by omega⟩
        · (repeat first | refine go ?_ | ((try conv => whnf); (first | (refine St_gate ?_; refine xS ?_) | (refine StN_gate ?_; refine xN ?_)); clear H; intro w H))
          exact Ret_in ⟨rfl, H.tail.tail.tail⟩
end
end Go.Proofs.YtkgmgjiomniijaaDoor
