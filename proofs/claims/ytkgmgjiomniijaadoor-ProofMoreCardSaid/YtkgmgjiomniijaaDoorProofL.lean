/- The laws' helpers on proofs: what is too great; the example. -/
import Derived.Test.YtkgmgjiomniijaaDoorProofR
set_option linter.unusedVariables false
set_option linter.unusedSimpArgs false
namespace Go.Proofs.YtkgmgjiomniijaaDoor
open Go Go.Vc Go.Watch Go.Lit
open Go.Trail (Ent value find upto okLit litsV)
set_option maxHeartbeats 4000000
set_option maxRecDepth 100000
section
variable {w0 w : World} {l : List Res} {n m fb : Nat} {z : Int} {v2 : Value} {C : List (List Int)} {R : List Fl} {ca : Option Addr} {cc : Nat} {G : List Stp} {la : Option Addr} {lc : Nat}

theorem gClauses (H : Sep w0 w l) (hl : ∀ {w' : World} {l' : List Res}, Sep w0 w' (l' ++ l) → LSrc w' la G) (hG : G.length ≤ 1000) :
    Does Tryd.prog 8 #[.slice la G.length lc] w fun v w' => ∃ a c, v = .slice a G.length c ∧ Sep w0 w' (ownR a G.length c 33 1 (G.map fun x => flV x.2) :: l) := by
  refine Does_intro tok (Tryd.call8 _ _) Tryd.func8 rfl (by rfl) ?_
  (repeat first | refine go ?_ | ((try conv => whnf); (first | (refine St_gate ?_; refine xS ?_) | (refine StN_gate ?_; refine xN ?_)); clear H; intro w H))
  refine Nw_sep H ?_; clear H; intro ob w H
  (repeat first | refine go ?_ | ((try conv => whnf); (first | (refine St_gate ?_; refine xS ?_) | (refine StN_gate ?_; refine xN ?_)); clear H; intro w H))
  replace H := H.row 0 0 1 rfl rfl (by decide) (by simp only [List.set_cons_succ, List.set_cons_zero]; rfl)
  refine Loop_intro (fun q : Nat × Option Addr × Nat => [(9, .int .i64 (q.1 : Int)), (3, .slice q.2.1 q.1 q.2.2)]) (fun q w => q.1 ≤ G.length ∧ Sep w0 w (ownR q.2.1 q.1 q.2.2 33 1 ((G.take q.1).map fun x => flV x.2) :: l)) (fun q => G.length - q.1)
    (0, some ⟨ob, 0, none⟩, 0) ⟨rfl, rfl, trivial⟩ ⟨Nat.zero_le _, H⟩ ?_
  clear H
  rintro ⟨i, oa, oc⟩ w ⟨hi, H⟩
  simp only [] at hi H ⊢
  refine Br_dec (fun k1 => ?_) (fun k1 => ?_)
  · have hlt : i < G.length := by omega
    have hs1 := (hl (l' := [_]) H).rows
    have hx : G[i]? = some G[i] := List.getElem?_eq_getElem hlt
    have hnx : (G.take (i + 1)).map (fun x => flV x.2) = (G.take i).map (fun x => flV x.2) ++ [flV G[i].2] := by rw [List.take_add_one, hx, List.map_append]; rfl
    generalize G[i] = x at *
    obtain ⟨g, xa, xc, xs⟩ := x
    obtain ⟨b, o, rfl⟩ := hs1.addr (by rw [rowLen stepV_len]; omega)
    refine Ix_in i rfl hlt ?_
    refine LdN_src hs1 (vs := [.bool g, .slice xa xs.length xc]) (rowPart stepV_len hx) rfl ?_
    clear hs1
    (repeat first | refine go ?_ | ((try conv => whnf); (first | (refine St_gate ?_; refine xS ?_) | (refine StN_gate ?_; refine xN ?_)); clear H; intro w H))
    (refine Nw_sep H ?_; clear H; intro sb w H; (try simp only [Value.cells, List.toList_toArray, List.append_nil, List.cons_append, List.nil_append] at H))
    (repeat first | refine go ?_ | ((try conv => whnf); (first | (refine St_gate ?_; refine xS ?_) | (refine StN_gate ?_; refine xN ?_)); clear H; intro w H))
    refine Nw_sep H ?_; clear H; intro nb w H; (try simp only [Value.cells, List.toList_toArray, List.append_nil, List.cons_append, List.nil_append] at H)
    (repeat first | refine go ?_ | ((try conv => whnf); (first | (refine St_gate ?_; refine xS ?_) | (refine StN_gate ?_; refine xN ?_)); clear H; intro w H))
    (refine DoN_gate ?_; refine append_one tok H rfl rfl rfl rfl rfl (by decide) mm (m := 1) rfl (by simp [oneCell]) (by omega) (by unfold maxLen; omega) ?_; clear H; intro a2 c2 w H; replace H := H _ (by repeat first | exact Upd.head | apply Upd.tail))
    (repeat first | refine go ?_ | ((try conv => whnf); (first | (refine St_gate ?_; refine xS ?_) | (refine StN_gate ?_; refine xN ?_)); clear H; intro w H))
    refine ⟨(i + 1, a2, c2), ⟨congrArg some (vint (by simp)), rfl, trivial⟩, ⟨by omega, ?_⟩, by simp; omega⟩
    simp only []
    rw [hnx]
    exact H.tail
  · obtain rfl : i = G.length := by omega
    rw [List.take_length] at H
    (repeat first | refine go ?_ | ((try conv => whnf); (first | (refine St_gate ?_; refine xS ?_) | (refine StN_gate ?_; refine xN ?_)); clear H; intro w H))
    exact Ret_in ⟨oa, oc, rfl, H⟩
theorem gGreat (H : Sep w0 w l) (hs : ∀ {w' : World} {l' : List Res}, Sep w0 w' (l' ++ l) → FSrc w' ca C R) (hcap : C.length ≤ cc) (hl : ∀ {w' : World} {l' : List Res}, Sep w0 w' (l' ++ l) → LSrc w' la G) :
    Does Tryd.prog 5 #[.agg #[.int .i64 z, .slice ca C.length cc], .slice la G.length lc] w fun v w' => ∃ b, v = .bool b ∧
      (b = false → (z ≤ 30 ∨ 262144 ≤ z) ∧ C.length ≤ 60 ∧ G.length ≤ 40 ∧ (∀ c ∈ C, c.length ≤ 20) ∧ ∀ x ∈ G, x.2.2.2.length ≤ 20) ∧ Sep w0 w' l := by
  refine Does_intro tok (Tryd.call5 _ _) Tryd.func5 rfl (by rfl) ?_
  (repeat first | refine go ?_ | ((try conv => whnf); (first | (refine St_gate ?_; refine xS ?_) | (refine StN_gate ?_; refine xN ?_)); clear H; intro w H))
  (refine Nw_sep H ?_; clear H; intro fb w H; (try simp only [Value.cells, List.toList_toArray, List.append_nil, List.cons_append, List.nil_append] at H))
  (repeat first | refine go ?_ | ((try conv => whnf); (first | (refine St_gate ?_; refine xS ?_) | (refine StN_gate ?_; refine xN ?_)); clear H; intro w H))
  by_cases h1 : 30 < z ∧ z < 262144
  · (repeat first | refine go ?_ | ((try conv => whnf); (first | (refine St_gate ?_; refine xS ?_) | (refine StN_gate ?_; refine xN ?_)); clear H; intro w H))
    exact Ret_in ⟨true, rfl, fun h => (by cases h), H.tail⟩
  have hz : z ≤ 30 ∨ 262144 ≤ z := by omega
  by_cases h2 : 60 < C.length
  · rcases hz with hz | hz
    · (repeat first | refine go ?_ | ((try conv => whnf); (first | (refine St_gate ?_; refine xS ?_) | (refine StN_gate ?_; refine xN ?_)); clear H; intro w H))
      exact Ret_in ⟨true, rfl, fun h => (by cases h), H.tail⟩
    · (repeat first | refine go ?_ | ((try conv => whnf); (first | (refine St_gate ?_; refine xS ?_) | (refine StN_gate ?_; refine xN ?_)); clear H; intro w H))
      exact Ret_in ⟨true, rfl, fun h => (by cases h), H.tail⟩
  by_cases h3 : 40 < G.length
  · rcases hz with hz | hz
    · (repeat first | refine go ?_ | ((try conv => whnf); (first | (refine St_gate ?_; refine xS ?_) | (refine StN_gate ?_; refine xN ?_)); clear H; intro w H))
      exact Ret_in ⟨true, rfl, fun h => (by cases h), H.tail⟩
    · (repeat first | refine go ?_ | ((try conv => whnf); (first | (refine St_gate ?_; refine xS ?_) | (refine StN_gate ?_; refine xN ?_)); clear H; intro w H))
      exact Ret_in ⟨true, rfl, fun h => (by cases h), H.tail⟩
  have hones : ∀ Q : List Fl, ∀ u ∈ Q.map flV, oneCell u = true := fun Q u hu => by
    obtain ⟨x, _, rfl⟩ := List.mem_map.1 hu; rfl
  have hRl : R.length = C.length := (hs (l' := [_]) H).len
  by_cases hz30 : z ≤ 30
  case' pos => (repeat first | refine go ?_ | ((try conv => whnf); (first | (refine St_gate ?_; refine xS ?_) | (refine StN_gate ?_; refine xN ?_)); clear H; intro w H))
  case' neg => (repeat first | refine go ?_ | ((try conv => whnf); (first | (refine St_gate ?_; refine xS ?_) | (refine StN_gate ?_; refine xN ?_)); clear H; intro w H))
  all_goals
    refine Nw_sep H ?_; clear H; intro ob w H
    (repeat first | refine go ?_ | ((try conv => whnf); (first | (refine St_gate ?_; refine xS ?_) | (refine StN_gate ?_; refine xN ?_)); clear H; intro w H))
    have hrows : Src w ca C.length 1 (R.map flV) := (hs (l' := [_, _]) H).rows
    refine DoN_gate ?_
    refine append_new tok H rfl rfl rfl rfl rfl (by decide) (.head _) hrows (hones R) (by omega) (by unfold maxLen; omega) ?_
    clear H hrows
    intro a1 c1 w H
    replace H := H _ .head
    (repeat first | refine go ?_ | ((try conv => whnf); (first | (refine St_gate ?_; refine xS ?_) | (refine StN_gate ?_; refine xN ?_)); clear H; intro w H))
    refine Call_of (gClauses H (fun {w'} {l'} h => hl (l' := l' ++ [_, _]) (by simpa using h)) (by omega)) ?_
    clear H
    rintro _ w ⟨a2, c2, rfl, H⟩
    have hG2 : (G.map fun x => flV x.2) = (G.map fun x => x.2).map flV := by rw [List.map_map]; rfl
    rw [hG2] at H
    (repeat first | refine go ?_ | ((try conv => whnf); (first | (refine St_gate ?_; refine xS ?_) | (refine StN_gate ?_; refine xN ?_)); clear H; intro w H))
    have hrows := H.srcM (a := a2) (n := G.length) (cap := c2) (el := 33) (sz := 1) (xs := (G.map fun x => x.2).map flV) (.head _)
    refine DoN_gate ?_
    refine append_sep tok H rfl rfl rfl rfl rfl (by decide) (.tail _ (.head _)) hrows (hones _) (by omega) (by unfold maxLen; omega) rfl (List.map_append).symm ?_
    clear H hrows
    intro a3 c3 w H
    replace H := H _ (.tail .head)
    (repeat first | refine go ?_ | ((try conv => whnf); (first | (refine St_gate ?_; refine xS ?_) | (refine StN_gate ?_; refine xN ?_)); clear H; intro w H))
    generalize hQ : R ++ G.map (fun x => x.2) = Q at *
    have hQl : Q.length = C.length + G.length := by rw [← hQ, List.length_append, List.length_map, hRl]
    refine Loop_intro (fun i : Nat => [(34, .int .i64 (i : Int))]) (fun i w => (i ≤ C.length + G.length ∧ ∀ x ∈ Q.take i, x.2.2.length ≤ 20) ∧ Sep w0 w (ownR a2 G.length c2 33 1 ((G.map fun x => x.2).map flV) :: ownR a3 (C.length + G.length) c3 33 1 (Q.map flV) :: cellsR fb 24 [.int .i64 z, .slice ca C.length cc] :: l)) (fun i => C.length + G.length - i)
      0 ⟨rfl, trivial⟩ ⟨⟨Nat.zero_le _, by simp⟩, H⟩ ?_
    clear H
    rintro i w ⟨⟨hi, hall⟩, H⟩
    refine Br_dec (fun k1 => ?_) (fun k1 => ?_)
    · have hlt : i < C.length + G.length := by omega
      have hsrc := H.srcM (a := a3) (n := C.length + G.length) (cap := c3) (el := 33) (sz := 1) (xs := Q.map flV) (.tail _ (.head _))
      have hx : Q[i]? = some (Q[i]'(by omega)) := List.getElem?_eq_getElem _
      have htk : Q.take (i + 1) = Q.take i ++ [Q[i]'(by omega)] := by rw [List.take_add_one, hx]; rfl
      generalize Q[i]'(by omega) = x at *
      obtain ⟨xa, xc, xs⟩ := x
      obtain ⟨b, hb⟩ := (H.ownM (a := a3) (n := C.length + G.length) (cap := c3) (el := 33) (sz := 1) (xs := Q.map flV) (.tail _ (.head _))).some (by omega)
      subst hb
      refine Ix_in i rfl hlt ?_
      refine Ld_src (j := i) hsrc (v := .slice xa xs.length xc) (by rw [List.getElem?_map, hx]; rfl) ?_
      clear hsrc
      by_cases h4 : 20 < xs.length
      · (repeat first | refine go ?_ | ((try conv => whnf); (first | (refine St_gate ?_; refine xS ?_) | (refine StN_gate ?_; refine xN ?_)); clear H; intro w H))
        exact Ret_in ⟨true, rfl, fun h => (by cases h), H.tail.tail.tail⟩
      · (repeat first | refine go ?_ | ((try conv => whnf); (first | (refine St_gate ?_; refine xS ?_) | (refine StN_gate ?_; refine xN ?_)); clear H; intro w H))
        refine ⟨i + 1, ⟨congrArg some (vint (by omega)), trivial⟩, ⟨⟨by omega, fun y hy => ?_⟩, H⟩, by omega⟩
        rw [htk, List.mem_append, List.mem_singleton] at hy
        rcases hy with hy | rfl
        · exact hall y hy
        · show xs.length ≤ 20; omega
    · have hQa : ∀ x ∈ Q, x.2.2.length ≤ 20 := by
        have : i = Q.length := by omega
        rw [this, List.take_length] at hall
        exact hall
      have hCR := (hs (l' := [_, _, _]) H).eq
      (repeat first | refine go ?_ | ((try conv => whnf); (first | (refine St_gate ?_; refine xS ?_) | (refine StN_gate ?_; refine xN ?_)); clear H; intro w H))
      refine Ret_in ⟨false, rfl, fun _ => ⟨hz, by omega, by omega, fun c hc => ?_, fun x hx => ?_⟩, H.tail.tail.tail⟩
      · rw [← hCR] at hc
        obtain ⟨x, hx, rfl⟩ := List.mem_map.1 hc
        exact hQa x (by rw [← hQ]; exact List.mem_append_left _ hx)
      · exact hQa x.2 (by rw [← hQ]; exact List.mem_append_right _ (List.mem_map.2 ⟨x, hx, rfl⟩))
end
end Go.Proofs.YtkgmgjiomniijaaDoor
