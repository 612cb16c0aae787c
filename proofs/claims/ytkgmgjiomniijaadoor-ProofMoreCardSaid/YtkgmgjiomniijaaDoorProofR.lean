/- The public functions on proofs. -/
import Derived.Test.YtkgmgjiomniijaaDoorProofQ
set_option linter.unusedVariables false
set_option linter.unusedSimpArgs false
namespace Go.Proofs.YtkgmgjiomniijaaDoor
open Go Go.Vc Go.Watch Go.Lit
open Go.Trail (Ent value find upto okLit litsV)
set_option maxHeartbeats 4000000
set_option maxRecDepth 100000
section
variable {w0 w : World} {l : List Res} {pb eb mb n m fb : Nat} {s : St} {A : List (List Int × Bool)} {fr z : Int} {v2 : Value} {G : List Stp} {L : List (Bool × List Int)} {la : Option Addr} {lc : Nat}
  {C : List (List Int)} {R : List Fl} {ca : Option Addr} {cc : Nat} {vs : List Bool} {va : Option Addr} {vc : Nat}

/-! The public functions -/
theorem pCheck (H : Sep w0 w l) (hp : Pow w0) (hs : ∀ {w' : World} {l' : List Res}, Sep w0 w' (l' ++ l) → FSrc w' ca C R) (hsm : ∀ x ∈ R, x.2.2.length ≤ 35184372087808) (hC : C.length ≤ 900)
    (hl : ∀ {w' : World} {l' : List Res}, Sep w0 w' (l' ++ l) → LSrc w' la G) (hlm : G.length ≤ 900) (hle : ∀ x ∈ G, x.2.2.2.length ≤ 900000) (hz : z ≤ 30 ∨ 262144 ≤ z) :
    Does Tryd.prog 6 #[.agg #[.int .i64 z, .slice ca C.length cc], .slice la G.length lc] w fun v w' =>
      ((openZ z C (logL G) [] = false ∧ v = .tuple #[.int .i64 0, .int .i64 91]) ∨
      (openZ z C (logL G) [] = true ∧ ∃ (n : Nat) (K : List (List Int)) (o : Option Nat), z = n ∧ n ≤ 30 ∧ v = .tuple #[.int .i64 (outV o), .int .i64 0] ∧ K.length = C.length ∧ (∀ (i : Nat) c k, C[i]? = some c → K[i]? = some k → Lit.Clean c k) ∧
        ∀ L, Steps G L → Run (K.map fun k => (k, true)) L o)) ∧ Sep w0 w' l := by
  refine Does_intro tok (Tryd.call6 _ _) Tryd.func6 rfl (by rfl) ?_
  (repeat first | refine go ?_ | ((try conv => whnf); (first | (refine St_gate ?_; refine xS ?_) | (refine StN_gate ?_; refine xN ?_)); clear H; intro w H))
  (refine Nw_sep H ?_; clear H; intro fb w H; (try simp only [Value.cells, List.toList_toArray, List.append_nil, List.cons_append, List.nil_append] at H))
  (repeat first | refine go ?_ | ((try conv => whnf); (first | (refine St_gate ?_; refine xS ?_) | (refine StN_gate ?_; refine xN ?_)); clear H; intro w H))
  refine Call_of (pOpen (goal := []) (ga := none) (gc := 0) H hp (fun {w'} {l'} h => hs (l' := l' ++ [_]) (by simpa using h)) hsm (by omega) (fun {w'} {l'} h => hl (l' := l' ++ [_]) (by simpa using h)) (by omega) (fun x hx => by have := hle x hx; omega)
    (fun h => ⟨rfl, fun j u h => by simp at h⟩) (by decide)) ?_
  clear H
  rintro _ w (⟨ho, rfl, H⟩ | ⟨ho, n, pb, K, rfl, rfl, hK, hcl, H⟩)
  · (repeat first | refine go ?_ | ((try conv => whnf); (first | (refine St_gate ?_; refine xS ?_) | (refine StN_gate ?_; refine xN ?_)); clear H; intro w H))
    exact Ret_in ⟨.inl ⟨ho, rfl⟩, H.tail⟩
  · have hn : n ≤ 30 := by
      unfold openZ at ho
      simp only [Bool.and_eq_true, decide_eq_true_eq] at ho
      omega
    have hfit : ∀ x ∈ G, fitB n x.2.2.2 = true := by
      unfold openZ at ho
      simp only [Bool.and_eq_true] at ho
      intro x hx
      rw [← fitZ_nat]
      exact List.all_eq_true.1 ho.2.1 x.2.2.2 (List.mem_map.2 ⟨x, hx, rfl⟩)
    obtain ⟨L, hL⟩ := steps_ex (G := G) fun x hx => fitB_one (hfit x hx)
    (repeat first | refine go ?_ | ((try conv => whnf); (first | (refine St_gate ?_; refine xS ?_) | (refine StN_gate ?_; refine xN ?_)); clear H; intro w H))
    refine Call_of (pPlay H hp (fun {w'} {l'} h => hl (l' := l' ++ [_]) (by simpa using h)) hle hL hfit hn (by rw [List.length_map]; omega) (by omega) (by omega)) ?_
    clear H
    rintro _ w ⟨o, B, m', rfl, hrun, _, _, _, H⟩
    (repeat first | refine go ?_ | ((try conv => whnf); (first | (refine St_gate ?_; refine xS ?_) | (refine StN_gate ?_; refine xN ?_)); clear H; intro w H))
    refine Ret_in ⟨.inr ⟨ho, n, K, o, rfl, hn, rfl, hK, hcl, fun L' hL' => ?_⟩, H.tail.tail⟩
    have : L' = L := by
      apply List.ext_getElem?
      intro i
      rcases Nat.lt_or_ge i G.length with hi | hi
      · have h1 : L[i]? = some (L[i]'(by rw [hL.1]; exact hi)) := List.getElem?_eq_getElem _
        have h2 : L'[i]? = some (L'[i]'(by rw [hL'.1]; exact hi)) := List.getElem?_eq_getElem _
        have hx : G[i]? = some G[i] := List.getElem?_eq_getElem hi
        obtain ⟨a1, a2⟩ := hL.2 i _ _ hx h1
        obtain ⟨b1, b2⟩ := hL'.2 i _ _ hx h2
        rw [h1, h2]
        congr 1
        exact Prod.ext (by rw [a1, b1]) (one_clean (fitB_one (hfit _ (List.getElem_mem hi))) b2 a2)
      · rw [List.getElem?_eq_none (by rw [hL'.1]; exact hi), List.getElem?_eq_none (by rw [hL.1]; exact hi)]
    rw [this]; exact hrun

theorem pFollows {xs : List Int} {xa : Option Addr} {xc : Nat} (H : Sep w0 w l) (hp : Pow w0) (hs : ∀ {w' : World} {l' : List Res}, Sep w0 w' (l' ++ l) → FSrc w' ca C R) (hsm : ∀ x ∈ R, x.2.2.length ≤ 35184372087808) (hC : C.length ≤ 900)
    (hx : ∀ {w' : World} {l' : List Res}, Sep w0 w' (l' ++ l) → Src w' xa xs.length 1 (xs.map lV)) (hxm : xs.length ≤ 900000) (hz : z ≤ 30 ∨ 262144 ≤ z) :
    Does Tryd.prog 7 #[.agg #[.int .i64 z, .slice ca C.length cc], .slice xa xs.length xc] w fun v w' =>
      ((openZ z C [] xs = false ∧ v = .tuple #[.bool false, .int .i64 91]) ∨
      (openZ z C [] xs = true ∧ ∃ (K : List (List Int)) (own : List Int) (b : Bool), v = .tuple #[.bool b, .int .i64 0] ∧ K.length = C.length ∧ (∀ (i : Nat) c k, C[i]? = some c → K[i]? = some k → Lit.Clean c k) ∧ Lit.Clean xs own ∧
        (b = true ↔ Foll (K.map fun k => (k, true)) own))) ∧ Sep w0 w' l := by
  refine Does_intro tok (Tryd.call7 _ _) Tryd.func7 rfl (by rfl) ?_
  (repeat first | refine go ?_ | ((try conv => whnf); (first | (refine St_gate ?_; refine xS ?_) | (refine StN_gate ?_; refine xN ?_)); clear H; intro w H))
  (refine Nw_sep H ?_; clear H; intro fb w H; (try simp only [Value.cells, List.toList_toArray, List.append_nil, List.cons_append, List.nil_append] at H))
  (repeat first | refine go ?_ | ((try conv => whnf); (first | (refine St_gate ?_; refine xS ?_) | (refine StN_gate ?_; refine xN ?_)); clear H; intro w H))
  refine Call_of (pOpen (goal := xs) (G := []) H hp (fun {w'} {l'} h => hs (l' := l' ++ [_]) (by simpa using h)) hsm (by omega) (fun {w'} {l'} h => ⟨⟨rfl, fun j u h => by simp at h⟩, fun x hx => by cases hx⟩) (by decide) (fun x hx => by cases hx)
    (fun {w'} {l'} h => hx (l' := l' ++ [_]) (by simpa using h)) (by omega)) ?_
  clear H
  rintro _ w (⟨ho, rfl, H⟩ | ⟨ho, n, pb, K, rfl, rfl, hK, hcl, H⟩)
  · (repeat first | refine go ?_ | ((try conv => whnf); (first | (refine St_gate ?_; refine xS ?_) | (refine StN_gate ?_; refine xN ?_)); clear H; intro w H))
    exact Ret_in ⟨.inl ⟨ho, rfl⟩, H.tail⟩
  · have hn : n ≤ 30 ∧ fitB n xs = true := by
      unfold openZ at ho
      simp only [Bool.and_eq_true, decide_eq_true_eq] at ho
      exact ⟨by omega, by rw [← fitZ_nat]; exact ho.2.2⟩
    have hmul : (n + 2) * ((K.map fun k => (k, true)).length + 1) ≤ 32 * 901 := Nat.mul_le_mul (by omega) (by rw [List.length_map]; omega)
    (repeat first | refine go ?_ | ((try conv => whnf); (first | (refine St_gate ?_; refine xS ?_) | (refine StN_gate ?_; refine xN ?_)); clear H; intro w H))
    refine Call_of (bFollows H (fun {w'} {l'} h => hx (l' := l' ++ [_]) (by simpa using h)) hxm hn.2 (by omega) (by omega) (by rw [List.length_map]; omega)) ?_
    clear H
    rintro _ w ⟨own, b, hown, rfl, hb, H⟩
    (repeat first | refine go ?_ | ((try conv => whnf); (first | (refine St_gate ?_; refine xS ?_) | (refine StN_gate ?_; refine xN ?_)); clear H; intro w H))
    exact Ret_in ⟨.inr ⟨ho, K, own, b, rfl, hK, hcl, hown, hb⟩, H.tail.tail⟩

end
end Go.Proofs.YtkgmgjiomniijaaDoor
