/- A log is gone through; does a clause follow of a formula, of a proof? -/
import Derived.Test.YtkgmgjiomniijaaDoorProofO
set_option linter.unusedVariables false
set_option linter.unusedSimpArgs false
namespace Go.Watch
theorem clean_has {xs : List Int} (ho : ∀ x ∈ xs, Lit.one x = true) : ∃ own, Lit.Clean xs own := by
  refine ⟨_, Lit.squeeze_clean (l := xs.mergeSort fun x y => decide (Lit.place x ≤ Lit.place y)) ho ?_ fun x => List.mem_mergeSort⟩
  have := List.pairwise_mergeSort (le := fun x y => decide (Lit.place x ≤ Lit.place y)) (fun a b c h1 h2 => by simp at *; omega) (fun a b => by simp; omega) xs
  exact this.imp fun h => by simpa using h
theorem fitB_one {n : Nat} {c : List Int} (h : fitB n c = true) : ∀ x ∈ c, Lit.one x = true := fun x hx => (fitB_iff.1 h x hx).1
theorem one_clean {xs a b : List Int} (ho : ∀ x ∈ xs, Lit.one x = true) (ha : Lit.Clean xs a) (hb : Lit.Clean xs b) : a = b := Lit.Clean.same ho ha hb fun x => Iff.rfl
end Go.Watch
namespace Go.Proofs.YtkgmgjiomniijaaDoor
open Go Go.Vc Go.Watch Go.Lit
open Go.Trail (Ent value find upto okLit litsV)
set_option maxHeartbeats 4000000
set_option maxRecDepth 100000
/-- A log's steps, each clause cleaned. -/
def Steps (G : List Stp) (L : List (Bool × List Int)) : Prop := L.length = G.length ∧ ∀ (i : Nat) x s, G[i]? = some x → L[i]? = some s → s.1 = x.1 ∧ Lit.Clean x.2.2.2 s.2
theorem Steps.nil : Steps [] [] := ⟨rfl, fun i x s h => by simp at h⟩
theorem steps_ex : ∀ {G : List Stp}, (∀ x ∈ G, ∀ y ∈ x.2.2.2, Lit.one y = true) → ∃ L, Steps G L
  | [], _ => ⟨[], Steps.nil⟩
  | x :: G, h => by
    obtain ⟨L, h1, h2⟩ := steps_ex (G := G) fun y hy => h y (.tail _ hy)
    obtain ⟨own, ho⟩ := clean_has (h x (.head _))
    refine ⟨(x.1, own) :: L, by simp [h1], fun i y s hy hs => ?_⟩
    cases i with
    | zero => simp at hy hs; subst hy hs; exact ⟨rfl, ho⟩
    | succ i => exact h2 i y s (by simpa using hy) (by simpa using hs)
theorem Steps.take {G : List Stp} {L : List (Bool × List Int)} (h : Steps G L) (k : Nat) : Steps (G.take k) (L.take k) := by
  refine ⟨by rw [List.length_take, List.length_take, h.1], fun i x s hx hs => ?_⟩
  rw [List.getElem?_take] at hx hs
  split at hx
  · rename_i hk
    rw [if_pos hk] at hs
    exact h.2 i x s hx hs
  · cases hx
def outV : Option Nat → Int
  | none => -1
  | some i => i
section
variable {w0 w : World} {l : List Res} {pb eb mb n m fb : Nat} {s : St} {A : List (List Int × Bool)} {fr z : Int} {v2 : Value} {G : List Stp} {L : List (Bool × List Int)} {la : Option Addr} {lc : Nat}

theorem pPlay1 {bx : Nat} (H : Sep w0 w (benR pb n A m :: cellsR bx 39 [.pointer (some ⟨pb, 0, none⟩)] :: l)) (hp : Pow w0) {x : Stp} {own : List Int} (hs : ∀ {w' : World} {l' : List Res}, Sep w0 w' (l' ++ l) → Src w' x.2.1 x.2.2.2.length 1 (x.2.2.2.map lV)) (hx : x.2.2.2.length ≤ 900000)
    (hf : fitB n x.2.2.2 = true) (hcl : Lit.Clean x.2.2.2 own) (hn : n ≤ 30) (hA : A.length ≤ 2000) (hm : m ≤ 90000000) :
    Does Tryd.prog 20 #[.agg #[.bool x.1, flV x.2], .pointer (some ⟨bx, 0, none⟩)] w fun v w' => ∃ B m', B.length ≤ A.length + 1 ∧ m' ≤ m + 70000 ∧ ((v = .bool false ∧ Goes A (x.1, own) B) ∨ (v = .bool true ∧ Stuck A (x.1, own))) ∧
      Sep w0 w' (benR pb n B m' :: cellsR bx 39 [.pointer (some ⟨pb, 0, none⟩)] :: l) := by
  have hone := fitB_one hf
  have hmul : (n + 2) * (A.length + 1) ≤ 32 * 2001 := Nat.mul_le_mul (by omega) (by omega)
  obtain ⟨g, xa, xc, xs⟩ := x
  simp only [] at hs hx hf hcl hone ⊢
  refine Does_intro tok (Tryd.call20 _ _) Tryd.func20 rfl (by rfl) ?_
  (repeat first | refine go ?_ | ((try conv => whnf); (first | (refine St_gate ?_; refine xS ?_) | (refine StN_gate ?_; refine xN ?_)); clear H; intro w H))
  (refine Nw_sep H ?_; clear H; intro sb w H; (try simp only [Value.cells, List.toList_toArray, List.append_nil, List.cons_append, List.nil_append] at H))
  (repeat first | refine go ?_ | ((try conv => whnf); (first | (refine St_gate ?_; refine xS ?_) | (refine StN_gate ?_; refine xN ?_)); clear H; intro w H))
  replace H := H.tp 1
  cases g with
  | true =>
    (repeat first | refine go ?_ | ((try conv => whnf); (first | (refine St_gate ?_; refine xS ?_) | (refine StN_gate ?_; refine xN ?_)); clear H; intro w H))
    refine Call_of (bDrop H hp (xs := xs) (fun {w'} {l'} h => hs (l' := l' ++ [_, _]) (by simpa using h)) (by omega) hone (by omega)) ?_
    clear H
    rintro _ w ⟨own2, hcl2, h⟩
    obtain rfl := one_clean hone hcl2 hcl
    rcases h with ⟨h1, rfl, H⟩ | ⟨i, h1, rfl, H⟩
    · (repeat first | refine go ?_ | ((try conv => whnf); (first | (refine St_gate ?_; refine xS ?_) | (refine StN_gate ?_; refine xN ?_)); clear H; intro w H))
      exact Ret_in ⟨A, m, by omega, by omega, .inr ⟨rfl, .inl ⟨rfl, h1⟩⟩, H.drop 1 rfl rfl⟩
    · (repeat first | refine go ?_ | ((try conv => whnf); (first | (refine St_gate ?_; refine xS ?_) | (refine StN_gate ?_; refine xN ?_)); clear H; intro w H))
      exact Ret_in ⟨_, m, by rw [List.length_set]; omega, by omega, .inl ⟨rfl, .inl ⟨rfl, i, h1, rfl⟩⟩, H.drop 1 rfl rfl⟩
  | false =>
    (repeat first | refine go ?_ | ((try conv => whnf); (first | (refine St_gate ?_; refine xS ?_) | (refine StN_gate ?_; refine xN ?_)); clear H; intro w H))
    refine Call_of (bFollows H (xs := xs) (fun {w'} {l'} h => hs (l' := l' ++ [_, _]) (by simpa using h)) hx hf (by omega) (by omega) (by omega)) ?_
    clear H
    rintro _ w ⟨own2, b, hcl2, rfl, hb, H⟩
    obtain rfl := one_clean hone hcl2 hcl
    cases b with
    | false =>
      (repeat first | refine go ?_ | ((try conv => whnf); (first | (refine St_gate ?_; refine xS ?_) | (refine StN_gate ?_; refine xN ?_)); clear H; intro w H))
      exact Ret_in ⟨A, _, by omega, by omega, .inr ⟨rfl, .inr ⟨rfl, fun h => by cases hb.2 h⟩⟩, H.drop 1 rfl rfl⟩
    | true =>
      (repeat first | refine go ?_ | ((try conv => whnf); (first | (refine St_gate ?_; refine xS ?_) | (refine StN_gate ?_; refine xN ?_)); clear H; intro w H))
      refine Call_of (bAdd H hp (xs := xs) (fun {w'} {l'} h => hs (l' := l' ++ [_, _]) (by simpa using h)) (by omega) hf (by omega) (by omega)) ?_
      clear H
      rintro _ w ⟨own3, hcl3, rfl, H⟩
      obtain rfl := one_clean hone hcl3 hcl
      (repeat first | refine go ?_ | ((try conv => whnf); (first | (refine St_gate ?_; refine xS ?_) | (refine StN_gate ?_; refine xN ?_)); clear H; intro w H))
      exact Ret_in ⟨_, _, by rw [List.length_append]; exact Nat.le_refl _, by omega, .inl ⟨rfl, .inr ⟨rfl, hb.1 rfl, rfl⟩⟩, H.drop 1 rfl rfl⟩

theorem pPlay (H : Sep w0 w (benR pb n A m :: l)) (hp : Pow w0) (hl : ∀ {w' : World} {l' : List Res}, Sep w0 w' (l' ++ l) → LSrc w' la G) (hle : ∀ x ∈ G, x.2.2.2.length ≤ 900000) (hst : Steps G L)
    (hf : ∀ x ∈ G, fitB n x.2.2.2 = true) (hn : n ≤ 30) (hA : A.length + G.length ≤ 1900) (hm : m ≤ 20000) (hG : G.length ≤ 1000) :
    Does Tryd.prog 10 #[.pointer (some ⟨pb, 0, none⟩), .slice la G.length lc] w fun v w' => ∃ o B m', v = .int .i64 (outV o) ∧ Run A L o ∧ B.length ≤ A.length + G.length ∧ m' ≤ m + 70000 * G.length ∧ (o = none → ∀ k, B.count (k, true) = B.count (k, true)) ∧ Sep w0 w' (benR pb n B m' :: l) := by
  refine Does_intro tok (Tryd.call10 _ _) Tryd.func10 rfl (by rfl) ?_
  (repeat first | refine go ?_ | ((try conv => whnf); (first | (refine St_gate ?_; refine xS ?_) | (refine StN_gate ?_; refine xN ?_)); clear H; intro w H))
  (refine Nw_sep H ?_; clear H; intro bx w H; (try simp only [Value.cells, List.toList_toArray, List.append_nil, List.cons_append, List.nil_append] at H))
  replace H := H.tp 1
  (repeat first | refine go ?_ | ((try conv => whnf); (first | (refine St_gate ?_; refine xS ?_) | (refine StN_gate ?_; refine xN ?_)); clear H; intro w H))
  have hdrop : ∀ (i : Nat) (s : Bool × List Int), L[i]? = some s → L.drop i = s :: L.drop (i + 1) := fun i s h => by
    obtain ⟨h1, h2⟩ := List.getElem?_eq_some_iff.1 h
    rw [List.drop_eq_getElem_cons h1, h2]
  refine Call_of (stepSeek
    (fun i w => ∃ B m', B.length ≤ A.length + i ∧ m' ≤ m + 70000 * i ∧ i ≤ G.length ∧ (∀ o, Run B (L.drop i) o → Run A L (o.map (· + i))) ∧ Sep w0 w (benR pb n B m' :: cellsR bx 39 [.pointer (some ⟨pb, 0, none⟩)] :: l))
    (fun i w => ∃ B m', B.length ≤ A.length + G.length ∧ m' ≤ m + 70000 * G.length ∧ Run A L (some i) ∧ Sep w0 w (benR pb n B m' :: cellsR bx 39 [.pointer (some ⟨pb, 0, none⟩)] :: l))
    ⟨A, m, Nat.le_refl _, Nat.le_refl _, Nat.zero_le _, fun o h => by cases o <;> exact h, H⟩ (fun i w' ⟨_, _, _, _, _, _, h⟩ => (hl (l' := [_, _]) h).rows) (by omega) ?_) ?_
  · rintro i x w' hx ⟨B, m', b1, b2, b3, b4, H⟩
    have hi := (List.getElem?_eq_some_iff.1 hx).1
    have hxm := List.mem_of_getElem? hx
    obtain ⟨⟨g, own⟩, hLi⟩ : ∃ st, L[i]? = some st := ⟨_, List.getElem?_eq_getElem (by rw [hst.1]; exact hi)⟩
    obtain ⟨e1, e2⟩ := hst.2 i x _ hx hLi
    have hdr := hdrop i _ hLi
    simp only [] at e1 e2
    subst e1
    refine (pPlay1 H hp (own := own) (fun {w'} {l'} h => (hl h).each x hxm) (hle x hxm) (hf x hxm) e2 hn (by omega) (by omega)).mono ?_
    rintro v w'' ⟨B', m2, c1, c2, (⟨rfl, hg⟩ | ⟨rfl, hg⟩), H'⟩
    · have q1 : B'.length ≤ A.length + (i + 1) := Nat.le_trans c1 (Nat.succ_le_succ b1)
      have q2 : m2 ≤ m + 70000 * (i + 1) := Nat.le_trans c2 (by rw [Nat.mul_succ, ← Nat.add_assoc]; exact Nat.add_le_add_right b2 _)
      refine .inl ⟨rfl, B', m2, q1, q2, hi, fun o ho => ?_, H'⟩
      have := b4 _ (by rw [hdr]; exact Run.go hg ho)
      cases o with
      | none => exact this
      | some j =>
        simp only [Option.map_some] at this ⊢
        rwa [show j + 1 + i = j + (i + 1) by omega] at this
    · have q1 : B'.length ≤ A.length + G.length := Nat.le_trans c1 (Nat.le_trans (Nat.succ_le_succ b1) (Nat.add_le_add_left hi _))
      have q2 : m2 ≤ m + 70000 * G.length := Nat.le_trans c2 (Nat.le_trans (by rw [Nat.mul_succ, ← Nat.add_assoc]; exact Nat.add_le_add_right b2 _ : m' + 70000 ≤ m + 70000 * (i + 1)) (Nat.add_le_add_left (Nat.mul_le_mul_left _ hi) _))
      refine .inr ⟨rfl, B', m2, q1, q2, ?_, H'⟩
      have := b4 (some 0) (by rw [hdr]; exact Run.stuck hg)
      simpa using this
  clear H
  rintro _ w (⟨rfl, B, m', b1, b2, _, b4, H⟩ | ⟨i, hi, rfl, B, m', b1, b2, b3, H⟩)
  · (repeat first | refine go ?_ | ((try conv => whnf); (first | (refine St_gate ?_; refine xS ?_) | (refine StN_gate ?_; refine xN ?_)); clear H; intro w H))
    refine Ret_in ⟨none, B, m', rfl, ?_, b1, b2, fun _ _ => rfl, H.drop 1 rfl rfl⟩
    exact b4 none (by rw [List.drop_eq_nil_iff.2 (by rw [hst.1]; exact Nat.le_refl _)]; exact .nil)
  · (repeat first | refine go ?_ | ((try conv => whnf); (first | (refine St_gate ?_; refine xS ?_) | (refine StN_gate ?_; refine xN ?_)); clear H; intro w H))
    exact Ret_in ⟨some i, B, m', rfl, b3, b1, b2, fun h => (by cases h), H.drop 1 rfl rfl⟩
end
end Go.Proofs.YtkgmgjiomniijaaDoor
