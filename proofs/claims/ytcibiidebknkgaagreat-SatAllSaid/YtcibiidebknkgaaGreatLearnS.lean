/- The sort by places: a comparison that reads a map. -/
import Derived.Test.YtcibiidebknkgaaGreatLearnX
set_option linter.unusedVariables false
set_option linter.unusedSimpArgs false
namespace Go.Vc
open Go
theorem Draw_exact {P : Program} {T : Tab} {N : Nat} {B e : (List (Nat × Value))} {id : Nat} {ops : Array Oper} {w : World} {K : (List (Nat × Value)) → World → Prop} (hm : P.follows .mixedOrders = true) (l : List Nat) (hok : okDraw ops l = true)
    (h : ∀ w', w' = { w with drawn := w.drawn + 1 } → dGo P T N B ops.toList l [] e w' K) : DrawR P T N B (.region id ops true) e w K := by
  constructor
  intro ds a Q hT hf hk
  simp only [okDraw, Bool.and_eq_true] at hok
  obtain ⟨hnd, ⟨hs, hlen⟩, hok⟩ := hok
  refine wpW_mono (Q := fun x a w => match x with | .normal => Q .normal a w | _ => False) (wpW_region_any hm hnd (by rintro ⟨_, _, h⟩; exact h) ?_) ?_
  · have := dGo_sound (Q := fun x a w => match x with | .normal => Q .normal a w | _ => False) hT hs (fun _ _ _ _ h => h) l hok (h { w with drawn := w.drawn + 1 } rfl) hf (by intro r hr; simp [toPd] at hr) (fun a' e' w' hf' hK => hk a' e' w' hf' hK)
    rw [Nat.eq_of_beq_eq_true hlen] at this
    exact this.any
  · intro x a w h
    cases x <;> first | exact h | exact h.elim
end Go.Vc
namespace Go.Proofs.YtcibiidebknkgaaGreat
open Go Go.Vc Go.Watch Go.Lit
open Go.Trail (Ent value find upto okLit litsV)
open Go.Sort (grow_empty SWO Holds putCells grow putRow mapBlock onCells heap_grow_old PermIn)
set_option maxHeartbeats 4000000
set_option maxRecDepth 100000

def plM (pm : Int → Option Int) : Int → Option Value := fun v => (pm v).map iI
def plG (pm : Int → Option Int) (x : Int) : Int := (pm (Trail.var x : Int)).getD 0
theorem plM_get {pm : Int → Option Int} {x : Int} : (plM pm (Trail.var x : Int)).getD (.int .i64 0) = .int .i64 (plG pm x) := by
  unfold plM plG
  cases pm (Trail.var x : Int) <;> rfl
def putP (pm : Int → Option Int) (v k : Int) : Int → Option Int := fun u => if u = v then some k else pm u
theorem plM_put {pm : Int → Option Int} {v k : Int} : putM (plM pm) v (iI k) = plM (putP pm v k) := by
  funext u
  unfold putM plM putP
  by_cases h : u = v <;> simp [h]
theorem plM_nil : (fun _ => none) = plM (fun _ => none) := rfl
def cfP (pm : Int → Option Int) (x y : Lt) : Int := cmpI (plG pm y.val) (plG pm x.val)
theorem ltP (pm : Int → Option Int) (x y : Lt) : ltOf (cfP pm) x y = decide (plG pm y.val < plG pm x.val) := by
  unfold ltOf cfP cmpI
  by_cases h1 : plG pm y.val < plG pm x.val
  · simp [h1]
  · by_cases h2 : plG pm x.val < plG pm y.val <;> simp [h1, h2]
theorem swoP (pm : Int → Option Int) : SWO (ltOf (cfP pm)) where
  irrefl x := by rw [ltP]; simp
  trans x y z h1 h2 := by rw [ltP] at *; simp at *; omega
  ntrans x y z h1 h2 := by rw [ltP] at *; simp at *; omega

section
variable {w0 w : World} {l : List Res} {qm pb k : Nat} {pm : Int → Option Int}
theorem lCmp (H : Sep w0 w l) (hq : cellsR qm 127 [.map (some pb)] ∈ l) (hm : mapD pb iI (plM pm) k ∈ l) {x y : Int} :
    Does Tryz.prog 127 #[lV x, lV y, .pointer (some ⟨qm, 0, none⟩)] w fun v w' => v = .int .i64 (cmpI (plG pm y) (plG pm x)) ∧ w' = w.drewN 1 := by
  refine Does_intro tok (Tryz.call127 _ _) Tryz.func127 rfl (by rfl) ?_
  (repeat first | refine go ?_ | ((try conv => whnf); (first | (refine St_gate ?_; refine xS ?_) | (refine StN_gate ?_; refine xN ?_)); clear H; intro w H))
  refine Draw_exact mixed [0, 1, 4, 5, 2, 3, 6, 7, 8, 9] (by decide +kernel) (fun w1 e1 => ?_)
  replace H := H.fr (w' := w1) (by subst e1; exact Fr.ofHeap rfl rfl rfl)
  (repeat first | refine go ?_ | ((try conv => whnf); (first | (refine St_gate ?_; refine xS ?_) | (refine StN_gate ?_; refine xN ?_)); clear H; intro w H))
  refine Ld_m H hq rfl ?_
  (repeat first | refine go ?_ | ((try conv => whnf); (first | (refine St_gate ?_; refine xS ?_) | (refine StN_gate ?_; refine xN ?_)); clear H; intro w H))
  refine Ld_m H hq rfl ?_
  (try conv => whnf)
  refine Call_of (fVar (x := y) _) ?_
  rintro _ _ ⟨rfl, rfl⟩
  rw [var_var]
  (try conv => whnf)
  (repeat (refine Kept_gate ?_; refine Kept_in (Sep.cellAt H hq rfl) ?_))
  (try conv => whnf)
  refine DoS_lookupD tok keyI H hm rfl rfl (Trail.var y : Int) ?_
  (try conv => whnf)
  refine Call_of (fVar (x := x) _) ?_
  rintro _ _ ⟨rfl, rfl⟩
  rw [var_var]
  (try conv => whnf)
  (repeat (refine Kept_gate ?_; first | refine Kept_in (Sep.cellAt H hq rfl) ?_ | refine Kept_in (lookupD tok keyI H hm rfl rfl (Trail.var y : Int)) ?_ | refine Kept_in (lookupD tok keyI H hm rfl rfl (Trail.var x : Int)) ?_))
  (try conv => whnf)
  refine DoS_lookupD tok keyI H hm rfl rfl (Trail.var x : Int) ?_
  rw [if_neg Bool.false_ne_true, if_neg Bool.false_ne_true, plM_get, plM_get]
  (try conv => whnf)
  refine Call_of (fCompare _) ?_
  rintro _ _ ⟨rfl, rfl⟩
  (try conv => whnf)
  (repeat (refine Kept_gate ?_; first | refine Kept_in (Sep.cellAt H hq rfl) ?_ | refine Kept_in (lookupD tok keyI H hm rfl rfl (Trail.var y : Int)) ?_ | refine Kept_in (lookupD tok keyI H hm rfl rfl (Trail.var x : Int)) ?_))
  (try conv => whnf)
  exact Ret_in ⟨rfl, e1⟩

theorem cmpLaysP {b n cap : Nat} {ls : List Lt} {rest : List Value} (H : Sep w0 w (ownR (some ⟨b, 0, none⟩) n cap 29 1 (ls.toArray.toList.map ltV) :: cellsR qm 127 [.map (some pb)] :: mapD pb iI (plM pm) k :: l))
    (hat : At w b 29 (ls.toArray.toList.map ltV ++ rest)) (hn : ls.length = n) (hcap : (ls.toArray.toList.map ltV ++ rest).length = cap) (hle : n ≤ cap) (hmax : cap ≤ maxLen) :
    CmpLays1 Tryz.prog 127 #[.pointer (some ⟨qm, 0, none⟩)] ltV (cfP pm) b 0 ls.toArray.size w := by
  intro m os dk hd x y
  obtain ⟨hat2, hfr⟩ := sorted_at (n := m) (os := os) hat hd
  have hds : dk.size = n := by rw [hd]; simpa using hn
  obtain ⟨S1, g1, g2, g3⟩ := H.at (.head _)
  have H2 := g3 _ (ownR (some ⟨b, 0, none⟩) n cap 29 1 (dk.toList.map ltV)) S1 (hfr.mono fun x _ hx => g1.1 _ (by rw [hx]; rfl)) ⟨g1.1, by
    refine ⟨by simp; omega, hle, hmax, .inr ⟨b, rest, rfl, hat2, ?_⟩⟩
    simp only [List.length_append, List.length_map, List.toList_toArray, Nat.mul_one, Array.length_toList] at hcap ⊢
    omega⟩ (fun x hx => .inl hx) _ .head
  refine (lCmp H2 (.tail _ (.head _)) (.tail _ (.tail _ (.head _))) (x := x.val) (y := y.val)).2.mono ?_
  rintro e w' ⟨v, rfl, rfl, rfl⟩
  exact ⟨rfl, 1, #[], by rw [Go.Sort.grow_empty]; rfl⟩

theorem lSort {a : Option Addr} {n cap : Nat} {xs : List Int} (H : Sep w0 w (ownR a n cap 29 1 (xs.map lV) :: cellsR qm 127 [.map (some pb)] :: mapD pb iI (plM pm) k :: l)) (ho : ∀ x ∈ xs, Lit.one x = true) (hn : n ≤ 1000000000000) :
    Does Tryz.prog 65 #[.slice a n cap, .func (.func 127) #[] #[.pointer (some ⟨qm, 0, none⟩)]] w fun v w' => v = .tuple #[] ∧
      ∃ ys : List Int, ys.Perm xs ∧ Sep w0 w' (ownR a n cap 29 1 (ys.map lV) :: cellsR qm 127 [.map (some pb)] :: mapD pb iI (plM pm) k :: l) := by
  refine ⟨Tryz.call65 _ _, ?_⟩
  have hO := H.ownM (.head _)
  by_cases h0 : n = 0
  · subst h0
    have hx : xs = [] := by have := hO.1; simp at this; exact this
    subst hx
    refine (AnyF.slices_SortFunc_none (P := Tryz.prog) (ρ := Tryz.sortL_ren) { Tryz.sortL with } a cap _ w).mono ?_
    rintro e w' ⟨rfl, rfl⟩
    exact ⟨_, rfl, rfl, [], List.Perm.refl _, H⟩
  · obtain ⟨b, rfl⟩ := hO.some (by omega)
    obtain ⟨rest, hat, hl, hcap, hle, hmax⟩ := ownRow hO
    obtain ⟨ls, rfl⟩ := exLt ho
    have hsz : ls.toArray.size = n := by simpa using hl
    have hmap : (ls.map (·.val)).map lV = ls.toArray.toList.map ltV := by simp [ltV]
    have hH : Holds ltV w b 0 ls.toArray := by
      intro j hj
      have hj' : j < ls.length := by simpa using hj
      refine ⟨?_, by simpa using hat.frozen (0 + j)⟩
      rw [hat.cell, Nat.zero_add, hmap, List.getElem?_append_left (by simpa using hj'), List.getElem?_map, List.getElem?_eq_getElem (by simpa using hj'), getElem!_pos _ j hj]
      rfl
    rw [hmap] at hat hcap H
    have hS := Any.slices_SortFunc Tryz.sortL ltV (fun _ => rfl) (cfP pm) (swoP pm) 127 #[.pointer (some ⟨qm, 0, none⟩)] b 0 cap ls.toArray w (fun args w => Tryz.call127 args w) (cmpLaysP H hat (by simpa using hsz) hcap hle hmax) hH hat.lt (by rw [hsz]; omega)
    rw [hsz] at hS
    refine hS.mono ?_
    rintro e w' ⟨rfl, d', q, os, hp, _, rfl⟩
    have hperm : d'.toList.Perm ls := by
      have h1 := hp.2.2
      have h2 := hp.1
      simp only [List.size_toArray] at h1 h2 hsz
      simp at h1
      rwa [List.take_of_length_le (by simp; omega), List.take_of_length_le (by omega)] at h1
    have hys : d'.size = ls.toArray.size := by simpa using hperm.length_eq
    obtain ⟨hat2, hfr⟩ := sorted_at (n := q) (os := os) hat hys
    refine ⟨_, rfl, rfl, d'.toList.map (·.val), hperm.map _, ?_⟩
    obtain ⟨S1, g1, g2, g3⟩ := H.at (.head _)
    refine g3 _ (ownR (some ⟨b, 0, none⟩) n cap 29 1 ((d'.toList.map (·.val)).map lV)) S1 (hfr.mono fun x _ hx => g1.1 _ (by rw [hx]; rfl)) ⟨g1.1, ?_⟩ (fun x hx => .inl hx) _ .head
    have hmap2 : (d'.toList.map (·.val)).map lV = d'.toList.map ltV := by simp [ltV]
    have hyl : d'.size = n := by omega
    rw [hmap2]
    refine ⟨by simp; omega, hle, hmax, .inr ⟨b, rest, rfl, hat2, ?_⟩⟩
    simp only [List.length_append, List.length_map, List.toList_toArray, Nat.mul_one, Array.length_toList] at hcap ⊢
    have := hperm.length_eq
    simp at this
    omega
end
end Go.Proofs.YtcibiidebknkgaaGreat
