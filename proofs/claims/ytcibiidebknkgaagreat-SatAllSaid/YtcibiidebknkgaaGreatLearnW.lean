/- A student in memory; what is added to what is learnt. -/
import Derived.Test.YtcibiidebknkgaaGreatLearnN
import Derived.Test.YtcibiidebknkgaaGreatMapD
import Derived.Test.YtcibiidebknkgaaGreatWatchY
set_option linter.unusedVariables false
set_option linter.unusedSimpArgs false
namespace Go.Watch
open Go.Trail
section
variable {S : Nat → Prop} {s s' : St} {top : Int} {T R : List Int}
theorem SOk.few (hg : Good S s) (h : SOk s.E top T R) : (T ++ R).length ≤ s.n := by
  have := pigeons s.n ((T ++ R).map var) (by rw [List.pairwise_map]; exact h.once) (fun v hv => by
    obtain ⟨x, hx, rfl⟩ := List.mem_map.1 hv
    obtain ⟨e, he, hel⟩ := h.fls x hx
    have h1 := hg.inv.ok e he
    have h2 : var e.lit = var x := by rw [hel, var_neg]
    have := var_pos.2 h1.1
    omega)
  simpa using this
theorem seeL_next {E : List Ent} {top but : Int} {p : List Int × List Int} {ys : List Int} {i : Nat} {y : Int} (h : ys[i]? = some y) : seeL E top but p (ys.take (i + 1)) = seeP E top but (seeL E top but p (ys.take i)) y := by
  unfold seeL
  rw [List.take_add_one, h, List.foldl_append]; rfl
end
end Go.Watch
namespace Go.Proofs.YtcibiidebknkgaaGreat
open Go Go.Vc Go.Watch
open Go.Trail (Ent value find upto okLit litsV)
set_option maxHeartbeats 4000000
set_option maxRecDepth 100000

abbrev iI (x : Int) : Value := .int .i64 x
theorem keyI : MKey Tryz.prog 3 fun v => ∃ x : Int, v = iI x := MKey.int Tryz.underlying3
theorem iI_inj : ∀ a b : Int, iI a = iI b → a = b := by intro a b h; simpa [iI] using h
def seenM (E : List Ent) (T R : List Int) (v : Int) : Option Value := if ∃ x ∈ T ++ R, (Trail.var x : Int) = v then some (iI (lvE E v)) else none
theorem seenM_some {E : List Ent} {T R : List Int} {v : Nat} (h : SeenB T R v) : seenM E T R v = some (iI (lvE E v)) := by
  obtain ⟨x, hx, hv⟩ := h
  exact if_pos ⟨x, hx, by rw [hv]⟩
theorem seenM_none {E : List Ent} {T R : List Int} {v : Nat} (h : ¬ SeenB T R v) : seenM E T R v = none := if_neg fun ⟨x, hx, hv⟩ => h ⟨x, hx, by omega⟩
theorem seenM_nil {E : List Ent} : seenM E [] [] = fun _ => none := by funext v; simp [seenM]
theorem seenM_put {E : List Ent} {T R T' R' : List Int} {y : Int} (h : ∀ x, x ∈ T' ++ R' ↔ x ∈ T ++ R ∨ x = y) : putM (seenM E T R) (Trail.var y : Int) (iI (lvE E (Trail.var y))) = seenM E T' R' := by
  funext v
  unfold putM
  by_cases hv : v = (Trail.var y : Int)
  · subst hv
    rw [if_pos rfl]
    exact (if_pos ⟨y, (h y).2 (.inr rfl), rfl⟩).symm
  · rw [if_neg hv]
    unfold seenM
    by_cases hx : ∃ x ∈ T ++ R, (Trail.var x : Int) = v
    · obtain ⟨x, h1, h2⟩ := hx
      rw [if_pos ⟨x, h1, h2⟩, if_pos ⟨x, (h x).2 (.inl h1), h2⟩]
    · rw [if_neg hx, if_neg]
      rintro ⟨x, h1, h2⟩
      rcases (h x).1 h1 with h1 | rfl
      · exact hx ⟨x, h1, h2⟩
      · exact hv h2.symm
theorem seenM_del {E : List Ent} {T R T' R' : List Int} {v : Nat} (h : ∀ x, x ∈ T' ++ R' ↔ x ∈ T ++ R ∧ Trail.var x ≠ v) : delM (seenM E T R) (v : Int) = seenM E T' R' := by
  funext u
  unfold delM
  by_cases hu : u = (v : Int)
  · subst hu
    rw [if_pos rfl]
    refine (if_neg ?_).symm
    rintro ⟨x, h1, h2⟩
    exact ((h x).1 h1).2 (by omega)
  · rw [if_neg hu]
    unfold seenM
    by_cases hx : ∃ x ∈ T ++ R, (Trail.var x : Int) = u
    · obtain ⟨x, h1, h2⟩ := hx
      rw [if_pos ⟨x, h1, h2⟩, if_pos ⟨x, (h x).2 ⟨h1, fun e => hu (by rw [← h2, e])⟩, h2⟩]
    · rw [if_neg hx, if_neg]
      rintro ⟨x, h1, h2⟩
      exact hx ⟨x, ((h x).1 h1).1, h2⟩

/-- A student: what it holds. -/
structure Spot where
  sb : Nat
  mb : Nat
  n : Nat
  ra : Option Addr
  rc : Nat
abbrev stuC (p : Spot) (eb : Nat) (top : Int) (T R : List Int) : Res := cellsR p.sb 150 [.pointer (some ⟨eb, 0, none⟩), .map (some p.mb), iI top, iI T.length, .slice p.ra R.length p.rc]
abbrev stuM (p : Spot) (E : List Ent) (T R : List Int) : Res := mapD p.mb iI (seenM E T R) p.n
abbrev stuO (p : Spot) (R : List Int) : Res := ownR p.ra R.length p.rc 29 1 (R.map lV)
abbrev stu (p : Spot) (eb : Nat) (E : List Ent) (top : Int) (T R : List Int) (l : List Res) : List Res := stuC p eb top T R :: stuM p E T R :: stuO p R :: l

section
variable {w0 w : World} {l : List Res} {eb : Nat} {s : St} {S : Nat → Prop} {p : Spot} {top : Int} {T R : List Int}

theorem lAdd (H : Sep w0 w (engR eb s :: stu p eb s.E top T R l)) (hg : Watch.Good S s) {ys : List Int} {a : Option Addr} {c : Nat} {but : Int} (hs : ∀ {w' : World} {l' : List Res}, Sep w0 w' (l' ++ l) → Src w' a ys.length 1 (ys.map lV))
    (hm : ys.length ≤ 1000000000) (hok : SOk s.E top T R) (hy : ∀ y ∈ ys, (Trail.var y : Int) ≠ but → tru s.E (-y) ∧ lvE s.E (Trail.var y) ≤ top) :
    Does Tryz.prog 98 #[.pointer (some ⟨p.sb, 0, none⟩), .slice a ys.length c, iI but] w fun v w' => v = .tuple #[] ∧ ∃ p', p'.sb = p.sb ∧ p'.mb = p.mb ∧
      Sep w0 w' (engR eb s :: stu p' eb s.E top (seeL s.E top but (T, R) ys).1 (seeL s.E top but (T, R) ys).2 l) := by
  refine Does_intro tok (Tryz.call98 _ _) Tryz.func98 rfl (by rfl) ?_
  obtain ⟨sb, mb, n, ra, rc⟩ := p
  (repeat first | refine go ?_ | ((try conv => whnf); (first | (refine St_gate ?_; refine xS ?_) | (refine StN_gate ?_; refine xN ?_)); clear H; intro w H))
  refine Loop_intro (fun q : Nat × Nat × Option Addr × Nat => [(14, .int .i64 (q.1 : Int))]) (fun q w => q.1 ≤ ys.length ∧ Sep w0 w (engR eb s :: stu ⟨sb, mb, q.2.1, q.2.2.1, q.2.2.2⟩ eb s.E top (seeL s.E top but (T, R) (ys.take q.1)).1 (seeL s.E top but (T, R) (ys.take q.1)).2 l)) (fun q => ys.length - q.1)
    (0, n, ra, rc) ⟨rfl, trivial⟩ ⟨Nat.zero_le _, H⟩ ?_
  clear H
  rintro ⟨i, n, ra, rc⟩ w ⟨hi, H⟩
  simp only [] at hi H ⊢
  refine Br_dec (fun k1 => ?_) (fun k1 => ?_)
  · have hlt : i < ys.length := by omega
    have hsrc : Src w a ys.length 1 (ys.map lV) := hs (l' := [_, _, _, _]) H
    obtain ⟨yb, yo, rfl⟩ := hsrc.addr (by rw [List.length_map]; omega)
    have hyi : ys[i]? = some ys[i] := List.getElem?_eq_getElem hlt
    have hyy := hy _ (List.getElem_mem hlt)
    have hnx := seeL_next (E := s.E) (top := top) (but := but) (p := (T, R)) hyi
    have hok1 := (SOk.addL (p := (T, R)) (ys := ys.take i) hok fun y hy1 => hy y (List.mem_of_mem_take hy1)).1
    have hok2 := (SOk.addL (p := (T, R)) (ys := ys.take (i + 1)) hok fun y hy1 => hy y (List.mem_of_mem_take hy1)).1
    rw [hnx] at hok2
    generalize seeL s.E top but (T, R) (ys.take i) = q at hnx hok1 hok2 H
    obtain ⟨T1, R1⟩ := q
    generalize ys[i] = y at hyi hyy hnx hok2
    simp only [] at hok1 H
    have few := hok1.few hg
    have hn := hg.inv.vars
    rw [List.length_append] at few
    refine Ix_in i rfl hlt ?_
    refine Ld_src (j := i) hsrc (v := lV y) (by rw [List.getElem?_map, hyi]; rfl) ?_
    (repeat first | refine go ?_ | ((try conv => whnf); (first | (refine St_gate ?_; refine xS ?_) | (refine StN_gate ?_; refine xN ?_)); clear H; intro w H))
    refine Call_of (fVar (x := y) w) ?_
    rintro _ _ ⟨rfl, rfl⟩
    rw [var_var]
    (repeat first | refine go ?_ | ((try conv => whnf); (first | (refine St_gate ?_; refine xS ?_) | (refine StN_gate ?_; refine xN ?_)); clear H; intro w H))
    obtain ⟨r, hr, H⟩ := engOpen H
    (repeat first | refine go ?_ | ((try conv => whnf); (first | (refine St_gate ?_; refine xS ?_) | (refine StN_gate ?_; refine xN ?_)); clear H; intro w H))
    refine Call_of (sTrailLevel H mm) ?_
    clear H hsrc
    rintro _ w ⟨rfl, H⟩
    replace H := engClose hr H
    change Vc.Sep w0 w (engR eb s :: stu _ eb s.E top T1 R1 l) at H
    have hlv : (knownOf s.E (Trail.var y : Int)).2.1 = lvE s.E (Trail.var y) := rfl
    rw [hlv]
    (repeat first | refine go ?_ | ((try conv => whnf); (first | (refine St_gate ?_; refine xS ?_) | (refine StN_gate ?_; refine xN ?_)); clear H; intro w H))
    refine Do_lookupD tok keyI H mm rfl rfl (Trail.var y : Int) ?_
    by_cases h1 : SeenB T1 R1 (Trail.var y)
    · rw [seenM_some h1]
      rw [show seeP s.E top but (T1, R1) y = (T1, R1) from if_pos (.inl h1)] at hnx
      refine Br_true ?_
      (repeat first | refine go ?_ | ((try conv => whnf); (first | (refine St_gate ?_; refine xS ?_) | (refine StN_gate ?_; refine xN ?_)); clear H; intro w H))
      refine ⟨(i + 1, n, ra, rc), ⟨congrArg some (vint (by simp)), trivial⟩, ⟨by omega, ?_⟩, by simp; omega⟩
      simp only [hnx]; exact H
    rw [seenM_none h1]
    refine Br_false ?_
    (repeat first | refine go ?_ | ((try conv => whnf); (first | (refine St_gate ?_; refine xS ?_) | (refine StN_gate ?_; refine xN ?_)); clear H; intro w H))
    by_cases h2 : (Trail.var y : Int) = but
    · rw [show seeP s.E top but (T1, R1) y = (T1, R1) from if_pos (.inr (.inl h2))] at hnx
      (repeat first | refine go ?_ | ((try conv => whnf); (first | (refine St_gate ?_; refine xS ?_) | (refine StN_gate ?_; refine xN ?_)); clear H; intro w H))
      refine ⟨(i + 1, n, ra, rc), ⟨congrArg some (vint (by simp)), trivial⟩, ⟨by omega, ?_⟩, by simp; omega⟩
      simp only [hnx]; exact H
    by_cases h3 : lvE s.E (Trail.var y) ≤ 0
    · rw [show seeP s.E top but (T1, R1) y = (T1, R1) from if_pos (.inr (.inr h3))] at hnx
      (repeat first | refine go ?_ | ((try conv => whnf); (first | (refine St_gate ?_; refine xS ?_) | (refine StN_gate ?_; refine xN ?_)); clear H; intro w H))
      refine ⟨(i + 1, n, ra, rc), ⟨congrArg some (vint (by simp)), trivial⟩, ⟨by omega, ?_⟩, by simp; omega⟩
      simp only [hnx]; exact H
    (repeat first | refine go ?_ | ((try conv => whnf); (first | (refine St_gate ?_; refine xS ?_) | (refine StN_gate ?_; refine xN ?_)); clear H; intro w H))
    refine DoU_putD iI_inj tok keyI H mm rfl (Trail.var y : Int) (iI (lvE s.E (Trail.var y))) ?_
    clear H
    intro w H
    replace H := H _ (by repeat first | exact Upd.head | apply Upd.tail)
    obtain ⟨n2, hn2⟩ : ∃ n2, (if (seenM s.E T1 R1 (Trail.var y : Int)).isSome = true then n else n + 1) = n2 := ⟨_, rfl⟩
    rw [hn2] at H
    (repeat first | refine go ?_ | ((try conv => whnf); (first | (refine St_gate ?_; refine xS ?_) | (refine StN_gate ?_; refine xN ?_)); clear H; intro w H))
    have hno : ¬ (SeenB T1 R1 (Trail.var y) ∨ (Trail.var y : Int) = but ∨ lvE s.E (Trail.var y) ≤ 0) := fun h => h.elim h1 fun h => h.elim h2 h3
    by_cases h4 : lvE s.E (Trail.var y) = top
    · rw [show seeP s.E top but (T1, R1) y = (T1 ++ [y], R1) from (if_neg hno).trans (if_pos h4)] at hnx
      rw [seenM_put (T' := T1 ++ [y]) (R' := R1) (by intro x; simp only [List.mem_append, List.mem_singleton]; constructor <;> (intro h; rcases h with (h | h) | h <;> simp [h]))] at H
      (repeat first | refine go ?_ | ((try conv => whnf); (first | (refine St_gate ?_; refine xS ?_) | (refine StN_gate ?_; refine xN ?_)); clear H; intro w H))
      refine ⟨(i + 1, n2, ra, rc), ⟨congrArg some (vint (by simp)), trivial⟩, ⟨by omega, ?_⟩, by simp; omega⟩
      simp only [hnx]
      have e : (((T1 ++ [y]).length : Nat) : Int) = (T1.length : Int) + 1 := by simp
      unfold stu stuC
      rw [e]
      exact H
    · rw [show seeP s.E top but (T1, R1) y = (T1, R1 ++ [y]) from (if_neg hno).trans (if_neg h4)] at hnx
      rw [seenM_put (T' := T1) (R' := R1 ++ [y]) (by intro x; simp only [List.mem_append, List.mem_singleton, or_assoc])] at H
      (repeat first | refine go ?_ | ((try conv => whnf); (first | (refine St_gate ?_; refine xS ?_) | (refine StN_gate ?_; refine xN ?_)); clear H; intro w H))
      (refine Nw_sep H ?_; clear H; intro nb w H; (try simp only [Value.cells, List.toList_toArray, List.append_nil, List.cons_append, List.nil_append] at H))
      (repeat first | refine go ?_ | ((try conv => whnf); (first | (refine St_gate ?_; refine xS ?_) | (refine StN_gate ?_; refine xN ?_)); clear H; intro w H))
      (refine DoN_gate ?_; refine append_one tok H rfl rfl rfl rfl rfl (by decide) mm (m := 1) rfl (by simp [oneCell]) (by omega) (by unfold maxLen; omega) ?_; clear H; intro ra' rc' w H; replace H := H _ (by repeat first | exact Upd.head | apply Upd.tail))
      (repeat first | refine go ?_ | ((try conv => whnf); (first | (refine St_gate ?_; refine xS ?_) | (refine StN_gate ?_; refine xN ?_)); clear H; intro w H))
      refine ⟨(i + 1, n2, ra', rc'), ⟨congrArg some (vint (by simp)), trivial⟩, ⟨by omega, ?_⟩, by simp; omega⟩
      simp only [hnx]
      have e : (R1 ++ [y]).length = R1.length + 1 := by simp
      have e2 : R1.map lV ++ [lV y] = (R1 ++ [y]).map lV := by simp
      unfold stu stuC stuO
      simp only []
      rw [e, ← e2]
      exact H
  · obtain rfl : i = ys.length := by omega
    rw [List.take_length] at H
    (repeat first | refine go ?_ | ((try conv => whnf); (first | (refine St_gate ?_; refine xS ?_) | (refine StN_gate ?_; refine xN ?_)); clear H; intro w H))
    exact Ret_in ⟨rfl, ⟨sb, mb, n, ra, rc⟩, rfl, rfl, H⟩
end
end Go.Proofs.YtcibiidebknkgaaGreat
