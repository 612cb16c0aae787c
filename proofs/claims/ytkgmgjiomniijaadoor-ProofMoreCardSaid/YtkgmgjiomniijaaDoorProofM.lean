/- Plain: clauses at hand, what follows of them, a log gone through; an engine that has just those clauses. -/
import Derived.Test.YtkgmgjiomniijaaDoorWatchU
set_option linter.unusedVariables false
set_option linter.unusedSimpArgs false
namespace Go.Watch
open Go.Trail
/-- The clauses that are still at hand, of those that were added. -/
def hand (A : List (List Int × Bool)) : List (List Int) := (A.filter fun x => x.2).map fun x => x.1
def NegC (k : List Int) (z : Int) : Prop := ∃ y ∈ k, z = -y
def Foll (A : List (List Int × Bool)) (k : List Int) : Prop := Lit.bothB k = true ∨ Conf (GamL (hand A)) (NegC k)
def idsOf (A : List (List Int × Bool)) (k : List Int) : List Nat := (List.range A.length).filter fun i => decide (A[i]? = some (k, true))
def Goes (A : List (List Int × Bool)) (s : Bool × List Int) (B : List (List Int × Bool)) : Prop :=
  (s.1 = true ∧ ∃ i, (idsOf A s.2).getLast? = some i ∧ B = A.set i (s.2, false)) ∨ (s.1 = false ∧ Foll A s.2 ∧ B = A ++ [(s.2, true)])
def Stuck (A : List (List Int × Bool)) (s : Bool × List Int) : Prop := (s.1 = true ∧ idsOf A s.2 = []) ∨ (s.1 = false ∧ ¬ Foll A s.2)
/-- A log gone through: the first step that isn't one. -/
inductive Run : List (List Int × Bool) → List (Bool × List Int) → Option Nat → Prop
  | nil {A : List (List Int × Bool)} : Run A [] none
  | stuck {A : List (List Int × Bool)} {s : Bool × List Int} {r : List (Bool × List Int)} : Stuck A s → Run A (s :: r) (some 0)
  | go {A B : List (List Int × Bool)} {s : Bool × List Int} {r : List (Bool × List Int)} {o : Option Nat} : Goes A s B → Run B r o → Run A (s :: r) (o.map (· + 1))

section
variable {A B C : List (List Int × Bool)} {s : Bool × List Int} {l r : List (Bool × List Int)} {o o' : Option Nat} {k : List Int}
theorem mem_hand {c : List Int} : c ∈ hand A ↔ (c, true) ∈ A := by
  unfold hand
  rw [List.mem_map]
  constructor
  · rintro ⟨⟨x, b⟩, h, rfl⟩
    rw [List.mem_filter] at h
    obtain ⟨h1, h2⟩ := h
    simp only [] at h2
    subst h2; exact h1
  · intro h
    exact ⟨(c, true), List.mem_filter.2 ⟨h, rfl⟩, rfl⟩
theorem mem_ids {i : Nat} : i ∈ idsOf A k ↔ A[i]? = some (k, true) := by
  unfold idsOf
  rw [List.mem_filter, decide_eq_true_iff, List.mem_range]
  exact ⟨fun h => h.2, fun h => ⟨(List.getElem?_eq_some_iff.1 h).1, h⟩⟩
theorem ids_len : (idsOf A k).length = A.count (k, true) := by
  unfold idsOf
  have h : ∀ (n : Nat), n ≤ A.length → ((List.range n).filter fun i => decide (A[i]? = some (k, true))).length = (A.take n).count (k, true) := by
    intro n
    induction n with
    | zero => intro _; simp
    | succ n ih =>
      intro hn
      have hA : A[n]? = some A[n] := List.getElem?_eq_getElem (by omega)
      rw [List.range_succ, List.filter_append, List.length_append, ih (by omega), List.take_add_one, hA, List.count_append]
      congr 1
      by_cases e : A[n] = (k, true)
      · simp [e, hA]
      · simp [e, hA, List.count_eq_zero]
  have := h A.length (Nat.le_refl _)
  rwa [List.take_length] at this
theorem ids_nil : idsOf A k = [] ↔ (k, true) ∉ A := by
  rw [← List.length_eq_zero_iff, ids_len, List.count_eq_zero]
theorem Goes.det (h : Goes A s B) (h' : Goes A s C) : B = C := by
  rcases h with ⟨h1, i, h2, rfl⟩ | ⟨h1, h2, rfl⟩
  · rcases h' with ⟨_, j, h4, rfl⟩ | ⟨h3, _⟩
    · rw [h2] at h4; cases h4; rfl
    · rw [h1] at h3; cases h3
  · rcases h' with ⟨h3, _⟩ | ⟨_, _, rfl⟩
    · rw [h1] at h3; cases h3
    · rfl
theorem Goes.not_stuck (h : Goes A s B) : ¬ Stuck A s := by
  rintro (⟨h3, h4⟩ | ⟨h3, h4⟩)
  · rcases h with ⟨h1, i, h2, rfl⟩ | ⟨h1, h2, rfl⟩
    · rw [h4] at h2; cases h2
    · rw [h1] at h3; cases h3
  · rcases h with ⟨h1, i, h2, rfl⟩ | ⟨h1, h2, rfl⟩
    · rw [h1] at h3; cases h3
    · exact h4 h2
theorem Run.det (h : Run A l o) (h' : Run A l o') : o = o' := by
  induction h generalizing o' with
  | nil => cases h'; rfl
  | stuck h1 =>
    cases h' with
    | stuck _ => rfl
    | go h2 _ => exact (h2.not_stuck h1).elim
  | go h1 _ ih =>
    cases h' with
    | stuck h2 => exact (h1.not_stuck h2).elim
    | go h2 h3 =>
      have e := h1.det h2
      subst e
      rw [ih h3]
theorem Run.take (h : Run A l o) : ∀ n, Run A (l.take n) (o.bind fun i => if i < n then some i else none) := by
  induction h with
  | nil => intro n; rw [List.take_nil]; exact .nil
  | stuck h1 =>
    intro n
    cases n with
    | zero => exact .nil
    | succ n => exact .stuck h1
  | @go A B s r o h1 _ ih =>
    intro n
    cases n with
    | zero => cases o <;> exact .nil
    | succ n =>
      have := Run.go h1 (ih n)
      cases o with
      | none => exact this
      | some i =>
        simp only [Option.bind_some, Option.map_some] at this ⊢
        by_cases hi : i < n
        · rw [if_pos hi] at this
          rw [if_pos (by omega)]; exact this
        · rw [if_neg hi] at this
          rw [if_neg (by omega)]; exact this
theorem Run.lt {n : Nat} (h : Run A l (some n)) : n < l.length := by
  generalize ho : some n = o at h
  induction h generalizing n with
  | nil => cases ho
  | stuck _ => cases ho; simp
  | @go A B s r o _ _ ih =>
    cases o with
    | none => cases ho
    | some i =>
      simp only [Option.map_some, Option.some.injEq] at ho
      have := ih rfl
      simp; omega
/-! More clauses -/
def Less (A B : List (List Int × Bool)) : Prop := ∀ k, A.count (k, true) ≤ B.count (k, true)
theorem Less.hand (h : Less A B) : ∀ c, GamL (hand A) c → GamL (hand B) c := by
  rintro c ⟨k, hk, h2⟩
  refine ⟨k, ?_, h2⟩
  rw [mem_hand] at hk ⊢
  have := h k
  have h3 := List.count_pos_iff.2 hk
  exact List.count_pos_iff.1 (by omega)
theorem Less.foll (h : Less A B) (hf : Foll A k) : Foll B k := hf.imp id fun h2 => h2.mono h.hand fun x hx => .dec hx
theorem count_off {i : Nat} (hi : A[i]? = some (k, true)) (k' : List Int) : (A.set i (k, false)).count (k', true) + (if k' = k then 1 else 0) = A.count (k', true) := by
  obtain ⟨h1, h2⟩ := List.getElem?_eq_some_iff.1 hi
  rw [List.count_set h1, h2]
  have e1 : (((k, true) : List Int × Bool) == (k', true)) = decide (k' = k) := by
    rw [Bool.eq_iff_iff]; simp; exact ⟨fun h => h.symm, fun h => h.symm⟩
  have e2 : (((k, false) : List Int × Bool) == (k', true)) = false := by simp
  rw [e1, e2]
  by_cases hk : k' = k
  · subst hk
    have : 0 < A.count (k', true) := List.count_pos_iff.2 (List.mem_of_getElem? hi)
    simp; omega
  · simp [hk]
theorem Run.more (h : Run A l none) (hl : Less A B) (h' : Run B l o) : o = none := by
  generalize ho : none = oo at h
  induction h generalizing B o with
  | nil => cases h'; rfl
  | stuck _ => cases ho
  | @go A A' s r o1 h1 h2 ih =>
    have ho1 : none = o1 := by cases o1; rfl; cases ho
    cases h' with
    | stuck h3 =>
      exfalso
      rcases h1 with ⟨k1, i, k2, rfl⟩ | ⟨k1, k2, rfl⟩
      · rcases h3 with ⟨_, k3⟩ | ⟨k3, _⟩
        · rw [ids_nil] at k3
          have := hl s.2
          have k4 := mem_ids.1 (List.mem_of_getLast? k2)
          have k5 := List.count_pos_iff.2 (List.mem_of_getElem? k4)
          exact k3 (List.count_pos_iff.1 (by omega))
        · rw [k1] at k3; cases k3
      · rcases h3 with ⟨k3, _⟩ | ⟨_, k3⟩
        · rw [k1] at k3; cases k3
        · exact k3 (hl.foll k2)
    | @go _ B' _ _ o2 h3 h4 =>
      have hl' : Less A' B' := by
        rcases h1 with ⟨k1, i, k2, rfl⟩ | ⟨k1, k2, rfl⟩
        · rcases h3 with ⟨_, j, k3, rfl⟩ | ⟨k3, _⟩
          · intro k
            have e1 := count_off (mem_ids.1 (List.mem_of_getLast? k2)) k
            have e2 := count_off (mem_ids.1 (List.mem_of_getLast? k3)) k
            have := hl k
            omega
          · rw [k1] at k3; cases k3
        · rcases h3 with ⟨k3, _⟩ | ⟨_, _, rfl⟩
          · rw [k1] at k3; cases k3
          · intro k
            rw [List.count_append, List.count_append]
            have := hl k
            omega
      rw [ih hl' h4 ho1]
/-! What is proved holds -/
theorem conf_holds2 {C : List (List Int)} {c : List Int} {T : Int → Prop} (h : Conf (GamL C) (NegC c)) (hT : ∀ k ∈ C, ∃ x ∈ k, T x) (hn : ∀ x, T x → ¬ T (-x)) (hc : ∀ y ∈ c, ¬ T y → T (-y)) : ∃ y ∈ c, T y := by
  apply Classical.byContradiction
  intro hno
  have hall : ∀ y ∈ c, T (-y) := fun y hy => hc y hy fun h => hno ⟨y, hy, h⟩
  have hfo : ∀ x, Fo (GamL C) (NegC c) x → T x := by
    intro x hx
    induction hx with
    | dec h => obtain ⟨y, hy, rfl⟩ := h; exact hall y hy
    | @cls k x hk hx _ ih =>
      obtain ⟨j, hj, _, hm⟩ := hk
      obtain ⟨z, hz, hzT⟩ := hT j hj
      by_cases hzx : z = x
      · exact hzx ▸ hzT
      · exact (hn z hzT (ih z ((hm z).2 hz) hzx)).elim
  obtain ⟨k, ⟨j, hj, _, hm⟩, hf⟩ := h
  obtain ⟨z, hz, hzT⟩ := hT j hj
  exact hn z hzT (hfo _ (hf z ((hm z).2 hz)))
theorem Foll.holds {T : Int → Prop} (h : Foll A k) (hT : ∀ c, (c, true) ∈ A → ∃ x ∈ c, T x) (hn : ∀ x, T x → ¬ T (-x)) (hk : ∀ y ∈ k, ¬ T y → T (-y)) : ∃ y ∈ k, T y := by
  rcases h with h | h
  · obtain ⟨x, h1, h2⟩ := Lit.bothB_iff.1 h
    by_cases hx : T x
    · exact ⟨x, h1, hx⟩
    · exact ⟨-x, h2, hk x h1 hx⟩
  · exact conf_holds2 h (fun c hc => hT c (mem_hand.1 hc)) hn hk
theorem Run.holds {T : Int → Prop} (h : Run A l o) (hT : ∀ c, (c, true) ∈ A → ∃ x ∈ c, T x) (hn : ∀ x, T x → ¬ T (-x)) (hl : ∀ s ∈ l, ∀ y ∈ s.2, ¬ T y → T (-y)) :
    ∀ (i : Nat) s, l[i]? = some s → (∀ n, o = some n → i < n) → s.1 = false → ∃ y ∈ s.2, T y := by
  induction h with
  | nil => intro i s hs; simp at hs
  | stuck _ => intro i s hs ho; have := ho 0 rfl; omega
  | @go A B s r o h1 h2 ih =>
    intro i s' hs ho hg
    cases i with
    | zero =>
      simp at hs; subst hs
      rcases h1 with ⟨k1, _⟩ | ⟨_, k2, _⟩
      · rw [hg] at k1; cases k1
      · exact k2.holds hT hn (hl _ (.head _))
    | succ i =>
      refine ih ?_ (fun s hs => hl s (.tail _ hs)) i s' (by simpa using hs) (fun n hn => ?_) hg
      · intro c hc
        rcases h1 with ⟨k1, j, k2, rfl⟩ | ⟨k1, k2, rfl⟩
        · rcases List.mem_or_eq_of_mem_set hc with hc | hc
          · exact hT c hc
          · cases hc
        · rw [List.mem_append, List.mem_singleton] at hc
          rcases hc with hc | hc
          · exact hT c hc
          · cases hc
            exact k2.holds hT hn (hl _ (.head _))
      · have := ho (n + 1) (by rw [hn]; rfl)
        omega
end

/-! An engine that has just the clauses at hand -/
def S0 (s : St) (L : Nat) : Prop := L = 0 ∨ L = s.D
structure Bn (s : St) (n : Nat) (A : List (List Int × Bool)) (m : Nat) : Prop where
  good : Good (S0 s) s
  n : s.n = n
  len : s.C.length = A.length
  cls : ∀ (i : Nat) (k : List Int) (b : Bool), A[i]? = some (k, b) → ∃ c, s.C[i]? = some c ∧ c.on = b ∧ c.idle = Lit.bothB k ∧ ∀ x, x ∈ c.lits ↔ x ∈ k
  lev : ∀ e ∈ s.E, 1 ≤ e.lev
  few : s.F.length + s.Y.length ≤ m
section
variable {s s' : St} {n m m' : Nat} {A : List (List Int × Bool)} {k xs : List Int}
theorem Bn.gam (h : Bn s n A m) (c : List Int) : Gam s c ↔ GamL (hand A) c := by
  constructor
  · rintro ⟨q, hq, h1, h2, h3⟩
    obtain ⟨i, hi⟩ := List.getElem?_of_mem hq
    have hlt := (List.getElem?_eq_some_iff.1 hi).1
    rw [h.len] at hlt
    obtain ⟨c', k1, k2, k3, k4⟩ := h.cls i A[i].1 A[i].2 (List.getElem?_eq_getElem hlt)
    rw [hi] at k1; cases k1
    refine ⟨A[i].1, ?_, by rw [← k3]; exact h2, fun x => (h3 x).trans (k4 x)⟩
    rw [mem_hand, ← h1, k2]
    exact List.getElem_mem hlt
  · rintro ⟨q, hq, h1, h2⟩
    rw [mem_hand] at hq
    obtain ⟨i, hi⟩ := List.getElem?_of_mem hq
    obtain ⟨c', k1, k2, k3, k4⟩ := h.cls i q true hi
    exact ⟨c', List.mem_of_getElem? k1, k2, by rw [k3]; exact h1, fun x => (h2 x).trans (k4 x).symm⟩
theorem Bn.mono (h : Bn s n A m) (hm : m ≤ m') : Bn s n A m' := { h with few := Nat.le_trans h.few hm }
theorem Bn.new (hn : n ≤ 262144) : Bn (st0 n) n [] 0 :=
  ⟨Good.new hn (.inl rfl), rfl, rfl, fun i k b h => by simp at h, fun e he => (by cases he), Nat.le_refl _⟩
theorem Bn.ext (h : Bn s n A m) (hg : Good (S0 s) s') (x : Ext s s') (hD : s.D ≠ 0 ∨ s'.E = s.E) (hm : s'.F.length + s'.Y.length ≤ m') : Bn s' n A m' := by
  refine ⟨by unfold S0; rw [x.D]; exact hg, x.n.trans h.n, x.len.trans h.len, fun i k b hA => ?_, fun e he => ?_, hm⟩
  · obtain ⟨c, k1, k2, k3, k4⟩ := h.cls i k b hA
    obtain ⟨c', a1, a2, a3, a4⟩ := x.C i c k1
    exact ⟨c', a1, a2.trans k2, a3.trans k3, fun y => (a4.mem_iff).trans (k4 y)⟩
  · rcases hD with hD | hD
    · obtain ⟨G, h1, h2⟩ := x.E
      rw [h1, List.mem_append] at he
      rcases he with he | he
      · exact h.lev e he
      · rw [(h2 e he).1]; omega
    · rw [hD] at he; exact h.lev e he
theorem Bn.dec (h : Bn s n A m) {x : Int} (hl : okLit x = true) (hn : var x ≤ n) (hv : value s.E x = 0) : Bn (decide' s x) n A m := by
  refine ⟨h.good.decide hl (by rw [h.n]; exact hn) hv (S' := S0 (decide' s x)) ?_ (.inr rfl) ?_, h.n, h.len, h.cls, ?_, h.few⟩
  · rintro L (rfl | rfl)
    · exact .inl (.inl rfl)
    · exact .inr rfl
  · rintro e he L (rfl | rfl) hL
    · have := h.lev e (List.mem_of_mem_drop he); omega
    · exact Nat.le_refl _
  · intro e he
    have he' : e ∈ s.E ++ [⟨x, s.D + 1, -1⟩] := he
    rw [List.mem_append, List.mem_singleton] at he'
    rcases he' with he' | rfl
    · exact h.lev e he'
    · exact Nat.succ_le_succ (Nat.zero_le _)
theorem Bn.back (h : Bn s n A m) : Bn (Watch.back s 0) n A m ∧ (Watch.back s 0).E = [] ∧ (Watch.back s 0).D = 0 ∧ (Watch.back s 0).h = 0 := by
  have hE : upto s.E 0 = [] := by
    unfold upto
    rw [List.filter_eq_nil_iff]
    intro e he
    have := h.lev e he
    simp; omega
  have hE' : (Watch.back s 0).E = [] := hE
  have hg : Good (S0 s) (Watch.back s 0) := h.good.back (.inl rfl) (Nat.zero_le _)
  refine ⟨⟨hg.weaken (fun L hL => .inl (by rcases hL with h | h; exact h; exact h)) (.inl rfl), h.n, h.len, h.cls, fun e he => ?_, ?_⟩, hE', rfl, ?_⟩
  · rw [hE'] at he; cases he
  · have hm := h.few
    show (s.F ++ (s.Y.filter fun p => decide (0 < p.2)).map (·.1)).length + (s.Y.filter fun p => !decide (0 < p.2)).length ≤ m
    rw [List.length_append, List.length_map]
    have h1 : ∀ l : List (Nat × Nat), (l.filter fun p => decide (0 < p.2)).length + (l.filter fun p => !decide (0 < p.2)).length = l.length := by
      intro l
      induction l with
      | nil => rfl
      | cons p l ih =>
        cases hp : decide (0 < p.2)
        · simp [List.filter_cons, hp] at ih ⊢; omega
        · simp [List.filter_cons, hp] at ih ⊢; omega
    have := h1 s.Y
    omega
  · show min s.h (upto s.E 0).length = 0
    rw [hE]; exact Nat.min_zero _
theorem Bn.add (h : Bn s n A m) {own : List Int} (hf : fitB n xs = true) (hcl : Lit.Clean xs own) : Bn (addP s (leadP s.E own) (Lit.bothB xs)) n (A ++ [(own, true)]) (m + 1) ∧
    (addP s (leadP s.E own) (Lit.bothB xs)).E = s.E ∧ (addP s (leadP s.E own) (Lit.bothB xs)).D = s.D ∧ (addP s (leadP s.E own) (Lit.bothB xs)).h = s.h := by
  have hfit := fitB_iff.1 hf
  obtain ⟨hp, hlead⟩ := lead_ok s.E own
  have hmem : ∀ x, x ∈ leadP s.E own ↔ x ∈ xs := fun x => (hp.mem_iff).trans (hcl.mem x)
  have hmo : ∀ x, x ∈ leadP s.E own ↔ x ∈ own := fun x => hp.mem_iff
  have hnd : (leadP s.E own).Nodup := by
    rw [hp.nodup_iff]
    exact hcl.asc.imp fun hab e => by rw [e] at hab; omega
  have hb : Lit.bothB xs = true ↔ ∃ x ∈ leadP s.E own, -x ∈ leadP s.E own := by
    rw [Lit.bothB_iff]
    exact ⟨fun ⟨x, a, b⟩ => ⟨x, (hmem x).2 a, (hmem _).2 b⟩, fun ⟨x, a, b⟩ => ⟨x, (hmem x).1 a, (hmem _).1 b⟩⟩
  have hbo : Lit.bothB own = Lit.bothB xs := by
    rw [Bool.eq_iff_iff, Lit.bothB_iff, Lit.bothB_iff]
    exact ⟨fun ⟨x, a, b⟩ => ⟨x, (hcl.mem x).1 a, (hcl.mem _).1 b⟩, fun ⟨x, a, b⟩ => ⟨x, (hcl.mem x).2 a, (hcl.mem _).2 b⟩⟩
  have hg := h.good.add (lits := leadP s.E own) (fun x hx => by
    have := hfit x ((hmem x).1 hx)
    exact ⟨by rw [← one_ok]; exact this.1, by rw [h.n]; exact this.2⟩) hnd hb hlead
  generalize leadP s.E own = lits at *
  have hC : (addP s lits (Lit.bothB xs)).C = s.C ++ [⟨lits, true, Lit.bothB xs⟩] := by unfold addP; cases Lit.bothB xs <;> rfl
  have hE : (addP s lits (Lit.bothB xs)).E = s.E := by unfold addP; cases Lit.bothB xs <;> rfl
  have hD : (addP s lits (Lit.bothB xs)).D = s.D := by unfold addP; cases Lit.bothB xs <;> rfl
  refine ⟨⟨by unfold S0 at hg ⊢; rw [hD]; exact hg, ?_, ?_, ?_, by rw [hE]; exact h.lev, ?_⟩, hE, hD, ?_⟩
  · unfold addP; cases Lit.bothB xs <;> exact h.n
  · rw [hC, List.length_append, List.length_append, h.len]; rfl
  · intro i k b hA
    rw [hC]
    rcases Nat.lt_or_ge i A.length with hi | hi
    · rw [List.getElem?_append_left hi] at hA
      rw [List.getElem?_append_left (by rw [h.len]; exact hi)]
      exact h.cls i k b hA
    · rw [List.getElem?_append_right hi] at hA
      have hlt := (List.getElem?_eq_some_iff.1 hA).1
      have : i - A.length = 0 := by simpa using hlt
      rw [this] at hA
      simp at hA
      obtain ⟨rfl, rfl⟩ := hA
      rw [List.getElem?_append_right (by rw [h.len]; exact hi), h.len, this]
      exact ⟨_, rfl, rfl, hbo.symm, hmo⟩
  · have := h.few
    unfold addP; cases Lit.bothB xs
    · simp; omega
    · simp; omega
  · unfold addP; cases Lit.bothB xs <;> rfl
theorem set_get {α : Type} {l : List α} {i j : Nat} {y x : α} (h : (l.set i y)[j]? = some x) : (i = j ∧ x = y) ∨ (i ≠ j ∧ l[j]? = some x) := by
  rw [List.getElem?_set] at h
  split at h
  · rename_i e
    split at h
    · cases h; exact .inl ⟨e, rfl⟩
    · cases h
  · rename_i e
    exact .inr ⟨e, h⟩
theorem Bn.remove (h : Bn s n A m) {i : Nat} {c : Cls} (hc : s.C[i]? = some c) (hk : A[i]? = some (k, true)) (hE : s.E = []) : Bn { s with C := s.C.set i { c with on := false } } n (A.set i (k, false)) m := by
  have hg := h.good
  have hi := (List.getElem?_eq_some_iff.1 hc).1
  have hiA := (List.getElem?_eq_some_iff.1 hk).1
  have hold : ∀ (j : Nat) (d : Cls), s.C[j]? = some d → ∃ d', (s.C.set i { c with on := false })[j]? = some d' ∧ d'.idle = d.idle ∧ d'.lits = d.lits := by
    intro j d hd
    by_cases e : i = j
    · subst e
      rw [hc] at hd; cases hd
      exact ⟨_, List.getElem?_set_self hi, rfl, rfl⟩
    · exact ⟨d, by rw [List.getElem?_set_ne e]; exact hd, rfl, rfl⟩
  have hnew : ∀ (j : Nat) (d : Cls), (s.C.set i { c with on := false })[j]? = some d → d.on = true → s.C[j]? = some d := by
    intro j d hd ho
    rcases set_get hd with ⟨_, rfl⟩ | ⟨_, h1⟩
    · cases ho
    · exact h1
  refine ⟨{ inv := hg.inv, hd := hg.hd, wl := hg.wl, cl := ?_, fr := ?_, yo := ?_, lvl := hg.lvl, deep := hg.deep, late := hg.late, wat := ?_, own := ?_, nod := hg.nod, p := ?_, q := ?_, why := ?_ }, h.n, by simp [h.len], ?_, h.lev, h.few⟩
  · intro d hd
    rcases List.mem_or_eq_of_mem_set hd with hd | rfl
    · exact hg.cl d hd
    · exact hg.cl c (List.mem_of_getElem? hc)
  · intro id hid
    obtain ⟨d, h1, h2⟩ := hg.fr id hid
    obtain ⟨d', h3, h4, _⟩ := hold id d h1
    exact ⟨d', h3, h4.trans h2⟩
  · intro p hp
    obtain ⟨h0, d, h1, h2⟩ := hg.yo p hp
    obtain ⟨d', h3, h4, _⟩ := hold p.1 d h1
    exact ⟨h0, d', h3, h4.trans h2⟩
  · exact fun id d hd ho => hg.wat id d (hnew id d hd ho) ho
  · intro x h1 h2 id hid
    obtain ⟨d, h3, h4, h5⟩ := hg.own x h1 h2 id hid
    obtain ⟨d', h6, h7, h8⟩ := hold id d h3
    exact ⟨d', h6, h7.trans h4, by rw [h8]; exact h5⟩
  · exact fun L hL hLD id d hd ho => hg.p L hL hLD id d (hnew id d hd ho) ho
  · exact fun L hL hLD id d hd ho => hg.q L hL hLD id d (hnew id d hd ho) ho
  · intro j e he
    have he' : s.E[j]? = some e := he
    rw [hE] at he'; simp at he'
  · intro j k' b hA
    rcases set_get hA with ⟨rfl, h1⟩ | ⟨hne, h1⟩
    · cases h1
      obtain ⟨c', k1, _, k3, k4⟩ := h.cls i k true hk
      rw [hc] at k1; cases k1
      exact ⟨_, List.getElem?_set_self hi, rfl, k3, k4⟩
    · obtain ⟨d, h2, h3⟩ := h.cls j k' b h1
      exact ⟨d, by rw [List.getElem?_set_ne hne]; exact h2, h3⟩
end
end Go.Watch
