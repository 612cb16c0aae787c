/- The references' functions of literals. -/
import Derived.Test.YtkgmgjiomniijaaGreatDoorLitC
set_option linter.unusedVariables false
set_option linter.unusedSimpArgs false
namespace Go.Lit

theorem before_iff {x y : Int} (hx : one x = true) (hy : one y = true) : (var x < var y ∨ (var x = var y ∧ y < x)) ↔ place x < place y := by
  rw [place_one hx, place_one hy]
  unfold var
  rw [hx, hy]
  simp only [if_true]
  have h1 := one_iff.1 hx
  have h2 := one_iff.1 hy
  split <;> split <;> omega

/-- One more literal, put where it belongs. -/
def insStep (x : Int) (s : List Int × Bool) (y : Int) : List Int × Bool := if s.2 = false ∧ place x < place y then (s.1 ++ [x] ++ [y], true) else (s.1 ++ [y], s.2)
def insTo (x : Int) (p : List Int) : List Int × Bool := p.foldl (insStep x) ([], false)
def insL (x : Int) (out : List Int) : List Int := if (insTo x out).2 then (insTo x out).1 else (insTo x out).1 ++ [x]
theorem insTo_snoc {x y : Int} {p : List Int} : insTo x (p ++ [y]) = insStep x (insTo x p) y := by simp [insTo]
theorem insTo_len {x : Int} : ∀ {p : List Int}, (insTo x p).1.length ≤ p.length + 1 ∧ ((insTo x p).2 = false → (insTo x p).1.length = p.length) := by
  intro p
  have : ∀ (p : List Int) (s : List Int × Bool), (p.foldl (insStep x) s).1.length ≤ s.1.length + p.length + (if s.2 then 0 else 1) ∧ ((p.foldl (insStep x) s).2 = false → s.2 = false ∧ (p.foldl (insStep x) s).1.length = s.1.length + p.length) := by
    intro p
    induction p with
    | nil => intro s; simp
    | cons y p ih =>
      intro s
      rw [List.foldl_cons]
      obtain ⟨h1, h2⟩ := ih (insStep x s y)
      have hs : (insStep x s y = (s.1 ++ [x] ++ [y], true) ∧ s.2 = false) ∨ insStep x s y = (s.1 ++ [y], s.2) := by
        unfold insStep
        split
        · rename_i h; exact .inl ⟨rfl, h.1⟩
        · exact .inr rfl
      rcases hs with ⟨hs, h0⟩ | hs
      · rw [hs] at h1 h2 ⊢
        simp only [List.length_append, List.length_cons, List.length_nil] at h1 h2 ⊢
        rw [h0]
        refine ⟨by simp at h1 ⊢; omega, fun h => by have := (h2 h).1; cases this⟩
      · rw [hs] at h1 h2 ⊢
        simp only [List.length_append, List.length_cons, List.length_nil] at h1 h2 ⊢
        refine ⟨by omega, fun h => ⟨(h2 h).1, by have := (h2 h).2; omega⟩⟩
  have := this p ([], false)
  simp at this
  exact ⟨by unfold insTo; omega, fun h => by unfold insTo at h ⊢; exact this.2 h⟩

structure InsOk (x : Int) (p r nx : List Int) (put : Bool) : Prop where
  asc : nx.Pairwise fun x y => place x < place y
  mem : ∀ z, z ∈ nx ↔ z ∈ p ∨ (put = true ∧ z = x)
  low : put = false → ∀ z ∈ p, place z < place x
  high : put = true → ∀ z ∈ r, place x < place z

theorem insTo_ok {x : Int} (hx : one x = true) : ∀ {p r : List Int}, (∀ z ∈ p ++ r, one z = true) → (p ++ r).Pairwise (fun x y => place x < place y) → x ∉ p ++ r → InsOk x p r (insTo x p).1 (insTo x p).2 := by
  intro p
  induction hn : p.length generalizing p with
  | zero =>
    have : p = [] := List.length_eq_zero_iff.1 hn
    subst this
    intro r ho ha hnot
    exact ⟨List.Pairwise.nil, fun z => by simp [insTo], fun _ z hz => by (cases hz), fun h => by cases h⟩
  | succ n ih =>
    intro r ho ha hnot
    obtain ⟨q, y, rfl⟩ : ∃ q y, p = q ++ [y] := by
      rcases List.eq_nil_or_concat p with rfl | ⟨q, y, rfl⟩
      · simp at hn
      · exact ⟨q, y, by simp⟩
    rw [List.append_assoc] at ho ha hnot
    have h := ih (p := q) (by simpa using hn) (r := [y] ++ r) ho ha hnot
    rw [insTo_snoc]
    generalize insTo x q = s at h
    obtain ⟨nx, put⟩ := s
    simp only [] at h
    have hy1 := ho y (by simp)
    have hxy : x ≠ y := fun e => hnot (by simp [e])
    have hpne : place x ≠ place y := fun e => hxy (place_inj hx hy1 e)
    rw [List.pairwise_append] at ha
    obtain ⟨a1, a2, a3⟩ := ha
    have a4 : ∀ z ∈ r, place y < place z := by
      rw [List.singleton_append, List.pairwise_cons] at a2
      exact a2.1
    have hyq : ∀ z ∈ q, place z < place y := fun z hz => a3 z hz y (by simp)
    unfold insStep
    simp only []
    by_cases hc : put = false ∧ place x < place y
    · rw [if_pos hc]
      have hlow := h.low hc.1
      refine ⟨?_, fun z => ?_, fun h => by (cases h), fun _ z hz => by have := a4 z hz; omega⟩
      · rw [List.pairwise_append, List.pairwise_append]
        refine ⟨⟨h.asc, List.pairwise_singleton _ _, fun a ha b hb => ?_⟩, List.pairwise_singleton _ _, fun a ha b hb => ?_⟩
        · rw [List.mem_singleton] at hb; subst hb
          rcases (h.mem a).1 ha with h1 | ⟨h1, _⟩
          · exact hlow a h1
          · rw [hc.1] at h1; cases h1
        · rw [List.mem_singleton] at hb; subst hb
          rw [List.mem_append, List.mem_singleton] at ha
          rcases ha with ha | rfl
          · rcases (h.mem a).1 ha with h1 | ⟨h1, _⟩
            · exact hyq a h1
            · rw [hc.1] at h1; cases h1
          · exact hc.2
      · simp only [List.mem_append, List.mem_singleton, h.mem]
        constructor
        · rintro ((h1 | ⟨_, h1⟩) | h1)
          · rcases h1 with h1 | h1
            · exact .inl (.inl h1)
            · rw [hc.1] at h1; exact (Bool.noConfusion h1.1)
          · exact .inr ⟨trivial, by first | rfl | assumption⟩
          · exact .inl (.inr h1)
        · rintro ((h1 | h1) | ⟨_, h1⟩)
          · exact .inl (.inl (.inl h1))
          · exact .inr h1
          · exact .inl (.inr h1)
    · rw [if_neg hc]
      refine ⟨?_, fun z => ?_, fun hp z hz => ?_, fun hp z hz => h.high hp z (by simp [hz])⟩
      · rw [List.pairwise_append]
        refine ⟨h.asc, List.pairwise_singleton _ _, fun a ha b hb => ?_⟩
        rw [List.mem_singleton] at hb; subst hb
        rcases (h.mem a).1 ha with h1 | ⟨h1, rfl⟩
        · exact hyq a h1
        · exact h.high h1 _ (by simp)
      · simp only [List.mem_append, List.mem_singleton, h.mem]
        constructor
        · rintro ((h1 | h1) | h1)
          · exact .inl (.inl h1)
          · exact .inr h1
          · exact .inl (.inr h1)
        · rintro ((h1 | h1) | h1)
          · exact .inl (.inl h1)
          · exact .inr h1
          · exact .inl (.inr h1)
      · rw [List.mem_append, List.mem_singleton] at hz
        rcases hz with hz | rfl
        · exact h.low hp z hz
        · have : ¬ place x < place z := fun h => hc ⟨hp, h⟩
          omega

theorem insL_ok {x : Int} {out : List Int} (hx : one x = true) (ho : ∀ z ∈ out, one z = true) (ha : out.Pairwise fun x y => place x < place y) (hn : x ∉ out) :
    (insL x out).Pairwise (fun x y => place x < place y) ∧ ∀ z, z ∈ insL x out ↔ z = x ∨ z ∈ out := by
  have h := insTo_ok hx (p := out) (r := []) (by simpa using ho) (by simpa using ha) (by simpa using hn)
  unfold insL
  cases hp : (insTo x out).2 with
  | true =>
    rw [hp] at h
    rw [if_pos rfl]
    refine ⟨h.asc, fun z => ?_⟩
    rw [h.mem]
    constructor
    · rintro (h1 | ⟨_, h1⟩)
      · exact .inr h1
      · exact .inl h1
    · rintro (h1 | h1)
      · exact .inr ⟨rfl, h1⟩
      · exact .inl h1
  | false =>
    rw [hp] at h
    rw [if_neg Bool.false_ne_true]
    have hlow := h.low rfl
    refine ⟨?_, fun z => ?_⟩
    · rw [List.pairwise_append]
      refine ⟨h.asc, List.pairwise_singleton _ _, fun a ha b hb => ?_⟩
      rw [List.mem_singleton] at hb; subst hb
      rcases (h.mem a).1 ha with h1 | ⟨h1, _⟩
      · exact hlow a h1
      · cases h1
    · rw [List.mem_append, List.mem_singleton, h.mem]
      constructor
      · rintro ((h1 | ⟨h1, _⟩) | h1)
        · exact .inr h1
        · cases h1
        · exact .inl h1
      · rintro (h1 | h1)
        · exact .inr h1
        · exact .inl (.inl h1)

end Go.Lit
namespace Go.Proofs.YtkgmgjiomniijaaGreatDoor
open Go Go.Vc Go.Lit
set_option maxHeartbeats 4000000
set_option maxRecDepth 100000

section
variable {w0 w : World} {l : List Res}

theorem rOne {x : Int} (w : World) : Does Tryz.prog 38 #[lV x] w fun v w' => v = .bool (Lit.one x) ∧ w = w' := by
  refine Does_intro tok (Tryz.call38 _ _) Tryz.func38 rfl (by rfl) ?_
  by_cases h1 : 1 ≤ x
  · by_cases h2 : x ≤ 262144
    · (repeat first | refine go ?_ | ((try conv => whnf); (first | (refine St_gate ?_; refine xS ?_) | (refine StN_gate ?_; refine xN ?_)); clear H; intro w H))
      exact Ret_in ⟨vbool (by rw [one_iff.2 ⟨by omega, by omega, by omega⟩]), rfl⟩
    · (repeat first | refine go ?_ | ((try conv => whnf); (first | (refine St_gate ?_; refine xS ?_) | (refine StN_gate ?_; refine xN ?_)); clear H; intro w H))
      exact Ret_in ⟨vbool (by rw [one_not.2 (.inr (.inr (by omega)))]), rfl⟩
  · by_cases h2 : x ≤ -1
    · by_cases h3 : -262144 ≤ x
      · (repeat first | refine go ?_ | ((try conv => whnf); (first | (refine St_gate ?_; refine xS ?_) | (refine StN_gate ?_; refine xN ?_)); clear H; intro w H))
        exact Ret_in ⟨vbool (by rw [one_iff.2 ⟨by omega, by omega, by omega⟩, decide_eq_true (by omega)]), rfl⟩
      · (repeat first | refine go ?_ | ((try conv => whnf); (first | (refine St_gate ?_; refine xS ?_) | (refine StN_gate ?_; refine xN ?_)); clear H; intro w H))
        exact Ret_in ⟨vbool (by rw [one_not.2 (.inr (.inl (by omega))), decide_eq_false (by omega)]), rfl⟩
    · (repeat first | refine go ?_ | ((try conv => whnf); (first | (refine St_gate ?_; refine xS ?_) | (refine StN_gate ?_; refine xN ?_)); clear H; intro w H))
      exact Ret_in ⟨vbool (by rw [one_not.2 (.inl (by omega))]), rfl⟩

theorem rVar {x : Int} (w : World) : Does Tryz.prog 39 #[lV x] w fun v w' => v = .int .i64 (var x) ∧ w = w' := by
  refine Does_intro tok (Tryz.call39 _ _) Tryz.func39 rfl (by rfl) ?_
  have hv : var x = if Lit.one x then (if x < 0 then -x else x) else 0 := rfl
  rw [hv]
  (repeat first | refine go ?_ | ((try conv => whnf); (first | (refine St_gate ?_; refine xS ?_) | (refine StN_gate ?_; refine xN ?_)); clear H; intro w H))
  refine Call_of (rOne w) ?_
  rintro _ _ ⟨rfl, rfl⟩
  cases h : Lit.one x with
  | false =>
    (repeat first | refine go ?_ | ((try conv => whnf); (first | (refine St_gate ?_; refine xS ?_) | (refine StN_gate ?_; refine xN ?_)); clear H; intro w H))
    exact Ret_in ⟨rfl, rfl⟩
  | true =>
    have := one_iff.1 h
    by_cases h0 : x < 0
    · (repeat first | refine go ?_ | ((try conv => whnf); (first | (refine St_gate ?_; refine xS ?_) | (refine StN_gate ?_; refine xN ?_)); clear H; intro w H))
      exact Ret_in ⟨vint (by simp only [h0, if_true]; omega), rfl⟩
    · (repeat first | refine go ?_ | ((try conv => whnf); (first | (refine St_gate ?_; refine xS ?_) | (refine StN_gate ?_; refine xN ?_)); clear H; intro w H))
      exact Ret_in ⟨vint (by simp only [h0, if_true, if_false]), rfl⟩

theorem rBefore {x y : Int} (hx : Lit.one x = true) (hy : Lit.one y = true) (w : World) : Does Tryz.prog 25 #[lV x, lV y] w fun v w' => v = .bool (decide (place x < place y)) ∧ w = w' := by
  have hb := before_iff hx hy
  refine Does_intro tok (Tryz.call25 _ _) Tryz.func25 rfl (by rfl) ?_
  (repeat first | refine go ?_ | ((try conv => whnf); (first | (refine St_gate ?_; refine xS ?_) | (refine StN_gate ?_; refine xN ?_)); clear H; intro w H))
  refine Call_of (rVar w) ?_
  rintro _ _ ⟨rfl, rfl⟩
  (repeat first | refine go ?_ | ((try conv => whnf); (first | (refine St_gate ?_; refine xS ?_) | (refine StN_gate ?_; refine xN ?_)); clear H; intro w H))
  refine Call_of (rVar w) ?_
  rintro _ _ ⟨rfl, rfl⟩
  by_cases h1 : var x < var y
  · have : decide (place x < place y) = true := decide_eq_true (hb.1 (.inl h1))
    (repeat first | refine go ?_ | ((try conv => whnf); (first | (refine St_gate ?_; refine xS ?_) | (refine StN_gate ?_; refine xN ?_)); clear H; intro w H))
    exact Ret_in ⟨vbool this.symm, rfl⟩
  · (repeat first | refine go ?_ | ((try conv => whnf); (first | (refine St_gate ?_; refine xS ?_) | (refine StN_gate ?_; refine xN ?_)); clear H; intro w H))
    refine Call_of (rVar w) ?_
    rintro _ _ ⟨rfl, rfl⟩
    (repeat first | refine go ?_ | ((try conv => whnf); (first | (refine St_gate ?_; refine xS ?_) | (refine StN_gate ?_; refine xN ?_)); clear H; intro w H))
    refine Call_of (rVar w) ?_
    rintro _ _ ⟨rfl, rfl⟩
    by_cases h2 : var x = var y
    · (repeat first | refine go ?_ | ((try conv => whnf); (first | (refine St_gate ?_; refine xS ?_) | (refine StN_gate ?_; refine xN ?_)); clear H; intro w H))
      exact Ret_in ⟨vbool (by rw [decide_eq_decide, ← hb]; omega), rfl⟩
    · have : decide (place x < place y) = false := decide_eq_false (fun h => by have := hb.2 h; omega)
      (repeat first | refine go ?_ | ((try conv => whnf); (first | (refine St_gate ?_; refine xS ?_) | (refine StN_gate ?_; refine xN ?_)); clear H; intro w H))
      exact Ret_in ⟨vbool this.symm, rfl⟩

theorem rHas {xs : List Int} {y : Int} {a : Option Addr} {c : Nat} (hs : Src w a xs.length 1 (xs.map lV)) (hm : xs.length ≤ 9223372036854775807) : Does Tryz.prog 22 #[.slice a xs.length c, lV y] w fun v w' => v = .bool (decide (y ∈ xs)) ∧ w = w' := by
  refine Does_intro tok (Tryz.call22 _ _) Tryz.func22 rfl (by rfl) ?_
  refine Loop_intro (fun i : Nat => [(9, .int .i64 (i : Int))]) (fun i w' => w = w' ∧ i ≤ xs.length ∧ y ∉ xs.take i) (fun i => xs.length - i) 0 ⟨rfl, trivial⟩ ⟨rfl, Nat.zero_le _, by simp⟩ ?_
  rintro i _ ⟨rfl, hi, hno⟩
  simp only [] at hi hno ⊢
  refine Br_dec (fun k1 => ?_) (fun k1 => ?_)
  · have hlt : i < xs.length := by omega
    obtain ⟨b, o, rfl⟩ := hs.addr (by rw [List.length_map]; omega)
    have hx : xs[i]? = some xs[i] := List.getElem?_eq_getElem hlt
    have hxm := List.getElem_mem hlt
    generalize xs[i] = x at *
    (repeat first | refine go ?_ | ((try conv => whnf); (first | (refine St_gate ?_; refine xS ?_) | (refine StN_gate ?_; refine xN ?_)); clear H; intro w H))
    refine Ix_in i rfl hlt ?_
    refine Ld_src (j := i) hs (v := lV x) (by rw [List.getElem?_map, hx]; rfl) ?_
    (repeat first | refine go ?_ | ((try conv => whnf); (first | (refine St_gate ?_; refine xS ?_) | (refine StN_gate ?_; refine xN ?_)); clear H; intro w H))
    by_cases he : y = x
    · subst he
      (repeat first | refine go ?_ | ((try conv => whnf); (first | (refine St_gate ?_; refine xS ?_) | (refine StN_gate ?_; refine xN ?_)); clear H; intro w H))
      exact Ret_in ⟨vbool (decide_eq_true hxm).symm, rfl⟩
    · (repeat first | refine go ?_ | ((try conv => whnf); (first | (refine St_gate ?_; refine xS ?_) | (refine StN_gate ?_; refine xN ?_)); clear H; intro w H))
      refine ⟨i + 1, ⟨congrArg some (vint (by omega)), trivial⟩, ⟨rfl, by omega, ?_⟩, by omega⟩
      rw [List.take_add_one, hx]
      simp only [Option.toList_some, List.mem_append, List.mem_singleton, not_or]
      exact ⟨hno, he⟩
  · obtain rfl : i = xs.length := by omega
    rw [List.take_length] at hno
    (repeat first | refine go ?_ | ((try conv => whnf); (first | (refine St_gate ?_; refine xS ?_) | (refine StN_gate ?_; refine xN ?_)); clear H; intro w H))
    exact Ret_in ⟨vbool (decide_eq_false hno).symm, rfl⟩

theorem rRight {xs : List Int} {a : Option Addr} {c : Nat} (hs : Src w a xs.length 1 (xs.map lV)) (hm : xs.length ≤ 9223372036854775807) : Does Tryz.prog 21 #[.slice a xs.length c] w fun v w' => v = .bool (xs.all Lit.one) ∧ w = w' := by
  refine Does_intro tok (Tryz.call21 _ _) Tryz.func21 rfl (by rfl) ?_
  refine Loop_intro (fun i : Nat => [(7, .int .i64 (i : Int))]) (fun i w' => w = w' ∧ i ≤ xs.length ∧ ∀ x ∈ xs.take i, Lit.one x = true) (fun i => xs.length - i) 0 ⟨rfl, trivial⟩ ⟨rfl, Nat.zero_le _, by simp⟩ ?_
  rintro i _ ⟨rfl, hi, hno⟩
  simp only [] at hi hno ⊢
  refine Br_dec (fun k1 => ?_) (fun k1 => ?_)
  · have hlt : i < xs.length := by omega
    obtain ⟨b, o, rfl⟩ := hs.addr (by rw [List.length_map]; omega)
    have hx : xs[i]? = some xs[i] := List.getElem?_eq_getElem hlt
    have hxm := List.getElem_mem hlt
    generalize xs[i] = x at *
    (repeat first | refine go ?_ | ((try conv => whnf); (first | (refine St_gate ?_; refine xS ?_) | (refine StN_gate ?_; refine xN ?_)); clear H; intro w H))
    refine Ix_in i rfl hlt ?_
    refine Ld_src (j := i) hs (v := lV x) (by rw [List.getElem?_map, hx]; rfl) ?_
    (repeat first | refine go ?_ | ((try conv => whnf); (first | (refine St_gate ?_; refine xS ?_) | (refine StN_gate ?_; refine xN ?_)); clear H; intro w H))
    refine Call_of (rOne w) ?_
    rintro _ _ ⟨rfl, rfl⟩
    cases h : Lit.one x with
    | false =>
      (repeat first | refine go ?_ | ((try conv => whnf); (first | (refine St_gate ?_; refine xS ?_) | (refine StN_gate ?_; refine xN ?_)); clear H; intro w H))
      refine Ret_in ⟨vbool ?_, rfl⟩
      rw [eq_comm, List.all_eq_false]
      exact ⟨x, hxm, by rw [h]; exact Bool.false_ne_true⟩
    | true =>
      (repeat first | refine go ?_ | ((try conv => whnf); (first | (refine St_gate ?_; refine xS ?_) | (refine StN_gate ?_; refine xN ?_)); clear H; intro w H))
      refine ⟨i + 1, ⟨congrArg some (vint (by omega)), trivial⟩, ⟨rfl, by omega, ?_⟩, by omega⟩
      rw [List.take_add_one, hx]
      intro z hz
      simp only [Option.toList_some, List.mem_append, List.mem_singleton] at hz
      rcases hz with hz | rfl
      · exact hno z hz
      · exact h
  · obtain rfl : i = xs.length := by omega
    rw [List.take_length] at hno
    (repeat first | refine go ?_ | ((try conv => whnf); (first | (refine St_gate ?_; refine xS ?_) | (refine StN_gate ?_; refine xN ?_)); clear H; intro w H))
    exact Ret_in ⟨vbool (List.all_eq_true.2 hno).symm, rfl⟩


end
end Go.Proofs.YtkgmgjiomniijaaGreatDoor
