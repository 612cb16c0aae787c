/- Plain: what a solver keeps of its engine; what is learnt is new each time; so the conflicts end. -/
import Derived.Test.YtcibiidebknkgaaGreatLearnV
import Derived.Test.YtcibiidebknkgaaGreatRankK
set_option linter.unusedVariables false
set_option linter.unusedSimpArgs false
namespace Go.Watch
open Go.Trail

/-! Values -/
/-- Is a literal true? -/
def tv (vs : List Bool) (x : Int) : Bool := if x < 0 then !(vs.getD (x.natAbs - 1) false) else vs.getD (x.natAbs - 1) false
theorem tv_neg {vs : List Bool} {x : Int} (h : x ≠ 0) : tv vs (-x) = !tv vs x := by
  unfold tv
  rw [Int.natAbs_neg]
  rcases Int.lt_or_gt_of_ne h with h1 | h1
  · rw [if_neg (by omega), if_pos h1, Bool.not_not]
  · rw [if_pos (by omega), if_neg (by omega)]
def hol (vs : List Bool) (c : List Int) : Prop := ∃ x ∈ c, tv vs x = true
theorem hol_congr {vs : List Bool} {c k : List Int} (h : ∀ x, x ∈ c ↔ x ∈ k) : hol vs c ↔ hol vs k :=
  ⟨fun ⟨x, a, b⟩ => ⟨x, (h x).1 a, b⟩, fun ⟨x, a, b⟩ => ⟨x, (h x).2 a, b⟩⟩
theorem hol_both {vs : List Bool} {c : List Int} {x : Int} (h0 : x ≠ 0) (h1 : x ∈ c) (h2 : -x ∈ c) : hol vs c := by
  cases h : tv vs x with
  | true => exact ⟨x, h1, h⟩
  | false => exact ⟨-x, h2, by rw [tv_neg h0, h]; rfl⟩
/-- What follows of clauses is true where they hold. -/
theorem fo_true {vs : List Bool} {Γ : List Int → Prop} {Δ : Int → Prop} (hΓ : ∀ c, Γ c → hol vs c) (h0 : ∀ c, Γ c → ∀ x ∈ c, x ≠ 0) (hΔ : ∀ x, Δ x → tv vs x = true) : ∀ x, Fo Γ Δ x → tv vs x = true := by
  intro x h
  induction h with
  | dec h => exact hΔ _ h
  | @cls c x hc hx _ ih =>
    obtain ⟨y, hy, ht⟩ := hΓ c hc
    by_cases e : y = x
    · exact e ▸ ht
    · have := ih y hy e
      rw [tv_neg (h0 c hc y hy), ht] at this
      cases this
theorem conf_false {vs : List Bool} {Γ : List Int → Prop} {Δ : Int → Prop} (hΓ : ∀ c, Γ c → hol vs c) (h0 : ∀ c, Γ c → ∀ x ∈ c, x ≠ 0) (hΔ : ∀ x, Δ x → tv vs x = true) : ¬ Conf Γ Δ := by
  rintro ⟨c, hc, h⟩
  obtain ⟨y, hy, ht⟩ := hΓ c hc
  have := fo_true hΓ h0 hΔ _ (h y hy)
  rw [tv_neg (h0 c hc y hy), ht] at this
  cases this

/-! All signs of so many variables -/
def sgs : Nat → List (List Nat)
  | 0 => [[]]
  | n + 1 => (sgs n).flatMap fun l => [l ++ [0], l ++ [1], l ++ [2]]
theorem sgs_len : ∀ n, (sgs n).length = 3 ^ n
  | 0 => rfl
  | n + 1 => by
    have h : ∀ l : List (List Nat), (l.flatMap fun l => [l ++ [0], l ++ [1], l ++ [2]]).length = l.length * 3 := by
      intro l
      induction l with
      | nil => rfl
      | cons x l ih => rw [List.flatMap_cons, List.length_append, ih]; simp; omega
    rw [sgs, h, sgs_len n, Nat.pow_succ]
/-- A clause by its signs. -/
def sg (c : List Int) (v : Nat) : Nat := if ((v : Int) + 1) ∈ c then 1 else if -((v : Int) + 1) ∈ c then 2 else 0
def sig (n : Nat) (c : List Int) : List Nat := (List.range n).map (sg c)
theorem sig_mem (c : List Int) : ∀ n, sig n c ∈ sgs n
  | 0 => by simp [sig, sgs]
  | n + 1 => by
    have ih := sig_mem c n
    have e : sig (n + 1) c = sig n c ++ [sg c n] := by unfold sig; rw [List.range_succ, List.map_append]; rfl
    rw [e, sgs, List.mem_flatMap]
    refine ⟨_, ih, ?_⟩
    unfold sg
    split
    · simp
    · split <;> simp
theorem sig_inj {n : Nat} {c k : List Int} (hc : ∀ x ∈ c, okLit x = true ∧ var x ≤ n) (hk : ∀ x ∈ k, okLit x = true ∧ var x ≤ n) (bc : ∀ x ∈ c, -x ∉ c) (bk : ∀ x ∈ k, -x ∉ k) (h : sig n c = sig n k) : ∀ x, x ∈ c → x ∈ k := by
  intro x hx
  obtain ⟨h1, h2⟩ := hc x hx
  have h3 := okLit_iff.1 h1
  rw [var_ok h1] at h2
  have h4 : sg c (x.natAbs - 1) = sg k (x.natAbs - 1) := by
    have h5 : (sig n c)[x.natAbs - 1]? = (sig n k)[x.natAbs - 1]? := by rw [h]
    unfold sig at h5
    rw [List.getElem?_map, List.getElem?_map, List.getElem?_range (by omega)] at h5
    exact Option.some.inj h5
  unfold sg at h4
  rcases Int.lt_or_gt_of_ne h3.1 with h5 | h5
  · have e : -(((x.natAbs - 1 : Nat) : Int) + 1) = x := by omega
    have e2 : (((x.natAbs - 1 : Nat) : Int) + 1) = -x := by omega
    rw [e, e2, if_neg (bc x hx), if_pos hx] at h4
    split at h4
    · omega
    · split at h4
      · rename_i h6; exact h6
      · omega
  · have e : (((x.natAbs - 1 : Nat) : Int) + 1) = x := by omega
    rw [e, if_pos hx] at h4
    split at h4
    · rename_i h6; exact h6
    · split at h4 <;> omega
theorem nodup_few {α : Type} [BEq α] [LawfulBEq α] : ∀ {l m : List α}, l.Nodup → (∀ x ∈ l, x ∈ m) → l.length ≤ m.length
  | [], _, _, _ => Nat.zero_le _
  | x :: l, m, hn, hs => by
    have hn' := List.nodup_cons.1 hn
    have hx := hs x (by simp)
    have h1 := List.length_erase_of_mem hx
    have h2 : 0 < m.length := List.length_pos_of_mem hx
    have := nodup_few (l := l) (m := m.erase x) hn'.2 fun y hy => by
      rw [List.mem_erase_of_ne (by rintro rfl; exact hn'.1 hy)]
      exact hs y (List.mem_cons_of_mem _ hy)
    rw [List.length_cons]; omega

/-! Up to a level nothing is left to be followed. -/
def Clo (E : List Ent) (j : Nat) (c : List Int) : Prop := (∃ y ∈ c, truL E j y) ∨ ∃ y ∈ c, ∃ z ∈ c, y ≠ z ∧ ¬ truL E j (-y) ∧ ¬ truL E j (-z)
def Up (s : St) : Prop := ∀ j, j < s.D → ∀ c ∈ s.C, c.on = true → c.idle = false → Clo s.E j c.lits
theorem Clo.congr {E E' : List Ent} {j : Nat} {c k : List Int} (h : Clo E j c) (hE : ∀ x, truL E' j x ↔ truL E j x) (hc : ∀ x, x ∈ k ↔ x ∈ c) : Clo E' j k := by
  rcases h with ⟨y, h1, h2⟩ | ⟨y, h1, z, h2, h3, h4, h5⟩
  · exact .inl ⟨y, (hc y).2 h1, (hE y).2 h2⟩
  · exact .inr ⟨y, (hc y).2 h1, z, (hc z).2 h2, h3, fun h => h4 ((hE _).1 h), fun h => h5 ((hE _).1 h)⟩
section
variable {S : Nat → Prop} {s s' : St}
theorem Good.clo (hg : Good S s) (hF : s.F = []) (hh : s.h = s.E.length) {c : Cls} (hc : c ∈ s.C) (h1 : c.on = true) (h2 : c.idle = false) : Clo s.E s.D c.lits := by
  obtain ⟨id, hid⟩ := List.getElem?_of_mem hc
  have hcl := hg.cl c hc
  rcases hg.p s.D hg.deep (Nat.le_refl _) id c hid h1 h2 with h | ⟨j, h3, h4⟩ | h
  · rw [hF] at h; cases h
  · have := (hg.yo _ h4).1; simp only [] at this; omega
  · rw [hh] at h
    obtain ⟨ha, hb⟩ := h
    rw [List.take_length] at hb
    match hl : c.lits with
    | [] => rw [hl] at ha; obtain ⟨y, hy, _⟩ := ha (by simp); cases hy
    | [a] => rw [hl] at ha; exact .inl (ha (by simp))
    | a :: b :: t =>
      rw [hl] at hb hcl
      by_cases h5 : truL s.E s.D (-a)
      · exact .inl (hb a (by simp) h5)
      · by_cases h6 : truL s.E s.D (-b)
        · exact .inl (hb b (by simp) h6)
        · exact .inr ⟨a, by simp, b, by simp, fun e => by subst e; simp at hcl, h5, h6⟩
theorem Up.ext (h : Up s) (x : Ext s s') : Up s' := by
  intro j hj c hc h1 h2
  obtain ⟨id, hid⟩ := List.getElem?_of_mem hc
  have hlt := (List.getElem?_eq_some_iff.1 hid).1
  rw [x.len] at hlt
  obtain ⟨c', k1, k2, k3, k4⟩ := x.C id _ (List.getElem?_eq_getElem hlt)
  rw [hid] at k1; cases k1
  rw [x.D] at hj
  refine (h j hj _ (List.getElem_mem hlt) (by rw [← k2]; exact h1) (by rw [← k3]; exact h2)).congr (fun y => ?_) fun y => k4.mem_iff
  obtain ⟨G, hG, hGl⟩ := x.E
  constructor
  · rintro ⟨e, he, h3, h4⟩
    rw [hG, List.mem_append] at he
    rcases he with he | he
    · exact ⟨e, he, h3, h4⟩
    · have := (hGl e he).1; omega
  · rintro ⟨e, he, h3⟩
    exact ⟨e, by rw [hG]; exact List.mem_append_left _ he, h3⟩
theorem Up.decide (h : Up s) (hg : Good S s) (hF : s.F = []) (hh : s.h = s.E.length) (x : Int) : Up (decide' s x) := by
  intro j hj c hc h1 h2
  have hj' : j < s.D + 1 := hj
  have hE : ∀ y, truL (s.E ++ [⟨x, s.D + 1, -1⟩]) j y ↔ truL s.E j y := by
    intro y
    constructor
    · rintro ⟨e, he, h3, h4⟩
      rw [List.mem_append, List.mem_singleton] at he
      rcases he with he | rfl
      · exact ⟨e, he, h3, h4⟩
      · simp only [] at h3; omega
    · exact fun h => h.mono
  rcases Nat.lt_or_ge j s.D with h3 | h3
  · exact (h j h3 c hc h1 h2).congr hE fun _ => Iff.rfl
  · obtain rfl : j = s.D := by omega
    exact (hg.clo hF hh hc h1 h2).congr hE fun _ => Iff.rfl
theorem upto_truL {E : List Ent} {j k : Nat} (h : j ≤ k) (y : Int) : truL (upto E k) j y ↔ truL E j y := by
  unfold upto
  constructor
  · rintro ⟨e, he, h3⟩; exact ⟨e, (List.mem_filter.1 he).1, h3⟩
  · rintro ⟨e, he, h3, h4⟩; exact ⟨e, List.mem_filter.2 ⟨he, by simp; omega⟩, h3, h4⟩
theorem Up.back (h : Up s) {k : Nat} (hk : k ≤ s.D) : Up (Watch.back s k) := by
  intro j hj c hc h1 h2
  have hj' : j < k := hj
  exact (h j (by omega) c hc h1 h2).congr (upto_truL (by omega)) fun _ => Iff.rfl
theorem addP_E (s : St) (l : List Int) (b : Bool) : (addP s l b).E = s.E ∧ (addP s l b).D = s.D ∧ (addP s l b).h = s.h ∧ (addP s l b).n = s.n ∧ (addP s l b).C = s.C ++ [⟨l, true, b⟩] ∧ (addP s l b).Y = s.Y := by
  unfold addP; cases b <;> exact ⟨rfl, rfl, rfl, rfl, rfl, rfl⟩
theorem addP_F (s : St) (l : List Int) (b : Bool) : (addP s l b).F.length ≤ s.F.length + 1 := by
  unfold addP; cases b
  · simp
  · simp
theorem Up.add (h : Up s) {l : List Int} {b : Bool} (hn : b = false → ∀ j, j < s.D → Clo s.E j l) : Up (addP s l b) := by
  obtain ⟨e1, e2, _, _, e5, _⟩ := addP_E s l b
  intro j hj c hc h1 h2
  rw [e2] at hj
  rw [e5, List.mem_append, List.mem_singleton] at hc
  rw [e1]
  rcases hc with hc | rfl
  · exact h j hj c hc h1 h2
  · exact hn h2 j hj
end
end Go.Watch
/-! Plain: a solver's engine: clauses that were added, clauses that were learnt. -/
set_option linter.unusedVariables false
set_option linter.unusedSimpArgs false
namespace Go.Watch
open Go.Trail
section
variable {S : Nat → Prop} {s : St} {c0 R out : List Int} {x top back t : Int}
theorem Good.lv_few (hg : Good S s) (v : Int) : -1 ≤ lvE s.E v ∧ lvE s.E v ≤ s.D := by
  rcases hg.lv_range v with ⟨h, _⟩ | ⟨e, he, _, h, _⟩
  · omega
  · have := hg.levs e he; omega
theorem Learnt.entS (hg : Good S s) (h : Learnt s c0 top x R back) : ∀ y ∈ x :: R, tru s.E (-y) ∧ okLit y = true ∧ var y ≤ s.n := by
  intro y hy
  have ht := h.ok.fls y hy
  obtain ⟨e, he, hel⟩ := ht
  obtain ⟨h1, h2, _⟩ := hg.inv.ok e he
  rw [hel, okLit_neg] at h1
  rw [hel, var_neg] at h2
  exact ⟨⟨e, he, hel⟩, h1, h2⟩
theorem Learnt.bothS (hg : Good S s) (h : Learnt s c0 top x R back) : Lit.bothB (x :: R) = false := by
  cases hb : Lit.bothB (x :: R) with
  | false => rfl
  | true =>
    obtain ⟨y, h1, h2⟩ := Lit.bothB_iff.1 hb
    have hf := okLit_iff.1 (h.entS hg y h1).2.1
    obtain ⟨i, hi⟩ := List.getElem?_of_mem h1
    obtain ⟨j, hj⟩ := List.getElem?_of_mem h2
    obtain ⟨hi1, hi2⟩ := List.getElem?_eq_some_iff.1 hi
    obtain ⟨hj1, hj2⟩ := List.getElem?_eq_some_iff.1 hj
    have hw : (x :: R).Pairwise fun y z => var y ≠ var z := h.ok.once
    rw [List.pairwise_iff_getElem] at hw
    rcases Nat.lt_trichotomy i j with hlt | heq | hgt
    · exact (hw i j hi1 hj1 hlt (by rw [hi2, hj2, var_neg])).elim
    · subst heq; rw [hi2] at hj2; omega
    · exact (hw j i hj1 hi1 hgt (by rw [hi2, hj2, var_neg])).elim
theorem Learnt.fewS (hg : Good S s) (h : Learnt s c0 top x R back) : (x :: R).length ≤ s.n := by
  have := pigeons s.n ((x :: R).map var) (by
    rw [List.pairwise_map]
    refine List.Pairwise.imp_of_mem ?_ h.ok.once
    intro y z hy hz hyz e
    exact hyz e) (by
    intro p hp
    obtain ⟨y, hy, rfl⟩ := List.mem_map.1 hp
    have h1 := var_pos.2 (h.entS hg y hy).2.1
    have h2 := (h.entS hg y hy).2.2
    omega)
  rwa [List.length_map] at this
theorem Learnt.back_ltS (h : Learnt s c0 top x R back) : back < top := by
  have h1 := h.ok.pos
  rcases h.bat with h2 | ⟨y, hy, h2⟩
  · omega
  · have := h.ok.low y hy; omega
theorem Learnt.top_leS (hg : Good S s) (h : Learnt s c0 top x R back) : top ≤ s.D := by
  obtain ⟨y, hy, h1⟩ := h.at'
  have := hg.lv_few (var y)
  omega
/-- A false literal of a level is not false up to a lower one. -/
theorem Good.not_low (hg : Good S s) {y : Int} (hy : tru s.E (-y)) {j : Nat} (h : (j : Int) < lvE s.E (var y)) : ¬ truL s.E j (-y) := by
  rintro ⟨e, he, h1, h2⟩
  have := (hg.lv_neg he h2).1
  omega
theorem Good.is_low (hg : Good S s) {y : Int} (hy : tru s.E (-y)) {j : Nat} (h : lvE s.E (var y) ≤ (j : Int)) : truL s.E j (-y) := by
  obtain ⟨e, he, h2⟩ := hy
  have := (hg.lv_neg he h2).1
  exact ⟨e, he, by omega, h2⟩
/-- What is learnt leads on no earlier than at the level up to which one goes back. -/
theorem Learnt.clo (hg : Good S s) (h : Learnt s c0 top x R back) {b : Nat} (hb : back = b) {k : List Int} (hk : ∀ y, y ∈ k ↔ y ∈ x :: R) : ∀ j, j < b → Clo (upto s.E b) j k := by
  intro j hj
  have h1 := h.back_ltS
  rcases h.bat with h2 | ⟨y, hy, h2⟩
  · omega
  · have hxl := h.ok.tops x (by simp)
    refine .inr ⟨x, (hk x).2 (by simp), y, (hk y).2 (by simp [hy]), fun e => by subst e; omega, ?_, ?_⟩
    · rw [upto_truL (by omega)]
      exact hg.not_low (h.ok.fls x (by simp)) (by omega)
    · rw [upto_truL (by omega)]
      exact hg.not_low (h.ok.fls y (by simp [hy])) (by omega)
/-- What is learnt is new. -/
theorem Learnt.fresh (hg : Good S s) (hu : Up s) (h : Learnt s c0 top x R back) {c : Cls} (hc : c ∈ s.C) (h1 : c.on = true) (h2 : c.idle = false) : ¬ ∀ y, y ∈ c.lits ↔ y ∈ x :: R := by
  intro he
  have hp := h.ok.pos
  have ht := h.top_leS hg
  have hb := h.back_ltS
  obtain ⟨q, hq⟩ : ∃ q : Nat, top = q + 1 := ⟨(top - 1).toNat, by omega⟩
  have hlow : ∀ y ∈ R, truL s.E q (-y) := fun y hy => hg.is_low (h.ok.fls y (by simp [hy])) (by have := h.bl y hy; omega)
  rcases hu q (by omega) c hc h1 h2 with ⟨y, hy, h3⟩ | ⟨y, hy, z, hz, h3, h4, h5⟩
  · have h4 := h.entS hg y ((he y).1 hy)
    exact not_both hg.inv.once h4.2.1 h3.tru h4.1
  · have h6 := (he y).1 hy
    have h7 := (he z).1 hz
    rw [List.mem_cons] at h6 h7
    rcases h6 with rfl | h6
    · rcases h7 with rfl | h7
      · exact h3 rfl
      · exact h5 (hlow z h7)
    · exact h4 (hlow y h6)

/-! More variables; a clause less -/
def grow (s : St) : St := { s with n := s.n + 1, W := s.W ++ [[], []] }
theorem wAt_grow {W : List (List Nat)} {x : Int} (h : pl x < W.length) : wAt (W ++ [[], []]) x = wAt W x := by
  unfold wAt
  rw [List.getD_eq_getElem?_getD, List.getElem?_append_left h, ← List.getD_eq_getElem?_getD]
theorem wAt_new {W : List (List Nat)} {x : Int} (h : W.length ≤ pl x) : wAt (W ++ [[], []]) x = [] := by
  unfold wAt
  rw [List.getD_eq_getElem?_getD, List.getElem?_append_right h]
  match pl x - W.length with
  | 0 => rfl
  | 1 => rfl
  | n + 2 => rfl
theorem pl_ge {x : Int} {n : Nat} (hl : okLit x = true) (hn : n < var x) : 2 * n + 2 ≤ pl x := by
  unfold pl
  rw [place_var hl]
  split <;> omega
theorem Good.grow (hg : Good S s) (hn : s.n < 262144) : Good S (Watch.grow s) := by
  have hat : ∀ x, okLit x = true → (var x ≤ s.n → wAt (s.W ++ [[], []]) x = wAt s.W x) ∧ (¬ var x ≤ s.n → wAt (s.W ++ [[], []]) x = []) := fun x hx =>
    ⟨fun h => wAt_grow (by rw [hg.wl]; exact pl_lt hx h), fun h => wAt_new (by rw [hg.wl]; exact pl_ge hx (by omega))⟩
  refine { hg with inv := { vars := by show s.n + 1 ≤ 262144; omega, ok := fun e he => ?_, rise := hg.inv.rise, once := hg.inv.once }, wl := ?_, cl := fun c hc => ?_, wat := ?_, own := ?_, nod := ?_ }
  · obtain ⟨h1, h2, h3⟩ := hg.inv.ok e he
    exact ⟨h1, by show _ ≤ s.n + 1; omega, h3⟩
  · show (s.W ++ [[], []]).length = 2 * (s.n + 1) + 2
    rw [List.length_append, hg.wl]; rfl
  · obtain ⟨h1, h2⟩ := hg.cl c hc
    exact ⟨fun x hx => ⟨(h1 x hx).1, by have := (h1 x hx).2; show _ ≤ s.n + 1; omega⟩, h2⟩
  · intro id c hc h1 h2 x hx
    have h3 := (hg.cl c (List.mem_of_getElem? hc)).1 x (List.mem_of_mem_take hx)
    show id ∈ wAt (s.W ++ [[], []]) x
    rw [(hat x h3.1).1 h3.2]
    exact hg.wat id c hc h1 h2 x hx
  · intro x h1 h2 id hid
    have hid' : id ∈ wAt (s.W ++ [[], []]) x := hid
    by_cases h3 : var x ≤ s.n
    · rw [(hat x h1).1 h3] at hid'
      exact hg.own x h1 h3 id hid'
    · rw [(hat x h1).2 h3] at hid'; cases hid'
  · intro x h1 h2
    show (wAt (s.W ++ [[], []]) x).Nodup
    by_cases h3 : var x ≤ s.n
    · rw [(hat x h1).1 h3]; exact hg.nod x h1 h3
    · rw [(hat x h1).2 h3]; exact List.nodup_nil
theorem set_getS {α : Type} {l : List α} {i j : Nat} {y x : α} (h : (l.set i y)[j]? = some x) : (i = j ∧ x = y) ∨ (i ≠ j ∧ l[j]? = some x) := by
  rw [List.getElem?_set] at h
  split at h
  · rename_i e
    split at h
    · cases h; exact .inl ⟨e, rfl⟩
    · cases h
  · rename_i e
    exact .inr ⟨e, h⟩
def off (s : St) (i : Nat) (c : Cls) : St := { s with C := s.C.set i { c with on := false } }
theorem off_old {i : Nat} {c : Cls} (hc : s.C[i]? = some c) (j : Nat) (d : Cls) (hd : s.C[j]? = some d) : ∃ d', (off s i c).C[j]? = some d' ∧ d'.idle = d.idle ∧ d'.lits = d.lits ∧ (i ≠ j → d' = d) := by
  have hi := (List.getElem?_eq_some_iff.1 hc).1
  by_cases e : i = j
  · subst e
    rw [hc] at hd; cases hd
    exact ⟨_, List.getElem?_set_self hi, rfl, rfl, fun h => (h rfl).elim⟩
  · exact ⟨d, by show (s.C.set i _)[j]? = _; rw [List.getElem?_set_ne e]; exact hd, rfl, rfl, fun _ => rfl⟩
theorem off_new {i : Nat} {c : Cls} (j : Nat) (d : Cls) (hd : (off s i c).C[j]? = some d) (ho : d.on = true) : i ≠ j ∧ s.C[j]? = some d := by
  rcases set_getS hd with ⟨_, rfl⟩ | h
  · cases ho
  · exact h
theorem Good.off (hg : Good S s) {i : Nat} {c : Cls} (hc : s.C[i]? = some c) (hn : ∀ x ∈ c.lits, ¬ (reE s.E (var x) = (i : Int) ∧ value s.E x = 1)) : Good S (Watch.off s i c) := by
  refine { inv := hg.inv, hd := hg.hd, wl := hg.wl, cl := ?_, fr := ?_, yo := ?_, lvl := hg.lvl, deep := hg.deep, late := hg.late, wat := ?_, own := ?_, nod := hg.nod, p := ?_, q := ?_, why := ?_ }
  · intro d hd
    rcases List.mem_or_eq_of_mem_set hd with hd | rfl
    · exact hg.cl d hd
    · exact hg.cl c (List.mem_of_getElem? hc)
  · intro id hid
    obtain ⟨d, h1, h2⟩ := hg.fr id hid
    obtain ⟨d', h3, h4, _⟩ := off_old hc id d h1
    exact ⟨d', h3, h4.trans h2⟩
  · intro p hp
    obtain ⟨h0, d, h1, h2⟩ := hg.yo p hp
    obtain ⟨d', h3, h4, _⟩ := off_old hc p.1 d h1
    exact ⟨h0, d', h3, h4.trans h2⟩
  · exact fun id d hd ho => hg.wat id d (off_new id d hd ho).2 ho
  · intro x h1 h2 id hid
    obtain ⟨d, h3, h4, h5⟩ := hg.own x h1 h2 id hid
    obtain ⟨d', h6, h7, h8, _⟩ := off_old hc id d h3
    exact ⟨d', h6, h7.trans h4, by rw [h8]; exact h5⟩
  · exact fun L hL hLD id d hd ho => hg.p L hL hLD id d (off_new id d hd ho).2 ho
  · exact fun L hL hLD id d hd ho => hg.q L hL hLD id d (off_new id d hd ho).2 ho
  · intro j e he
    rcases hg.why j e he with h | ⟨id, d, h1, h2, h3, h4, h5, h6⟩
    · exact .inl h
    · by_cases hi : i = id
      · subst hi
        rw [hc] at h2; cases h2
        have hem := List.mem_of_getElem? he
        refine (hn e.lit h5 ⟨?_, ?_⟩).elim
        · rw [(hg.lv_at hem rfl).2, h1]
        · exact (hg.val1 (hg.inv.ok e hem).1).2 ⟨e, hem, rfl⟩
      · obtain ⟨d', k1, k2, k3, k4⟩ := off_old hc id d h2
        obtain rfl := k4 hi
        exact .inr ⟨id, d', h1, k1, h3, h4, h5, h6⟩
theorem Good.addC (hg : Good S s) {xs own : List Int} (hf : fitB s.n xs = true) (hcl : Lit.Clean xs own) : Good S (addP s (leadP s.E own) (Lit.bothB xs)) ∧ (∀ x, x ∈ leadP s.E own ↔ x ∈ xs) := by
  have hfit := fitB_iff.1 hf
  obtain ⟨hp, hlead⟩ := lead_ok s.E own
  have hmem : ∀ x, x ∈ leadP s.E own ↔ x ∈ xs := fun x => (hp.mem_iff).trans (hcl.mem x)
  have hnd : (leadP s.E own).Nodup := by
    rw [hp.nodup_iff]
    exact hcl.asc.imp fun hab e => by rw [e] at hab; omega
  have hb : Lit.bothB xs = true ↔ ∃ x ∈ leadP s.E own, -x ∈ leadP s.E own := by
    rw [Lit.bothB_iff]
    exact ⟨fun ⟨x, a, b⟩ => ⟨x, (hmem x).2 a, (hmem _).2 b⟩, fun ⟨x, a, b⟩ => ⟨x, (hmem x).1 a, (hmem _).1 b⟩⟩
  refine ⟨hg.add (lits := leadP s.E own) (fun x hx => ?_) hnd hb hlead, hmem⟩
  have := hfit x ((hmem x).1 hx)
  exact ⟨by rw [← one_ok]; exact this.1, this.2⟩
end

/-! A solver's engine: n variables, the clauses L were added; what was learnt (lr: by their numbers); k clauses and m that must be looked at, at most. -/
structure Sv (n : Nat) (L : List (List Int)) (lr : List Nat) (k m : Nat) (s : St) : Prop where
  good : Good (fun _ => True) s
  n : s.n = n
  dp : Dp s.E
  up : Up s
  usr : ∀ vs, (∀ (id : Nat) c, s.C[id]? = some c → id ∉ lr → c.on = true → c.idle = false → hol vs c.lits) → ∀ c ∈ L, hol vs c
  foll : ∀ vs, (∀ c ∈ L, hol vs c) → ∀ c ∈ s.C, c.on = true → c.idle = false → hol vs c.lits
  has : ∀ c ∈ L, Lit.bothB c = false → ∃ (id : Nat) (d : Cls), s.C[id]? = some d ∧ id ∉ lr ∧ d.on = true ∧ d.idle = false ∧ ∀ x, x ∈ d.lits ↔ x ∈ c
  lrn : ∀ id ∈ lr, ∃ c, s.C[id]? = some c ∧ c.on = true ∧ c.idle = false
  new : lr.Pairwise fun i j => ∀ c d, s.C[i]? = some c → s.C[j]? = some d → ¬ ∀ x, x ∈ c.lits ↔ x ∈ d.lits
  fewC : s.C.length ≤ k
  few : s.F.length + s.Y.length ≤ m
section
variable {n k m : Nat} {L : List (List Int)} {lr : List Nat} {s s' : St}
theorem Sv.mono (h : Sv n L lr k m s) {k' m' : Nat} (hk : k ≤ k') (hm : m ≤ m') : Sv n L lr k' m' s := { h with fewC := Nat.le_trans h.fewC hk, few := Nat.le_trans h.few hm }
theorem Sv.empty : Sv 0 [] [] 0 0 (st0 0) := by
  refine ⟨Good.new (by decide) trivial, rfl, Dp.nil, fun j hj => (by cases hj), fun vs _ c hc => (by cases hc), fun vs _ c hc => (by cases hc), fun c hc => (by cases hc), fun id hid => (by cases hid), .nil, Nat.le_refl _, Nat.le_refl _⟩
theorem Sv.grow (h : Sv n L lr k m s) (hn : n < 262144) : Sv (n + 1) L lr k m (Watch.grow s) :=
  { h with good := h.good.grow (by rw [h.n]; exact hn), n := by show s.n + 1 = n + 1; rw [h.n], up := h.up }
theorem Sv.add (h : Sv n L lr k m s) {xs own : List Int} (hf : fitB n xs = true) (hcl : Lit.Clean xs own) (hD : s.D = 0) : Sv n (L ++ [xs]) lr (k + 1) (m + 1) (addP s (leadP s.E own) (Lit.bothB xs)) := by
  obtain ⟨hg, hmem⟩ := h.good.addC (by rw [h.n]; exact hf) hcl
  have hfit := fitB_iff.1 hf
  have hlr : ∀ id ∈ lr, id < s.C.length := fun id hid => by obtain ⟨c, hc, _⟩ := h.lrn id hid; exact (List.getElem?_eq_some_iff.1 hc).1
  have hu := h.up.add (l := leadP s.E own) (b := Lit.bothB xs) fun _ j hj => by omega
  obtain ⟨e1, e2, e3, e4, e5, e6⟩ := addP_E s (leadP s.E own) (Lit.bothB xs)
  have hfF := addP_F s (leadP s.E own) (Lit.bothB xs)
  generalize leadP s.E own = lits at *
  refine ⟨hg, e4.trans h.n, by rw [e1]; exact h.dp, hu, ?_, ?_, ?_, ?_, ?_, by rw [e5, List.length_append]; exact Nat.succ_le_succ h.fewC, by have := h.few; rw [e6]; omega⟩
  · intro vs hv c hc
    rw [e5] at hv
    rw [List.mem_append, List.mem_singleton] at hc
    rcases hc with hc | rfl
    · refine h.usr vs (fun id c hc => hv id c ?_) c hc
      rw [List.getElem?_append_left (List.getElem?_eq_some_iff.1 hc).1]; exact hc
    · cases hb : Lit.bothB c with
      | true =>
        obtain ⟨x, a, b⟩ := Lit.bothB_iff.1 hb
        exact hol_both (by have := okLit_iff.1 ((one_ok x).symm.trans (hfit x a).1); omega) a b
      | false =>
        refine (hol_congr hmem).1 (hv s.C.length ⟨lits, true, Lit.bothB c⟩ (by rw [List.getElem?_append_right (Nat.le_refl _), Nat.sub_self]; rfl) (fun hid => ?_) rfl hb)
        have := hlr _ hid; omega
  · intro vs hv c hc
    rw [e5, List.mem_append, List.mem_singleton] at hc
    rcases hc with hc | rfl
    · exact h.foll vs (fun c hc => hv c (List.mem_append_left _ hc)) c hc
    · intro _ _
      exact (hol_congr hmem).2 (hv xs (by simp))
  · intro c hc hb
    rw [e5]
    rw [List.mem_append, List.mem_singleton] at hc
    rcases hc with hc | rfl
    · obtain ⟨id, d, h1, h2⟩ := h.has c hc hb
      exact ⟨id, d, appC_get h1, h2⟩
    · exact ⟨s.C.length, ⟨lits, true, Lit.bothB c⟩, by rw [List.getElem?_append_right (Nat.le_refl _), Nat.sub_self]; rfl, fun hid => by have := hlr _ hid; omega, rfl, hb, hmem⟩
  · intro id hid
    obtain ⟨c, hc, h1⟩ := h.lrn id hid
    exact ⟨c, by rw [e5]; exact appC_get hc, h1⟩
  · refine List.Pairwise.imp_of_mem ?_ h.new
    intro i j hi hj hij c d hc hd
    rw [e5, List.getElem?_append_left (hlr i hi)] at hc
    rw [e5, List.getElem?_append_left (hlr j hj)] at hd
    exact hij c d hc hd
theorem Ext.at_ (x : Ext s s') {id : Nat} {c : Cls} (hc : s'.C[id]? = some c) : ∃ d, s.C[id]? = some d ∧ c.on = d.on ∧ c.idle = d.idle ∧ c.lits.Perm d.lits := by
  have hlt := (List.getElem?_eq_some_iff.1 hc).1
  rw [x.len] at hlt
  obtain ⟨c', k1, k2⟩ := x.C id _ (List.getElem?_eq_getElem hlt)
  rw [hc] at k1; cases k1
  exact ⟨_, List.getElem?_eq_getElem hlt, k2⟩
theorem Sv.ext (h : Sv n L lr k m s) (hg : Good (fun _ => True) s') (x : Ext s s') {m' : Nat} (hm : s'.F.length + s'.Y.length ≤ m') : Sv n L lr k m' s' := by
  refine ⟨hg, x.n.trans h.n, h.dp.ext x, h.up.ext x, fun vs hv => h.usr vs fun id c hc h1 h2 h3 => ?_, fun vs hv c hc h1 h2 => ?_, fun c hc hb => ?_, fun id hid => ?_, ?_, by rw [x.len]; exact h.fewC, hm⟩
  · obtain ⟨c', k1, k2, k3, k4⟩ := x.C id c hc
    exact (hol_congr fun x => k4.mem_iff).1 (hv id c' k1 h1 (k2.trans h2) (k3.trans h3))
  · obtain ⟨id, hid⟩ := List.getElem?_of_mem hc
    obtain ⟨d, k1, k2, k3, k4⟩ := x.at_ hid
    exact (hol_congr fun x => k4.mem_iff).2 (h.foll vs hv d (List.mem_of_getElem? k1) (k2.symm.trans h1) (k3.symm.trans h2))
  · obtain ⟨id, d, h1, h2, h3, h4, h5⟩ := h.has c hc hb
    obtain ⟨d', k1, k2, k3, k4⟩ := x.C id d h1
    exact ⟨id, d', k1, h2, k2.trans h3, k3.trans h4, fun y => k4.mem_iff.trans (h5 y)⟩
  · obtain ⟨c, hc, h1, h2⟩ := h.lrn id hid
    obtain ⟨c', k1, k2, k3, k4⟩ := x.C id c hc
    exact ⟨c', k1, k2.trans h1, k3.trans h2⟩
  · refine h.new.imp fun hij c d hc hd he => ?_
    obtain ⟨c', k1, _, _, k4⟩ := x.at_ hc
    obtain ⟨d', j1, _, _, j4⟩ := x.at_ hd
    exact hij c' d' k1 j1 fun x => (k4.mem_iff.symm.trans (he x)).trans j4.mem_iff
theorem Sv.decide (h : Sv n L lr k m s) (hF : s.F = []) (hh : s.h = s.E.length) {x : Int} (hl : okLit x = true) (hn : var x ≤ n) (hv : value s.E x = 0) : Sv n L lr k m (decide' s x) := by
  refine { h with good := h.good.decide hl (by rw [h.n]; exact hn) hv (fun L _ => .inl trivial) trivial fun e he => ?_, n := h.n, dp := h.dp.add h.good.levs x, up := h.up.decide h.good hF hh x }
  rw [hh, List.drop_length] at he
  cases he
theorem back_sumS (s : St) (k : Nat) : (Watch.back s k).F.length + (Watch.back s k).Y.length ≤ s.F.length + s.Y.length := by
  show (s.F ++ (s.Y.filter fun p => Decidable.decide (k < p.2)).map (·.1)).length + (s.Y.filter fun p => !Decidable.decide (k < p.2)).length ≤ _
  rw [List.length_append, List.length_map]
  have h : ∀ l : List (Nat × Nat), (l.filter fun p => Decidable.decide (k < p.2)).length + (l.filter fun p => !Decidable.decide (k < p.2)).length = l.length := by
    intro l
    induction l with
    | nil => rfl
    | cons p l ih =>
      rw [List.filter_cons, List.filter_cons]
      cases hp : Decidable.decide (k < p.2)
      · rw [if_neg Bool.false_ne_true, Bool.not_false, if_pos rfl, List.length_cons, List.length_cons]; omega
      · rw [if_pos rfl, Bool.not_true, if_neg Bool.false_ne_true, List.length_cons, List.length_cons]; omega
  have := h s.Y
  omega
theorem Sv.back (h : Sv n L lr k m s) {j : Nat} (hj : j ≤ s.D) : Sv n L lr k m (Watch.back s j) :=
  { h with good := h.good.back trivial hj, dp := h.dp.upto j, up := h.up.back hj, few := Nat.le_trans (back_sumS s j) h.few }
theorem Sv.gam (h : Sv n L lr k m s) {vs : List Bool} (hv : ∀ c ∈ L, hol vs c) : (∀ c, Gam s c → hol vs c) ∧ ∀ c, Gam s c → ∀ x ∈ c, x ≠ 0 := by
  constructor
  · rintro c ⟨d, hd, h1, h2, h3⟩
    exact (hol_congr h3).2 (h.foll vs hv d hd h1 h2)
  · rintro c ⟨d, hd, h1, h2, h3⟩ x hx
    have := okLit_iff.1 ((h.good.cl d hd).1 x ((h3 x).1 hx)).1
    exact this.1
/-- What is learnt is added. -/
theorem Sv.learn (h : Sv n L lr k m s) {c0 : List Int} {top x back : Int} {R own : List Int} (hL : Learnt s c0 top x R back) {b : Nat} (hb : back = b) (hcl : Lit.Clean (x :: R) own) :
    Sv n L (lr ++ [s.C.length]) (k + 1) (m + 1) (addP (Watch.back s b) (leadP (Watch.back s b).E own) (Lit.bothB (x :: R))) := by
  have hg := h.good
  have h1 := hL.back_ltS
  have h2 := hL.top_leS hg
  have hbk := h.back (j := b) (by omega)
  have hbo := hL.bothS hg
  have hfit : fitB n (x :: R) = true := fitB_iff.2 fun y hy => ⟨by rw [one_ok]; exact (hL.entS hg y hy).2.1, by rw [← h.n]; exact (hL.entS hg y hy).2.2⟩
  obtain ⟨hga, hmem⟩ := hbk.good.addC (by rw [hbk.n]; exact hfit) hcl
  have hlr : ∀ id ∈ lr, id < s.C.length := fun id hid => by obtain ⟨c, hc, _⟩ := h.lrn id hid; exact (List.getElem?_eq_some_iff.1 hc).1
  have hu := hbk.up.add (l := leadP (Watch.back s b).E own) (b := Lit.bothB (x :: R)) fun _ j hj => hL.clo hg hb hmem j hj
  obtain ⟨e1, e2, e3, e4, e5, e6⟩ := addP_E (Watch.back s b) (leadP (Watch.back s b).E own) (Lit.bothB (x :: R))
  have hfF := addP_F (Watch.back s b) (leadP (Watch.back s b).E own) (Lit.bothB (x :: R))
  have hfew := hbk.few
  generalize leadP (Watch.back s b).E own = lits at *
  have e5' : (addP (Watch.back s b) lits (Lit.bothB (x :: R))).C = s.C ++ [⟨lits, true, false⟩] := by rw [e5, hbo]; rfl
  refine ⟨hga, e4.trans h.n, by rw [e1]; exact hbk.dp, hu, ?_, ?_, ?_, ?_, ?_, by rw [e5', List.length_append]; exact Nat.succ_le_succ h.fewC, by rw [e6]; omega⟩
  · intro vs hv c hc
    rw [e5'] at hv
    refine h.usr vs (fun id c hc hid => hv id c (appC_get hc) ?_) c hc
    rw [List.mem_append, List.mem_singleton]
    rintro (h3 | rfl)
    · exact hid h3
    · rw [List.getElem?_eq_none (Nat.le_refl _)] at hc; cases hc
  · intro vs hv c hc
    rw [e5', List.mem_append, List.mem_singleton] at hc
    rcases hc with hc | rfl
    · exact h.foll vs hv c hc
    · intro _ _
      refine (hol_congr hmem).2 (Classical.byContradiction fun hno => ?_)
      obtain ⟨h3, h4⟩ := h.gam hv
      refine conf_false h3 h4 (fun z hz => ?_) hL.conf
      obtain ⟨y, hy, rfl⟩ := hz
      have hy' : y ∈ x :: R := hy
      have h5 := (okLit_iff.1 (hL.entS hg y hy').2.1).1
      rw [tv_neg h5]
      cases ht : tv vs y with
      | true => exact (hno ⟨y, hy', ht⟩).elim
      | false => rfl
  · intro c hc hb
    obtain ⟨id, d, h1, h2, h3⟩ := h.has c hc hb
    rw [e5']
    refine ⟨id, d, appC_get h1, fun hid => ?_, h3⟩
    rw [List.mem_append, List.mem_singleton] at hid
    rcases hid with hid | rfl
    · exact h2 hid
    · rw [List.getElem?_eq_none (Nat.le_refl _)] at h1; cases h1
  · intro id hid
    rw [List.mem_append, List.mem_singleton] at hid
    rcases hid with hid | rfl
    · obtain ⟨c, hc, h1⟩ := h.lrn id hid
      exact ⟨c, by rw [e5']; exact appC_get hc, h1⟩
    · exact ⟨⟨lits, true, false⟩, by rw [e5', List.getElem?_append_right (Nat.le_refl _), Nat.sub_self]; rfl, rfl, rfl⟩
  · rw [List.pairwise_append]
    refine ⟨?_, List.pairwise_singleton _ _, fun i hi j hj c d hc hd he => ?_⟩
    · refine List.Pairwise.imp_of_mem ?_ h.new
      intro i j hi hj hij c d hc hd
      rw [e5', List.getElem?_append_left (hlr i hi)] at hc
      rw [e5', List.getElem?_append_left (hlr j hj)] at hd
      exact hij c d hc hd
    · rw [List.mem_singleton] at hj
      subst hj
      rw [e5', List.getElem?_append_left (hlr i hi)] at hc
      rw [e5', List.getElem?_append_right (Nat.le_refl _), Nat.sub_self] at hd
      cases hd
      obtain ⟨c', k1, k2, k3⟩ := h.lrn i hi
      rw [hc] at k1; cases k1
      exact hL.fresh hg h.up (List.mem_of_getElem? hc) k2 k3 fun y => (he y).trans (hmem y)
/-- Something that was learnt is removed. -/
theorem Sv.remove (h : Sv n L lr k m s) {i : Nat} {c : Cls} (hc : s.C[i]? = some c) {lr' : List Nat} (hlr : ∀ j, j ∈ lr' ↔ j ∈ lr ∧ j ≠ i) (hi : i ∈ lr) (hsub : lr'.Sublist lr) (hn : ∀ x ∈ c.lits, ¬ (reE s.E (var x) = (i : Int) ∧ value s.E x = 1)) (hD : s.D = 0) : Sv n L lr' k m (Watch.off s i c) := by
  refine ⟨h.good.off hc hn, h.n, h.dp, fun j hj => ?_, fun vs hv => h.usr vs fun id d hd h1 h2 h3 => ?_, fun vs hv d hd h1 h2 => ?_, fun c' hc' hb => ?_, fun id hid => ?_, ?_, by show (s.C.set _ _).length ≤ k; rw [List.length_set]; exact h.fewC, h.few⟩
  · have : j < s.D := hj
    omega
  · obtain ⟨d', k1, k2, k3, k4⟩ := off_old hc id d hd
    obtain rfl := k4 (by rintro rfl; exact h1 hi)
    exact hv id d' k1 (fun hid => h1 ((hlr id).1 hid).1) h2 h3
  · obtain ⟨id, hid⟩ := List.getElem?_of_mem hd
    exact h.foll vs hv d (List.mem_of_getElem? (off_new id d hid h1).2) h1 h2
  · obtain ⟨id, d, h1, h2, h3⟩ := h.has c' hc' hb
    obtain ⟨d', k1, k2, k3, k4⟩ := off_old hc id d h1
    obtain rfl := k4 (by rintro rfl; exact h2 hi)
    exact ⟨id, d', k1, fun hid => h2 ((hlr id).1 hid).1, h3⟩
  · obtain ⟨h1, h2⟩ := (hlr id).1 hid
    obtain ⟨d, h3, h4, h5⟩ := h.lrn id h1
    obtain ⟨d', k1, k2, k3, k4⟩ := off_old hc id d h3
    obtain rfl := k4 (Ne.symm h2)
    exact ⟨d', k1, h4, h5⟩
  · refine (h.new.sublist hsub).imp fun hij c' d' hc' hd' => ?_
    have hg : ∀ (j : Nat) (e : Cls), (Watch.off s i c).C[j]? = some e → ∃ e', s.C[j]? = some e' ∧ e'.lits = e.lits := by
      intro j e he
      rcases set_getS he with ⟨rfl, rfl⟩ | ⟨_, h1⟩
      · exact ⟨c, hc, rfl⟩
      · exact ⟨e, h1, rfl⟩
    obtain ⟨c'', h1, h2⟩ := hg _ _ hc'
    obtain ⟨d'', h3, h4⟩ := hg _ _ hd'
    rw [← h2, ← h4]
    exact hij c'' d'' h1 h3
/-- No more than there are signs. -/
theorem Sv.count (h : Sv n L lr k m s) : lr.length ≤ 3 ^ n := by
  have hc : ∀ id ∈ lr, ∃ c, s.C[id]? = some c ∧ c.on = true ∧ c.idle = false := h.lrn
  have hnd : (lr.map fun id => sig n ((s.C[id]?.map Cls.lits).getD [])).Nodup := by
    unfold List.Nodup
    rw [List.pairwise_map]
    refine List.Pairwise.imp_of_mem ?_ h.new
    intro i j hi hj hij e
    obtain ⟨c, c1, c2, c3⟩ := hc i hi
    obtain ⟨d, d1, d2, d3⟩ := hc j hj
    rw [c1, d1] at e
    have e' : sig n c.lits = sig n d.lits := e
    have fc := h.good.cl c (List.mem_of_getElem? c1)
    have fd := h.good.cl d (List.mem_of_getElem? d1)
    rw [h.n] at fc fd
    have bc : ∀ x ∈ c.lits, -x ∉ c.lits := fun x hx hy => by rw [fc.2.2.2 ⟨x, hx, hy⟩] at c3; cases c3
    have bd : ∀ x ∈ d.lits, -x ∉ d.lits := fun x hx hy => by rw [fd.2.2.2 ⟨x, hx, hy⟩] at d3; cases d3
    exact hij c d c1 d1 fun x => ⟨sig_inj fc.1 fd.1 bc bd e' x, sig_inj fd.1 fc.1 bd bc e'.symm x⟩
  have := nodup_few hnd (m := sgs n) fun x hx => by
    obtain ⟨id, _, rfl⟩ := List.mem_map.1 hx
    exact sig_mem _ n
  rwa [List.length_map, sgs_len] at this
/-- A conflict at the level 0: they can't hold. -/
theorem Sv.never (h : Sv n L lr k m s) {id : Nat} {c : Cls} (hc : s.C[id]? = some c) (h1 : c.on = true) (h2 : c.idle = false) (hf : ∀ y ∈ c.lits, tru s.E (-y)) (h0 : ∀ y ∈ c.lits, lvE s.E (var y) ≤ 0) : ∀ vs, ¬ ∀ c ∈ L, hol vs c := by
  intro vs hv
  obtain ⟨h3, h4⟩ := h.gam hv
  have hcf : Conf (Gam s) (Neg [] []) := cov_conf h.good h.dp (top := 1) (T := []) (R := []) (M := fun _ => False) (SOk.nil (Int.le_refl 1)) (fun v hv => hv.elim) hc h1 h2 hf fun y hy => .inl (h0 y hy)
  exact conf_false h3 h4 (fun z hz => by obtain ⟨y, hy, _⟩ := hz; cases hy) hcf
/-- All variables have a value, and nothing is left to be followed: they hold. -/
theorem Sv.model (h : Sv n L lr k m s) (hF : s.F = []) (hh : s.h = s.E.length) (hall : ∀ v : Nat, 1 ≤ v → v ≤ n → find s.E (v : Int) ≠ none) {vs : List Bool} (hl : vs.length = n) (hvs : ∀ i, i < n → vs.getD i false = Decidable.decide (value s.E ((i : Int) + 1) = 1)) : ∀ c ∈ L, hol vs c := by
  have hg := h.good
  have htv : ∀ y, okLit y = true → var y ≤ n → tru s.E y → tv vs y = true := by
    intro y h1 h2 h3
    have h4 := okLit_iff.1 h1
    have h5 := h2
    rw [var_ok h1] at h5
    unfold tv
    rw [hvs _ (by omega)]
    rcases Int.lt_or_gt_of_ne h4.1 with h6 | h6
    · rw [if_pos h6]
      have e : (((y.natAbs - 1 : Nat) : Int) + 1) = -y := by omega
      rw [e]
      have : value s.E (-y) = -1 := (hg.valn (by rw [okLit_neg]; exact h1)).2 (by rw [Int.neg_neg]; exact h3)
      rw [this]; rfl
    · rw [if_neg (by omega)]
      have e : (((y.natAbs - 1 : Nat) : Int) + 1) = y := by omega
      rw [e, (hg.val1 h1).2 h3]; rfl
  refine h.usr vs fun id c hc _ h1 h2 => ?_
  have hcm := List.mem_of_getElem? hc
  have hcl := (hg.cl c hcm).1
  have hdone : ∀ y ∈ c.lits, tru s.E y ∨ tru s.E (-y) := by
    intro y hy
    obtain ⟨h3, h4⟩ := hcl y hy
    rcases val_cases s.E y with hv | hv | hv
    · exact .inl ((hg.val1 h3).1 hv)
    · exact (hall (var y) (var_pos.2 h3) (by rw [← h.n]; exact h4) (val_zero hg.inv h3 hv)).elim
    · exact .inr ((hg.valn h3).1 hv)
  rcases hg.clo hF hh hcm h1 h2 with ⟨y, hy, ht⟩ | ⟨y, hy, z, hz, _, h4, h5⟩
  · exact ⟨y, hy, htv y (hcl y hy).1 (by rw [← h.n]; exact (hcl y hy).2) ht.tru⟩
  · rcases hdone y hy with h6 | h6
    · exact ⟨y, hy, htv y (hcl y hy).1 (by rw [← h.n]; exact (hcl y hy).2) h6⟩
    · exact (h4 (h6.lev hg.levs)).elim
/-- What is led to at the level 0. -/
theorem Sv.unit (h : Sv n L lr k m s) (hD : s.D = 0) (hF : s.F = []) (hh : s.h = s.E.length) {y : Int} (hc : [y] ∈ L) (hb : Lit.bothB [y] = false) : tru s.E y := by
  obtain ⟨id, d, h1, h2, h3, h4, h5⟩ := h.has _ hc hb
  rcases h.good.clo hF hh (List.mem_of_getElem? h1) h3 h4 with ⟨z, h6, h7⟩ | ⟨z, h6, u, h7, h8, _⟩
  · have := (h5 z).1 h6
    rw [List.mem_singleton] at this
    exact this ▸ h7.tru
  · have e1 := (h5 z).1 h6
    have e2 := (h5 u).1 h7
    rw [List.mem_singleton] at e1 e2
    exact (h8 (e1.trans e2.symm)).elim
theorem Sv.unit2 (h : Sv n L lr k m s) (hD : s.D = 0) (hF : s.F = []) (hh : s.h = s.E.length) {y z : Int} (hc : [y, z] ∈ L) (hb : Lit.bothB [y, z] = false) (hy : tru s.E (-y)) : tru s.E z := by
  obtain ⟨id, d, h1, h2, h3, h4, h5⟩ := h.has _ hc hb
  have hm := List.mem_of_getElem? h1
  have hyl := hy.lev h.good.levs
  rcases h.good.clo hF hh hm h3 h4 with ⟨u, h6, h7⟩ | ⟨u, h6, v, h7, h8, h9, h10⟩
  · have := (h5 u).1 h6
    simp only [List.mem_cons, List.not_mem_nil, or_false] at this
    rcases this with rfl | rfl
    · exact (not_both h.good.inv.once ((h.good.cl d hm).1 u h6).1 h7.tru hy).elim
    · exact h7.tru
  · have e1 := (h5 u).1 h6
    have e2 := (h5 v).1 h7
    simp only [List.mem_cons, List.not_mem_nil, or_false] at e1 e2
    rcases e1 with rfl | rfl
    · exact (h9 hyl).elim
    · rcases e2 with rfl | rfl
      · exact (h10 hyl).elim
      · exact (h8 rfl).elim
theorem Sv.at_ (h : Sv n L lr k m s) {y : Int} (hl : okLit y = true) (hy : tru s.E y) : value s.E y = 1 ∧ value s.E (-y) = -1 ∧ find s.E (var y : Int) ≠ none := by
  have h1 := (h.good.val1 hl).2 hy
  refine ⟨h1, (h.good.valn (by rw [okLit_neg]; exact hl)).2 (by rw [Int.neg_neg]; exact hy), fun hf => ?_⟩
  have := value_none h.good.inv hl hf
  omega
end
end Go.Watch
/-! The pace, told of a part of memory. -/
set_option linter.unusedVariables false
set_option linter.unusedSimpArgs false
namespace Go.Proofs.YtcibiidebknkgaaGreat
open Go Go.Vc
set_option maxHeartbeats 4000000
set_option maxRecDepth 100000
theorem log2_of {n k : Nat} (h1 : 2 ^ k ≤ n) (h2 : n < 2 ^ (k + 1)) : Nat.log2 n = k := by
  have hn : n ≠ 0 := by have := Nat.two_pow_pos k; omega
  have h3 : 2 ^ Nat.log2 n ≤ n := Nat.log2_self_le hn
  have h4 : n < 2 ^ (Nat.log2 n + 1) := Nat.lt_log2_self
  have a : Nat.log2 n < k + 1 := (Nat.pow_lt_pow_iff_right (by omega : 1 < 2)).1 (Nat.lt_of_le_of_lt h3 h2)
  have b : k < Nat.log2 n + 1 := (Nat.pow_lt_pow_iff_right (by omega : 1 < 2)).1 (Nat.lt_of_le_of_lt h1 h4)
  omega
/-! bits.Len -/
def blen (n : Nat) : Nat := if n = 0 then 0 else Nat.log2 n + 1

def len8 : ByteArray := ⟨(([0, 1, 2, 2, 3, 3, 3, 3, 4, 4, 4, 4, 4, 4, 4, 4, 5, 5, 5, 5, 5, 5, 5, 5, 5, 5, 5, 5, 5, 5, 5, 5] ++ List.replicate 32 6 ++ List.replicate 64 7 ++ List.replicate 128 8 : List UInt8)).toArray⟩

theorem len8_tab : ∀ j, j < 256 → (len8[j]?).map UInt8.toNat = some (blen j) := by decide +kernel

theorem Do_index_str {P : Program} {T : Tab} (hT : TabOk P T) {t : TypeId} {s : ByteArray} {k : IntKind} {i : Int} {w : World} {K : Value → World → Prop} (hd : T.d t = some .string) (j : Nat) (n : Nat) (hi : i = j)
    (hb : (s[j]?).map UInt8.toNat = some n) (hk : K (.int .u8 n) w) : Do P (Instr.index t (.string s) (.int k i)) w K := by
  subst hi
  cases hs : s[j]? with
  | none => rw [hs] at hb; cases hb
  | some b =>
    rw [hs] at hb
    simp only [Option.map_some, Option.some.injEq] at hb
    refine ⟨_, w, ?_, hk⟩
    simp [Instr.index, asIntOf, hT.und hd, hs, hb]

theorem blen_shift (x k : Nat) (h : 2 ^ k ≤ x) : blen x = blen (x / 2 ^ k) + k := by
  have hp := Nat.two_pow_pos k
  have h1 : x ≠ 0 := by omega
  have h2 : 1 ≤ x / 2 ^ k := (Nat.le_div_iff_mul_le hp).2 (by omega)
  unfold blen
  rw [if_neg h1, if_neg (by omega)]
  have := Nat.log2_self_le (n := x / 2 ^ k) (by omega)
  have h4 := Nat.lt_log2_self (n := x / 2 ^ k)
  have e : Nat.log2 x = Nat.log2 (x / 2 ^ k) + k := by
    apply log2_of
    · rw [Nat.pow_add]
      exact (Nat.le_div_iff_mul_le hp).1 this
    · rw [show Nat.log2 (x / 2 ^ k) + k + 1 = (Nat.log2 (x / 2 ^ k) + 1) + k by omega, Nat.pow_add]
      exact (Nat.div_lt_iff_lt_mul hp).1 h4
  omega

theorem fdiv_pow (x k : Nat) : ((x : Int)).fdiv (2 ^ k) = ((x / 2 ^ k : Nat) : Int) := by
  rw [Int.fdiv_eq_ediv_of_nonneg _ (Int.le_of_lt (Int.pow_pos (by decide)))]
  rw [Int.natCast_ediv]; simp

theorem len8_le : ∀ x, x < 256 → blen x ≤ 8 := by decide +kernel

theorem len64 (x : Nat) (w : World) (hx : x < 4294967296) : Does Tryz.prog 125 #[.int .u64 x] w fun v w' => v = .int .i64 (blen x) ∧ w' = w := by
  refine Does_intro tok (Tryz.call125 _ _) Tryz.func125 rfl (by rfl) ?_
  refine Join_dup (Br_dec_no (by omega) ?_)
  refine Join_dup (Br_dec (fun h1 => ?_) (fun h1 => ?_))
  · refine Nn_in (by omega) (Eqv_is ((x / 2 ^ 16 : Nat) : Int) (fdiv_pow x 16) ?_)
    refine Ar_i64 (by omega) (by omega) ?_
    refine Join_dup (Br_dec (fun h2 => ?_) (fun h2 => ?_))
    · refine Nn_in (by omega) (Eqv_is ((x / 2 ^ 16 / 2 ^ 8 : Nat) : Int) (fdiv_pow _ 8) ?_)
      refine Ar_i64 (by omega) (by omega) ?_
      refine Ar_u8 (by omega) (by omega) ?_
      refine Do_index_str tok rfl (x / 2 ^ 16 / 2 ^ 8) _ rfl (len8_tab _ (by omega)) ?_
      refine Ar_i64 (by omega) (by have := len8_le (x / 2 ^ 16 / 2 ^ 8) (by omega); omega) ?_
      refine Ar_i64 (by omega) (by have := len8_le (x / 2 ^ 16 / 2 ^ 8) (by omega); omega) ?_
      refine Ret_in ⟨vint ?_, rfl⟩
      rw [blen_shift x 16 (by omega), blen_shift (x / 2 ^ 16) 8 (by omega)]
      omega
    · refine Ar_u8 (by omega) (by omega) ?_
      refine Do_index_str tok rfl (x / 2 ^ 16) _ rfl (len8_tab _ (by omega)) ?_
      refine Ar_i64 (by omega) (by have := len8_le (x / 2 ^ 16) (by omega); omega) ?_
      refine Ar_i64 (by omega) (by have := len8_le (x / 2 ^ 16) (by omega); omega) ?_
      refine Ret_in ⟨vint ?_, rfl⟩
      rw [blen_shift x 16 (by omega)]
      omega
  · refine Join_dup (Br_dec (fun h2 => ?_) (fun h2 => ?_))
    · refine Nn_in (by omega) (Eqv_is ((x / 2 ^ 8 : Nat) : Int) (fdiv_pow _ 8) ?_)
      refine Ar_i64 (by omega) (by omega) ?_
      refine Ar_u8 (by omega) (by omega) ?_
      refine Do_index_str tok rfl (x / 2 ^ 8) _ rfl (len8_tab _ (by omega)) ?_
      refine Ar_i64 (by omega) (by have := len8_le (x / 2 ^ 8) (by omega); omega) ?_
      refine Ar_i64 (by omega) (by have := len8_le (x / 2 ^ 8) (by omega); omega) ?_
      refine Ret_in ⟨vint ?_, rfl⟩
      rw [blen_shift x 8 (by omega)]
      omega
    · refine Ar_u8 (by omega) (by omega) ?_
      refine Do_index_str tok rfl x _ rfl (len8_tab _ (by omega)) ?_
      refine Ar_i64 (by omega) (by have := len8_le x (by omega); omega) ?_
      refine Ar_i64 (by omega) (by have := len8_le x (by omega); omega) ?_
      exact Ret_in ⟨vint (by omega), rfl⟩

theorem len (x : Int) (n : Nat) (w : World) (h : x = n) (hx : n < 4294967296) : Does Tryz.prog 94 #[.int .u64 x] w fun v w' => v = .int .i64 (blen n) ∧ w' = w := by
  subst h
  refine Does_intro tok (Tryz.call94 _ _) Tryz.func94 rfl (by rfl) ?_
  refine Br_false ?_
  refine Call_of (len64 n _ hx) ?_
  rintro v w' ⟨rfl, rfl⟩
  exact Ret_in ⟨rfl, rfl⟩

/-! Luby -/
theorem shl_pow (k : Nat) (h : k ≤ 30) : IntKind.i64.wrap (1 * 2 ^ min ((k : Int)).toNat 64) = ((2 ^ k : Nat) : Int) := by
  have hp : (2 : Nat) ^ k ≤ 2 ^ 30 := Nat.pow_le_pow_right (by omega) h
  have e : min ((k : Int)).toNat 64 = k := by omega
  have e2 : (1 * 2 ^ k : Int) = ((2 ^ k : Nat) : Int) := by rw [Int.one_mul]; simp
  rw [e, e2]
  generalize (2 : Nat) ^ k = q at hp ⊢
  exact wrap_i64 (by omega) (by omega)

theorem log_pos {i : Nat} (h : 1 ≤ i) : 2 ≤ 2 ^ Nat.log2 (i + 1) := by
  have h1 : i + 1 < 2 ^ (Nat.log2 (i + 1) + 1) := Nat.lt_log2_self
  rw [Nat.pow_succ] at h1
  have : 1 ≤ Nat.log2 (i + 1) := by
    rcases Nat.eq_zero_or_pos (Nat.log2 (i + 1)) with h0 | h0
    · rw [h0] at h1; omega
    · exact h0
  calc 2 = 2 ^ 1 := rfl
    _ ≤ _ := Nat.pow_le_pow_right (by omega) this
theorem luby_any (i : Int) (n : Nat) (w : World) (h : i = n) (h1 : 1 ≤ n) (h2 : n ≤ 1048576) : Does Tryz.prog 103 #[.int .i64 i] w fun v w' => (∃ k : Nat, v = .tuple #[.int .i64 k, .int .i64 0] ∧ k ≤ 1048576) ∧ w' = w := by
  subst h
  refine Does_intro tok (Tryz.call103 _ _) Tryz.func103 rfl (by rfl) ?_
  refine Br_dec_no (by omega) ?_
  (repeat (first | refine Br_true ?_ | refine Br_false ?_))
  refine Br_dec_no (by omega) ?_
  refine Loop_intro (fun i : Nat => [(0, .int .i64 (i : Int))]) (fun i w' => w' = w ∧ 1 ≤ i ∧ i ≤ 1048576) (fun i => i) n ⟨rfl, trivial⟩ ⟨rfl, h1, h2⟩ ?_
  rintro i w' ⟨rfl, h1, h2⟩
  have e1 := log_pos h1
  have e2 : 2 ^ Nat.log2 (i + 1) ≤ i + 1 := Nat.log2_self_le (by omega)
  have e3 : Nat.log2 (i + 1) ≤ 30 := by
    have h : i + 1 < 2 ^ (Nat.log2 (i + 1) + 1) := Nat.lt_log2_self
    rcases Nat.lt_or_ge 30 (Nat.log2 (i + 1)) with h' | h'
    · have := Nat.pow_le_pow_right (n := 2) (by omega) h'
      omega
    · exact h'
  (repeat (first | refine Br_true ?_ | refine Br_false ?_ | refine Ar_i64 (by omega) (by omega) ?_ | refine Eqv_in ?_ | refine Br_dec_yes (by omega) ?_ | refine Br_dec_no (by omega) ?_ | refine Br_eq_yes rfl ?_ | refine Br_ne_no rfl ?_ | refine Br_eq_yes (by omega) ?_ | refine Br_eq_no (by omega) ?_ | refine Br_ne_yes (by omega) ?_ | refine Br_ne_no (by omega) ?_ | refine Br_not ?_ | refine Join_dup (Br_dec_yes (by omega) ?_) | refine Join_dup (Br_dec_no (by omega) ?_) | refine Join_dup (Br_eq_yes (by omega) ?_) | refine Join_dup (Br_eq_no (by omega) ?_) | refine Join_dup (Br_ne_yes (by omega) ?_) | refine Join_dup (Br_ne_no (by omega) ?_) | refine Ar_i32 (by omega) (by omega) ?_ | refine Ar_u64 (by omega) (by omega) ?_ | refine Ar_u32 (by omega) (by omega) ?_ | refine Nn_in (by omega) ?_ | refine Nz_in (by omega) ?_))
  refine Call_of (len _ (i + 1) _ (by omega) (by omega)) ?_
  rintro v w1 ⟨rfl, rfl⟩
  have e4 : blen (i + 1) = Nat.log2 (i + 1) + 1 := by unfold blen; rw [if_neg (by omega)]
  rw [e4]
  refine Ar_is ((Nat.log2 (i + 1) : Nat) : Int) (by rw [show ((Nat.log2 (i + 1) + 1 : Nat) : Int) - 1 = ((Nat.log2 (i + 1) : Nat) : Int) by omega]; exact wrap_i64 (by omega) (by omega)) ?_
  refine Nn_in (by omega) (Ar_is ((2 ^ Nat.log2 (i + 1) : Nat) : Int) (shl_pow _ e3) ?_)
  generalize hq : 2 ^ Nat.log2 (i + 1) = q at *
  refine Ar_i64 (by omega) (by omega) ?_
  refine Br_eq (fun h3 => ?_) (fun h3 => ?_)
  · refine Nz_in (by omega) (Ar_is ((q / 2 : Nat) : Int) ?_ ?_)
    · rw [show ((q : Int)).tdiv 2 = ((q / 2 : Nat) : Int) by rw [Int.tdiv_eq_ediv_of_nonneg (by omega)]; omega]
      exact wrap_i64 (by omega) (by omega)
    exact Ret_in ⟨⟨q / 2, rfl, by omega⟩, rfl⟩
  · refine Ar_i64 (by omega) (by omega) ?_
    refine Ar_i64 (by omega) (by omega) ?_
    exact ⟨i - (q - 1), ⟨congrArg some (vint (by omega)), trivial⟩, ⟨rfl, by omega, by omega⟩, by omega⟩

theorem within1 (n : Int) (w : World) : Does Tryz.prog 38 #[.int .i64 n] w fun v w' => v = .int .i64 (max 1 (min n 1048576)) ∧ w' = w := by
  refine Does_intro tok (Tryz.call38 _ _) Tryz.func38 rfl (by rfl) ?_
  refine Eqv_in (Eqv_in ?_)
  exact Ret_in ⟨vint (by omega), rfl⟩

theorem paceFirst (seed v : Int) (w : World) : Does Tryz.prog 35 #[.int .u64 seed, .int .i64 v] w fun r w' => (∃ b, r = .bool b) ∧ w' = w := by
  refine Does_intro tok (Tryz.call35 _ _) Tryz.func35 rfl (by rfl) ?_
  refine Br_ne (fun h => ?_) (fun h => ?_)
  · (repeat (first | refine Br_true ?_ | refine Br_false ?_))
    refine Ar_any (fun r1 e1 => ?_)
    (repeat (first | refine Br_true ?_ | refine Br_false ?_))
    refine Ar_any (fun r2 e2 => ?_)
    (repeat (first | refine Br_true ?_ | refine Br_false ?_))
    refine Ar_any (fun r3 e3 => ?_)
    (repeat (first | refine Br_true ?_ | refine Br_false ?_))
    refine Ar_any (fun r4 e4 => ?_)
    (repeat (first | refine Br_true ?_ | refine Br_false ?_))
    refine Nn_in (by omega) (Eqv_in ?_)
    (repeat (first | refine Br_true ?_ | refine Br_false ?_))
    exact Ret_in ⟨⟨_, rfl⟩, rfl⟩
  · (repeat (first | refine Br_true ?_ | refine Br_false ?_))
    exact Ret_in ⟨⟨_, rfl⟩, rfl⟩

/-! The pace in memory: its unit, when it forgets, all conflicts, those since it began anew, how often that was -/
structure Pc where
  u : Int
  r : Int
  a : Nat
  s : Nat
  k : Nat
structure Pc.Ok (p : Pc) : Prop where
  u1 : 1 ≤ p.u
  u2 : p.u ≤ 1048576
  r1 : 1 ≤ p.r
  r2 : p.r ≤ 1048576
  s : p.s ≤ p.a
  k : p.k ≤ p.a
def paceR (b : Nat) (p : Pc) : Res := cellsR b 89 [.int .i64 p.u, .int .i64 p.r, .int .i64 (p.a : Int), .int .i64 (p.s : Int), .int .i64 (p.k : Int)]
section
variable {w0 w : World} {l : List Res} {b : Nat} {p : Pc}
theorem pNew (H : Sep w0 w l) (seed u r : Int) : Does Tryz.prog 21 #[.agg #[.int .u64 seed, .int .i64 u, .int .i64 r]] w fun v w' =>
    ∃ b p, v = .pointer (some ⟨b, 0, none⟩) ∧ p.Ok ∧ p.a = 0 ∧ Sep w0 w' (paceR b p :: l) := by
  refine Does_intro tok (Tryz.call21 _ _) Tryz.func21 rfl (by rfl) ?_
  (repeat first | refine go ?_ | ((try conv => whnf); (first | (refine St_gate ?_; refine xS ?_) | (refine StN_gate ?_; refine xN ?_)); clear H; intro w H))
  (refine Nw_sep H ?_; clear H; intro b1 w H; (try simp only [Value.cells, List.toList_toArray, List.append_nil, List.cons_append, List.nil_append] at H))
  (repeat first | refine go ?_ | ((try conv => whnf); (first | (refine St_gate ?_; refine xS ?_) | (refine StN_gate ?_; refine xN ?_)); clear H; intro w H))
  refine Draw_intro mixed [0, 1, 2, 4, 5, 6, 3, 7, 8, 9, 10] (by decide +kernel) (fun w _ fd => ?_); replace H := H.fr fd; clear fd
  (repeat first | refine go ?_ | ((try conv => whnf); (first | (refine St_gate ?_; refine xS ?_) | (refine StN_gate ?_; refine xN ?_)); clear H; intro w H))
  refine Call_of (within1 _ _) ?_
  rintro _ w3 ⟨rfl, rfl⟩
  (try conv => whnf)
  (repeat (refine Kept_gate ?_; refine xK ?_))
  (repeat first | refine go ?_ | ((try conv => whnf); (first | (refine St_gate ?_; refine xS ?_) | (refine StN_gate ?_; refine xN ?_)); clear H; intro w H))
  refine Call_of (within1 _ _) ?_
  rintro _ w4 ⟨rfl, rfl⟩
  (repeat first | refine go ?_ | ((try conv => whnf); (first | (refine St_gate ?_; refine xS ?_) | (refine StN_gate ?_; refine xN ?_)); clear H; intro w H))
  (refine Nw_sep H ?_; clear H; intro b2 w H; (try simp only [Value.cells, List.toList_toArray, List.append_nil, List.cons_append, List.nil_append] at H))
  (repeat first | refine go ?_ | ((try conv => whnf); (first | (refine St_gate ?_; refine xS ?_) | (refine StN_gate ?_; refine xN ?_)); clear H; intro w H))
  exact Ret_in ⟨b2, ⟨max 1 (min u 1048576), max 1 (min r 1048576), 0, 0, 0⟩, rfl, ⟨by simp only []; omega, by simp only []; omega, by simp only []; omega, by simp only []; omega, Nat.le_refl _, Nat.le_refl _⟩, rfl, H.drop 1 rfl rfl⟩
/-- One conflict more. -/
theorem pConflict (H : Sep w0 w l) (hm : paceR b p ∈ l) (hp : p.Ok) (ha : p.a ≤ 1048575) : Does Tryz.prog 81 #[.pointer (some ⟨b, 0, none⟩)] w fun v w' => ∃ (c : Bool) (q : Pc), v = .bool c ∧ q.Ok ∧ q.a = p.a + 1 ∧ q.r = p.r ∧ SepU w0 w' l (paceR b p) (paceR b q) := by
  obtain ⟨r, hpm⟩ := mem_cut hm
  have H1 := H.perm hpm
  have u1 := hp.u1
  have u2 := hp.u2
  have k0 := hp.k
  have s0 := hp.s
  unfold paceR at H1
  replace H := H1
  refine Does_intro tok (Tryz.call81 _ _) Tryz.func81 rfl (by rfl) ?_
  (repeat first | refine go ?_ | ((try conv => whnf); (first | (refine St_gate ?_; refine xS ?_) | (refine StN_gate ?_; refine xN ?_)); clear H; intro w H))
  refine Call_of (luby_any _ (p.k + 1) _ (by omega) (by omega) (by omega)) ?_
  rintro v w3 ⟨⟨n, rfl, hn⟩, rfl⟩
  (repeat first | refine go ?_ | ((try conv => whnf); (first | (refine St_gate ?_; refine xS ?_) | (refine StN_gate ?_; refine xN ?_)); clear H; intro w H))
  refine Draw_intro mixed [0, 1, 2, 3, 4, 5, 6, 7, 8, 9, 10] (by decide +kernel) (fun w _ fd => ?_); replace H := H.fr fd; clear fd
  have hm : 0 ≤ p.u * (n : Int) ∧ p.u * (n : Int) ≤ 1099511627776 := by
    constructor
    · exact Int.mul_nonneg (by omega) (by omega)
    · calc p.u * (n : Int) ≤ 1048576 * 1048576 := Int.mul_le_mul (by omega) (by omega) (by omega) (by omega)
        _ ≤ _ := by omega
  generalize hq : p.u * (n : Int) = q at *
  (repeat first | refine go ?_ | ((try conv => whnf); (first | (refine St_gate ?_; refine xS ?_) | (refine StN_gate ?_; refine xN ?_)); clear H; intro w H))
  refine Br_dec (fun h => ?_) (fun h => ?_)
  · (repeat first | refine go ?_ | ((try conv => whnf); (first | (refine St_gate ?_; refine xS ?_) | (refine StN_gate ?_; refine xN ?_)); clear H; intro w H))
    refine Ret_in ⟨false, ⟨p.u, p.r, p.a + 1, p.s + 1, p.k⟩, rfl, ⟨u1, u2, hp.r1, hp.r2, by simp only []; omega, by simp only []; omega⟩, rfl, rfl, ?_⟩
    exact SepU.mk hpm H
  · (repeat first | refine go ?_ | ((try conv => whnf); (first | (refine St_gate ?_; refine xS ?_) | (refine StN_gate ?_; refine xN ?_)); clear H; intro w H))
    refine Ret_in ⟨true, ⟨p.u, p.r, p.a + 1, 0, p.k + 1⟩, rfl, ⟨u1, u2, hp.r1, hp.r2, by simp only []; omega, by simp only []; omega⟩, rfl, rfl, ?_⟩
    exact SepU.mk hpm H
theorem pForget (H : Sep w0 w l) (hm : paceR b p ∈ l) (hp : p.Ok) (ha : p.a ≤ 1048576) {n : Nat} (hn : n ≤ 1000000000) : Does Tryz.prog 104 #[.pointer (some ⟨b, 0, none⟩), .int .i64 (n : Int)] w fun v w' => (∃ k : Nat, v = .int .i64 (k : Int) ∧ k ≤ n ∧ ((n : Int) < p.r + p.a / 10 → k = 0)) ∧ Sep w0 w' l := by
  have r1 := hp.r1
  have r2 := hp.r2
  have hm' : cellsR b _ _ ∈ l := hm
  refine Does_intro tok (Tryz.call104 _ _) Tryz.func104 rfl (by rfl) ?_
  refine Draw_intro mixed [0, 1, 2, 3, 4, 5, 6, 7, 8, 9, 10, 11] (by decide +kernel) (fun w _ fd => ?_); replace H := H.fr fd; clear fd
  refine Ld_m H hm' (by rfl) ?_
  refine Ld_m H hm' (by rfl) ?_
  have e1 : (p.a : Int).tdiv 10 = (p.a : Int) / 10 := Int.tdiv_eq_ediv_of_nonneg (by omega)
  refine Nz_in (by omega) (Ar_is ((p.a : Int) / 10) (by rw [e1]; exact wrap_i64 (by omega) (by omega)) ?_)
  refine Ar_i64 (by omega) (by omega) ?_
  refine Br_dec (fun h => ?_) (fun h => ?_)
  · exact Ret_in ⟨⟨0, rfl, Nat.zero_le _, fun _ => rfl⟩, H⟩
  · have e2 : (n : Int).tdiv 2 = ((n / 2 : Nat) : Int) := by rw [Int.tdiv_eq_ediv_of_nonneg (by omega)]; omega
    refine Nz_in (by omega) (Ar_is ((n / 2 : Nat) : Int) (by rw [e2]; exact wrap_i64 (by omega) (by omega)) ?_)
    exact Ret_in ⟨⟨n / 2, rfl, by omega, fun h' => absurd h' h⟩, H⟩
end
end Go.Proofs.YtcibiidebknkgaaGreat
