/- The document's answer on what follows, in plain Lean: clauses gone through again and again. -/
import Derived.Test.YtajllmlgihbdhaaWatchF
set_option linter.unusedVariables false
set_option linter.unusedSimpArgs false
namespace Go.Watch
structure VOk (n : Nat) (V : List Int) : Prop where
  len : V.length = n + 1
  rng : ∀ v ∈ V, v = -1 ∨ v = 0 ∨ v = 1
def ofV (V : List Int) (x : Int) : Int := if x < 0 then -(V.getD x.natAbs 0) else V.getD x.natAbs 0
def withV (V : List Int) (x : Int) : List Int := V.set x.natAbs (if x < 0 then -1 else 1)
def FitV (n : Nat) (x : Int) : Prop := x ≠ 0 ∧ x.natAbs ≤ n
section
variable {n : Nat} {V : List Int} {x y : Int}
theorem FitV.neg (h : FitV n x) : FitV n (-x) := by unfold FitV at *; omega
theorem VOk.zero (n : Nat) : VOk n (List.replicate (n + 1) 0) := ⟨by simp, fun v hv => by rw [List.mem_replicate] at hv; omega⟩
theorem VOk.get (h : VOk n V) (i : Nat) : V.getD i 0 = -1 ∨ V.getD i 0 = 0 ∨ V.getD i 0 = 1 := by
  rw [List.getD_eq_getElem?_getD]
  by_cases hi : i < V.length
  · rw [List.getElem?_eq_getElem hi]
    exact h.rng _ (List.getElem_mem hi)
  · rw [List.getElem?_eq_none (by omega)]
    exact .inr (.inl rfl)
theorem VOk.of (h : VOk n V) (x : Int) : ofV V x = -1 ∨ ofV V x = 0 ∨ ofV V x = 1 := by
  unfold ofV
  have := h.get x.natAbs
  split <;> omega
theorem ofV_neg (hx : x ≠ 0) : ofV V (-x) = -ofV V x := by
  unfold ofV
  rw [Int.natAbs_neg]
  rcases Int.lt_or_gt_of_ne hx with h | h
  · rw [if_neg (by omega), if_pos h]; omega
  · rw [if_pos (by omega), if_neg (by omega)]
theorem VOk.with (h : VOk n V) : VOk n (withV V x) := by
  refine ⟨by unfold withV; rw [List.length_set]; exact h.len, fun v hv => ?_⟩
  unfold withV at hv
  rcases List.mem_or_eq_of_mem_set hv with hv | rfl
  · exact h.rng v hv
  · split <;> omega
theorem ofV_with (h : VOk n V) (hx : FitV n x) (hy : FitV n y) : ofV (withV V x) y = if y = x then 1 else if y = -x then -1 else ofV V y := by
  have hl := h.len
  have e : ∀ z : Int, (V.set x.natAbs z).getD y.natAbs 0 = if x.natAbs = y.natAbs then z else V.getD y.natAbs 0 := by
    intro z
    unfold FitV at *
    rw [List.getD_eq_getElem?_getD, List.getD_eq_getElem?_getD, List.getElem?_set]
    by_cases hxy : x.natAbs = y.natAbs
    · rw [if_pos hxy, if_pos hxy, if_pos (by omega)]; rfl
    · rw [if_neg hxy, if_neg hxy]
  unfold ofV withV
  rw [e]
  unfold FitV at *
  generalize V.getD y.natAbs 0 = z
  by_cases hxy : x.natAbs = y.natAbs
  · rw [if_pos hxy]
    by_cases h1 : y = x
    · subst h1
      rw [if_pos rfl]
      split <;> omega
    · have h2 : y = -x := by omega
      rw [if_neg h1, if_pos h2]
      subst h2
      by_cases h3 : x < 0
      · rw [if_neg (by omega), if_pos h3]
      · rw [if_pos (by omega), if_neg h3]
  · rw [if_neg hxy, if_neg (c := y = x) (by omega), if_neg (c := y = -x) (by omega)]
def zerosV (V : List Int) : Nat := V.count 0
theorem zerosV_with (h : VOk n V) (hx : FitV n x) (h0 : ofV V x = 0) : zerosV (withV V x) + 1 = zerosV V := by
  have hl := h.len
  unfold zerosV withV FitV ofV at *
  have hi : x.natAbs < V.length := by omega
  have hg : V[x.natAbs] = 0 := by
    rw [List.getD_eq_getElem?_getD, List.getElem?_eq_getElem hi] at h0
    simp only [Option.getD_some] at h0
    split at h0 <;> omega
  rw [List.count_set hi]
  have hpos : 0 < V.count 0 := List.count_pos_iff.2 (hg ▸ List.getElem_mem hi)
  have hb : ((if x < 0 then (-1 : Int) else 1) == 0) = false := by split <;> rfl
  rw [hb, hg]
  simp
  omega

/-! What is left of a clause -/
structure LeftI (V : List Int) (c : List Int) (many : Nat) (last : Int) : Prop where
  nt : ∀ y ∈ c, ofV V y ≠ 1
  m0 : many = 0 → ∀ y ∈ c, ofV V y ≠ 0
  m1 : many = 1 → last ∈ c ∧ ofV V last = 0 ∧ ∀ y ∈ c, ofV V y = 0 → y = last
  m2 : 2 ≤ many → ∃ y ∈ c, ∃ z ∈ c, y ≠ z ∧ ofV V y = 0 ∧ ofV V z = 0
  me : 1 ≤ many → last ∈ c ∧ ofV V last = 0
theorem LeftI.nil : LeftI V [] 0 0 := ⟨by simp, by simp, by omega, by omega, by omega⟩
theorem LeftI.same {c : List Int} {many : Nat} {last : Int} (h : LeftI V c many last) (h1 : ofV V y ≠ 1) (h2 : ofV V y = 0 → y ∈ c) : LeftI V (c ++ [y]) many last := by
  refine ⟨fun z hz => ?_, fun hm z hz => ?_, fun hm => ?_, fun hm => ?_, fun hm => ?_⟩
  · rw [List.mem_append, List.mem_singleton] at hz
    rcases hz with hz | rfl
    · exact h.nt z hz
    · exact h1
  · rw [List.mem_append, List.mem_singleton] at hz
    rcases hz with hz | rfl
    · exact h.m0 hm z hz
    · exact fun h0 => h.m0 hm _ (h2 h0) h0
  · obtain ⟨a1, a2, a3⟩ := h.m1 hm
    refine ⟨List.mem_append_left _ a1, a2, fun z hz h0 => ?_⟩
    rw [List.mem_append, List.mem_singleton] at hz
    rcases hz with hz | rfl
    · exact a3 z hz h0
    · exact a3 _ (h2 h0) h0
  · obtain ⟨u, hu, z, hz, h3⟩ := h.m2 hm
    exact ⟨u, List.mem_append_left _ hu, z, List.mem_append_left _ hz, h3⟩
  · exact ⟨List.mem_append_left _ (h.me hm).1, (h.me hm).2⟩
theorem LeftI.more {c : List Int} {many : Nat} {last : Int} (h : LeftI V c many last) (h1 : ofV V y = 0) (h2 : y ∉ c) : LeftI V (c ++ [y]) (many + 1) y := by
  refine ⟨fun z hz => ?_, fun hm => by omega, fun hm => ?_, fun hm => ?_, fun _ => ⟨by simp, h1⟩⟩
  · rw [List.mem_append, List.mem_singleton] at hz
    rcases hz with hz | rfl
    · exact h.nt z hz
    · omega
  · refine ⟨by simp, h1, fun z hz h0 => ?_⟩
    rw [List.mem_append, List.mem_singleton] at hz
    rcases hz with hz | rfl
    · exact (h.m0 (by omega) z hz h0).elim
    · rfl
  · obtain ⟨a1, a2⟩ := h.me (by omega)
    exact ⟨last, List.mem_append_left _ a1, y, by simp, fun e => h2 (e ▸ a1), a2, h1⟩

/-! Again and again -/
def ClosedV (V : List Int) (k : List Int) : Prop := (∃ y ∈ k, ofV V y = 1) ∨ ∃ y ∈ k, ∃ z ∈ k, y ≠ z ∧ ofV V y = 0 ∧ ofV V z = 0
def FitC (n : Nat) (C : List (List Int)) : Prop := ∀ k ∈ C, Lit.bothB k = false ∧ ∀ x ∈ k, FitV n x
def TruV (n : Nat) (V : List Int) (x : Int) : Prop := FitV n x ∧ ofV V x = 1
structure CInv (n : Nat) (C : List (List Int)) (Δ : Int → Prop) (V : List Int) : Prop where
  ok : VOk n V
  keep : ∀ x, Δ x → TruV n V x
  fo : ∀ x, TruV n V x → Fo (GamL C) Δ x
variable {C : List (List Int)} {Δ : Int → Prop} {k : List Int}
theorem CInv.neg (h : CInv n C Δ V) (hy : FitV n y) (h1 : ofV V y ≠ 1) (h0 : ofV V y ≠ 0) : Fo (GamL C) Δ (-y) := by
  refine h.fo _ ⟨hy.neg, ?_⟩
  rw [ofV_neg hy.1]
  have := h.ok.of y
  omega
theorem CInv.unit (h : CInv n C Δ V) (hC : FitC n C) (hk : k ∈ C) {last : Int} (hl : LeftI V k 1 last) : CInv n C Δ (withV V last) ∧ zerosV (withV V last) + 1 = zerosV V := by
  obtain ⟨a1, a2, a3⟩ := hl.m1 rfl
  obtain ⟨hb, hf⟩ := hC k hk
  have hfl := hf _ a1
  refine ⟨⟨h.ok.with, fun x hx => ?_, fun x hx => ?_⟩, zerosV_with h.ok hfl a2⟩
  · obtain ⟨b1, b2⟩ := h.keep x hx
    refine ⟨b1, ?_⟩
    rw [ofV_with h.ok hfl b1]
    split
    · rfl
    · split
      · rename_i h2
        rw [h2, ofV_neg hfl.1, a2] at b2
        cases b2
      · exact b2
  · obtain ⟨b1, b2⟩ := hx
    rw [ofV_with h.ok hfl b1] at b2
    split at b2
    · rename_i h2
      subst h2
      refine .cls (c := k) ⟨k, hk, hb, fun _ => Iff.rfl⟩ a1 fun y hy hne => h.neg (hf y hy) (hl.nt y hy) fun h0 => hne (a3 y hy h0)
    · split at b2
      · cases b2
      · exact h.fo x ⟨b1, b2⟩
theorem CInv.conf (h : CInv n C Δ V) (hC : FitC n C) (hk : k ∈ C) {last : Int} (hl : LeftI V k 0 last) : Conf (GamL C) Δ :=
  ⟨k, ⟨k, hk, (hC k hk).1, fun _ => Iff.rfl⟩, fun y hy => h.neg ((hC k hk).2 y hy) (hl.nt y hy) (hl.m0 rfl y hy)⟩
theorem LeftI.closed {many : Nat} {last : Int} (h : LeftI V k many last) (hm : 2 ≤ many) : ClosedV V k := .inr (h.m2 hm)
theorem CInv.done (h : CInv n C Δ V) (hC : FitC n C) (hcl : ∀ k ∈ C, ClosedV V k) : ¬ Conf (GamL C) Δ ∧ ∀ x, Fo (GamL C) Δ x → TruV n V x := by
  have hfo : ∀ x, Fo (GamL C) Δ x → TruV n V x := by
    intro x hx
    induction hx with
    | dec h1 => exact h.keep _ h1
    | @cls c x hc hx _ ih =>
      obtain ⟨k, hk, hb, hiff⟩ := hc
      have hf := (hC k hk).2
      have hng : ∀ y ∈ k, y ≠ x → ofV V y = -1 := fun y hy hne => by
        have := (ih y ((hiff y).2 hy) hne).2
        rw [ofV_neg (hf y hy).1] at this
        omega
      have hxk := (hiff x).1 hx
      refine ⟨hf x hxk, ?_⟩
      rcases hcl k hk with ⟨y, hy, h1⟩ | ⟨y, hy, z, hz, hne, h1, h2⟩
      · by_cases hyx : y = x
        · rw [← hyx]; exact h1
        · have := hng y hy hyx; omega
      · by_cases hyx : y = x
        · have := hng z hz (fun e => hne (hyx.trans e.symm)); omega
        · have := hng y hy hyx; omega
  refine ⟨?_, hfo⟩
  rintro ⟨c, ⟨k, hk, hb, hiff⟩, hall⟩
  have hng : ∀ y ∈ k, ofV V y = -1 := fun y hy => by
    have := (hfo _ (hall y ((hiff y).2 hy))).2
    rw [ofV_neg ((hC k hk).2 y hy).1] at this
    omega
  rcases hcl k hk with ⟨y, hy, h1⟩ | ⟨y, hy, z, hz, hne, h1, h2⟩
  · have := hng y hy; omega
  · have := hng y hy; omega
/-- What is taken in behind one another. -/
def withN (V : List Int) (c : List Int) : List Int := c.foldl (fun V y => withV V (-y)) V
theorem withN_next {c : List Int} {i : Nat} (h : c[i]? = some y) : withN V (c.take (i + 1)) = withV (withN V (c.take i)) (-y) := by
  unfold withN
  rw [List.take_add_one, h, List.foldl_append]; rfl
theorem withN_ok {c : List Int} : ∀ {V : List Int}, VOk n V → VOk n (withN V c) := by
  induction c with
  | nil => intro V h; exact h
  | cons y c ih => intro V h; exact ih h.with
theorem withN_of : ∀ {c : List Int} {V : List Int}, VOk n V → (∀ y ∈ c, FitV n y) → c.Pairwise (fun x y => x.natAbs ≠ y.natAbs) → FitV n x → ofV (withN V c) x = if -x ∈ c then 1 else if x ∈ c then -1 else ofV V x
  | [], V, _, _, _, _ => by simp [withN]
  | y :: c, V, hV, hc, hp, hx => by
    rw [List.pairwise_cons] at hp
    have e : withN V (y :: c) = withN (withV V (-y)) c := rfl
    have hy := hc y (List.mem_cons_self ..)
    rw [e, withN_of hV.with (fun z hz => hc z (List.mem_cons_of_mem _ hz)) hp.2 hx, ofV_with hV hy.neg hx]
    have hno : ∀ z ∈ c, z ≠ y ∧ z ≠ -y := fun z hz => by
      have := hp.1 z hz
      constructor <;> (intro h; omega)
    by_cases h1 : -x ∈ c
    · rw [if_pos h1, if_pos (List.mem_cons_of_mem _ h1)]
    · rw [if_neg h1]
      by_cases h2 : x ∈ c
      · have h3 := hno x h2
        rw [if_pos h2, if_neg (by rw [List.mem_cons]; rintro (h | h); · omega
                                  · exact h1 h), if_pos (List.mem_cons_of_mem _ h2)]
      · rw [if_neg h2]
        by_cases h3 : x = -y
        · rw [if_pos h3, if_pos (by rw [List.mem_cons]; left; omega)]
        · rw [if_neg h3]
          by_cases h4 : x = - -y
          · rw [if_pos h4, if_neg (by rw [List.mem_cons]; rintro (h | h); · exact h3 (by omega)
                                      · exact h1 h), if_pos (by rw [List.mem_cons]; left; omega)]
          · rw [if_neg h4, if_neg (by rw [List.mem_cons]; rintro (h | h); · exact h3 (by omega)
                                      · exact h1 h), if_neg (by rw [List.mem_cons]; rintro (h | h); · exact h4 (by omega)
                                                                · exact h2 h)]
theorem ofV_zero {x : Int} : ofV (List.replicate (n + 1) 0) x = 0 := by
  unfold ofV
  rw [List.getD_eq_getElem?_getD, List.getElem?_replicate]
  split <;> split <;> rfl
theorem CInv.start {c : List Int} (hc : ∀ y ∈ c, FitV n y) (hp : c.Pairwise fun x y => x.natAbs ≠ y.natAbs) : CInv n C (fun z => ∃ y ∈ c, z = -y) (withN (List.replicate (n + 1) 0) c) := by
  have h0 : VOk n (List.replicate (n + 1) 0) := VOk.zero n
  refine ⟨withN_ok h0, ?_, ?_⟩
  · rintro x ⟨y, hy, rfl⟩
    refine ⟨(hc y hy).neg, ?_⟩
    rw [withN_of h0 hc hp (hc y hy).neg, Int.neg_neg, if_pos hy]
  · rintro x ⟨hx, h1⟩
    rw [withN_of h0 hc hp hx] at h1
    by_cases h2 : -x ∈ c
    · exact .dec ⟨-x, h2, by omega⟩
    · rw [if_neg h2] at h1
      split at h1
      · cases h1
      · rw [ofV_zero] at h1; cases h1
theorem CInv.start_no {c : List Int} (hc : ∀ y ∈ c, FitV n y) (hp : c.Pairwise fun x y => x.natAbs ≠ y.natAbs) {i : Nat} (hy : c[i]? = some y) : ofV (withN (List.replicate (n + 1) 0) (c.take i)) y = 0 := by
  have h0 : VOk n (List.replicate (n + 1) 0) := VOk.zero n
  have hym := List.mem_of_getElem? hy
  have hno : ∀ z ∈ c.take i, z.natAbs ≠ y.natAbs := by
    intro z hz
    obtain ⟨j, hj⟩ := List.getElem?_of_mem hz
    obtain ⟨j1, j2⟩ := List.getElem?_eq_some_iff.1 hj
    rw [List.length_take] at j1
    rw [List.getElem_take] at j2
    obtain ⟨i1, i2⟩ := List.getElem?_eq_some_iff.1 hy
    have := List.pairwise_iff_getElem.1 hp j i (by omega) i1 (by omega)
    rw [i2, j2] at this
    exact this
  rw [withN_of h0 (fun z hz => hc z (List.mem_of_mem_take hz)) (hp.sublist (List.take_sublist ..)) (hc y hym), if_neg (fun h => hno _ h (by omega)), if_neg (fun h => hno _ h rfl), ofV_zero]
end
end Go.Watch
