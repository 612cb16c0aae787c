/- A rank as the document has it: of each variable its score, and whether it waits. -/
import Derived.Test.YtcibiidebknkgaaGreatRankX
namespace Go.Proofs.YtcibiidebknkgaaGreat
open Go Go.Vc Go.Rank
set_option linter.unusedVariables false
set_option linter.unusedSimpArgs false
set_option maxHeartbeats 4000000
set_option maxRecDepth 100000

/-! Plain -/
abbrev Entry := Int × Bool
def scs (E : List Entry) : List Int := E.map (·.1)
def sco (E : List Entry) (v : Nat) : Int := (E.getD v (0, false)).1
def wts (E : List Entry) (v : Nat) : Bool := (E.getD v (0, false)).2

theorem scs_len (E : List Entry) : (scs E).length = E.length := by simp [scs]
theorem scs_get (E : List Entry) (v : Nat) : (scs E).getD v 0 = sco E v := by
  unfold scs sco
  rw [List.getD_eq_getElem?_getD, List.getD_eq_getElem?_getD, List.getElem?_map]
  cases E[v]? <;> rfl

theorem lt_eq {sc sc' : List Int} {a b : Nat} (ha : sc.getD a 0 = sc'.getD a 0) (hb : sc.getD b 0 = sc'.getD b 0) : lt sc a b = lt sc' a b := by unfold lt; rw [ha, hb]

theorem HeapFrom.congr {sc sc' : List Int} {r n : Nat} {L L' : List Nat} (h : HeapFrom sc r n L) (hL : ∀ k, k < n → at_ L' k = at_ L k) (hs : ∀ k, k < n → sc'.getD (at_ L k) 0 = sc.getD (at_ L k) 0) : HeapFrom sc' r n L' := by
  intro k k0 hk hr
  have hp : par k < n := by unfold par; omega
  unfold ok
  rw [hL k hk, hL _ hp, lt_eq (hs k hk) (hs _ hp)]
  exact h k k0 hk hr

/-- The list fits the entries. -/
structure RkOk (E : List Entry) (L : List Nat) : Prop where
  heap : Heap (scs E) L
  mem : ∀ v, v ∈ L ↔ wts E v = true

theorem at_app {L : List Nat} {v k : Nat} : at_ (L ++ [v]) k = if k < L.length then at_ L k else if k = L.length then v else 0 := by
  unfold at_
  rw [List.getD_eq_getElem?_getD]
  by_cases h : k < L.length
  · rw [if_pos h, List.getElem?_append_left h, List.getD_eq_getElem?_getD]
  · rw [if_neg h, List.getElem?_append_right (by omega)]
    by_cases h2 : k = L.length
    · subst h2; simp
    · rw [if_neg h2, List.getElem?_eq_none (by simp; omega)]; rfl

theorem push_heap {sc : List Int} {L : List Nat} {v : Nat} (h : Heap sc L) : Heap sc (upL sc (L ++ [v]) L.length) ∧ (upL sc (L ++ [v]) L.length).Perm (L ++ [v]) := by
  refine upL_spec ⟨by simp, fun k k0 hk hne => ?_, fun _ c _ hc hp => ?_⟩
  · simp at hk
    unfold ok
    rw [at_app, at_app, if_pos (by omega), if_pos (by unfold par; omega)]
    exact h k k0 (by omega) (Nat.zero_le _)
  · simp at hc; unfold par at hp; omega

theorem nodup_at {L : List Nat} (h : L.Nodup) {i j : Nat} (hi : i < L.length) (hj : j < L.length) (e : at_ L i = at_ L j) : i = j := by
  have h1 := pos_at h hi
  have h2 := pos_at h hj
  rw [e, h2] at h1; omega

theorem bump_heap {sc sc' : List Int} {L : List Nat} {i : Nat} (h : Heap sc L) (hnd : L.Nodup) (hi : i < L.length) (hu : sc.getD (at_ L i) 0 ≤ sc'.getD (at_ L i) 0) (ho : ∀ x, x ≠ at_ L i → sc'.getD x 0 = sc.getD x 0) :
    Heap sc' (fixL sc' L i) ∧ (fixL sc' L i).Perm L := by
  have low : ∀ x, x ≠ at_ L i → lt sc x (at_ L i) = false → lt sc' x (at_ L i) = false := by
    intro x hx h1
    unfold lt at h1 ⊢
    rw [ho x hx]
    split at h1
    · rename_i e
      simp only [decide_eq_false_iff_not] at h1
      split
      · simp only [decide_eq_false_iff_not]; omega
      · simp only [decide_eq_false_iff_not]; omega
    · rename_i e
      simp only [decide_eq_false_iff_not] at h1
      split
      · omega
      · simp only [decide_eq_false_iff_not]; omega
  have kidsOk : ∀ c, 0 < c → c < L.length → par c = i → lt sc' (at_ L c) (at_ L i) = false := by
    intro c c0 hc hp
    have := h c c0 hc (Nat.zero_le _)
    unfold ok at this
    rw [hp] at this
    exact low _ (fun e => by have := nodup_at hnd hc hi e; unfold par at hp; omega) this
  have hd : downL sc' L i L.length = (L, i) := downL_stay kidsOk
  unfold fixL
  rw [hd, if_neg (by simp)]
  refine upL_spec ⟨hi, fun k k0 (hk : k < L.length) hne => ?_, fun i0 c c0 (hc : c < L.length) hp => ?_⟩
  · by_cases hp : par k = i
    · unfold ok; rw [hp]; exact kidsOk k k0 hk hp
    · have hpk : par k < L.length := by unfold par; omega
      unfold ok
      rw [lt_eq (ho _ (fun e => hne (nodup_at hnd hk hi e))) (ho _ (fun e => hp (nodup_at hnd hpk hi e)))]
      exact h k k0 hk (Nat.zero_le _)
  · have hpi : par i < i := by unfold par; omega
    rw [lt_eq (ho _ (fun e => by have := nodup_at hnd hc hi e; unfold par at hp; omega)) (ho _ (fun e => by have := nodup_at hnd (by omega) hi e; omega))]
    have h1 := h c c0 hc (Nat.zero_le _)
    have h2 := h i i0 hi (Nat.zero_le _)
    unfold ok at h1 h2
    rw [hp] at h1
    exact not_lt_trans h2 h1

theorem init_heap {sc : List Int} (L : List Nat) : Heap sc (initL sc L.length (L.length / 2) L) ∧ (initL sc L.length (L.length / 2) L).Perm L := by
  obtain ⟨h1, h2⟩ := initL_spec (sc := sc) (n := L.length) (i := L.length / 2) (L := L) rfl (fun k k0 hk hr => by unfold par at hr; omega) (by omega)
  refine ⟨?_, h2⟩
  unfold Heap
  rw [h2.length_eq]
  exact h1

theorem pop_heap {sc : List Int} {L : List Nat} (h : Heap sc L) (hnd : L.Nodup) (hpos : 0 < L.length) : Heap sc (popL sc L) ∧ (popL sc L ++ [at_ L 0]).Perm L := by
  have hsl := swap_len L 0 (L.length - 1)
  have hsw := swap_at (L := L) (i := 0) (j := L.length - 1) hpos (by omega)
  obtain ⟨h1, h2, h3⟩ := downL_spec (sc := sc) (r := 0) (L := swap L 0 (L.length - 1)) (i := 0) (n := L.length - 1)
    ⟨by omega, Nat.le_refl _, fun k k0 hk _ hp => by
      unfold ok
      have hpk : par k < k := by unfold par; omega
      rw [hsw k, if_neg (by omega), if_neg (by omega), hsw (par k), if_neg (by omega), if_neg (by omega)]
      exact h k k0 (by omega) (Nat.zero_le _), fun i0 => absurd i0 (by omega)⟩ (.inl (by omega))
  have hdl := downL_len sc (swap L 0 (L.length - 1)) 0 (L.length - 1)
  have hlast := at_last (L := (downL sc (swap L 0 (L.length - 1)) 0 (L.length - 1)).1) (by omega)
  have e1 : at_ (downL sc (swap L 0 (L.length - 1)) 0 (L.length - 1)).1 ((downL sc (swap L 0 (L.length - 1)) 0 (L.length - 1)).1.length - 1) = at_ L 0 := by
    rw [hdl, hsl, h3 _ (Nat.le_refl _), hsw, if_pos rfl]
  rw [e1] at hlast
  unfold popL
  generalize hD : (downL sc (swap L 0 (L.length - 1)) 0 (L.length - 1)).1 = D at *
  have hdrop : D.dropLast.length = L.length - 1 := by rw [List.length_dropLast]; omega
  constructor
  · unfold Heap
    rw [hdrop]
    refine HeapFrom.congr h1 (fun k hk => ?_) (fun _ _ => rfl)
    have h4 : at_ (D.dropLast ++ [at_ L 0]) k = at_ D.dropLast k := by rw [at_app, if_pos (by omega)]
    rw [← hlast] at h4
    exact h4.symm
  · rw [← hlast]
    exact h2.trans (swap_perm hpos (by omega))

/-- The first one: 0, if none waits. -/
def bestTo (E : List Entry) : Nat → Nat
  | 0 => 0
  | v + 1 => if v = 0 then 0 else if wts E v = true ∧ (bestTo E v = 0 ∨ sco E (bestTo E v) < sco E v) then v else bestTo E v
def best (E : List Entry) : Nat := bestTo E E.length

theorem bestTo_spec (E : List Entry) : ∀ n, (bestTo E n = 0 ∧ ∀ v, 0 < v → v < n → wts E v = false) ∨
    (0 < bestTo E n ∧ bestTo E n < n ∧ wts E (bestTo E n) = true ∧ ∀ v, 0 < v → v < n → wts E v = true → v ≠ bestTo E n → sco E v < sco E (bestTo E n) ∨ (sco E v = sco E (bestTo E n) ∧ bestTo E n < v))
  | 0 => .inl ⟨rfl, fun v h1 h2 => by omega⟩
  | n + 1 => by
    unfold bestTo
    by_cases h0 : n = 0
    · rw [if_pos h0]; exact .inl ⟨rfl, fun v h1 h2 => by omega⟩
    · rw [if_neg h0]
      split
      · rename_i hc
        refine .inr ⟨by omega, by omega, hc.1, fun v h1 h2 h3 h4 => ?_⟩
        rcases bestTo_spec E n with ⟨hz, hall⟩ | ⟨hz, hlt, hw, hall⟩
        · have := hall v h1 (by omega); rw [this] at h3; cases h3
        · rcases hc.2 with hc2 | hc2
          · omega
          · by_cases hv : v = bestTo E n
            · left; rw [hv]; exact hc2
            · have := hall v h1 (by omega) h3 hv; left; omega
      · rename_i hc
        rcases bestTo_spec E n with ⟨hz, hall⟩ | ⟨hz, hlt, hw, hall⟩
        · refine .inl ⟨hz, fun v h1 h2 => ?_⟩
          by_cases hv : v = n
          · subst hv
            cases hw : wts E v with
            | false => rfl
            | true => exact absurd ⟨hw, .inl hz⟩ hc
          · exact hall v h1 (by omega)
        · refine .inr ⟨hz, by omega, hw, fun v h1 h2 h3 h4 => ?_⟩
          by_cases hv : v = n
          · subst hv
            by_cases hs : sco E (bestTo E v) < sco E v
            · exact absurd ⟨h3, .inr hs⟩ hc
            · by_cases he : sco E v = sco E (bestTo E v)
              · exact .inr ⟨he, hlt⟩
              · left; omega
          · exact hall v h1 (by omega) h3 h4

theorem lt_sco {E : List Entry} {a b : Nat} : lt (scs E) a b = true ↔ (sco E b < sco E a ∨ (sco E a = sco E b ∧ a < b)) := by
  unfold lt
  rw [scs_get, scs_get]
  split <;> simp only [decide_eq_true_eq] <;> omega

/-- The head of the heap is the first one. -/
theorem top_best {E : List Entry} {L : List Nat} (h : RkOk E L) (hok : RankOk L (scs E)) : best E = at_ L 0 := by
  have hl := scs_len E
  rcases bestTo_spec E E.length with ⟨hz, hall⟩ | ⟨hz, hlt, hw, hall⟩
  · have : L = [] := by
      cases hL : L with
      | nil => rfl
      | cons v r =>
        have hv : v ∈ L := by rw [hL]; simp
        have h1 := hok.there v hv
        have h2 := (h.mem v).1 hv
        rw [hall v h1.1 (by omega)] at h2; cases h2
    subst this
    exact hz
  · have hm := (h.mem _).2 hw
    obtain ⟨i, hi, hie⟩ : ∃ i, i < L.length ∧ at_ L i = best E := by
      obtain ⟨k, hk, e⟩ := List.getElem_of_mem hm
      exact ⟨k, hk, by unfold at_; rw [List.getD_eq_getElem?_getD, List.getElem?_eq_getElem hk]; exact e⟩
    have h1 := heap_top h.heap hi
    have h0 : at_ L 0 ∈ L := at_mem (by omega)
    have h2 := hok.there _ h0
    have h3 := (h.mem _).1 h0
    by_cases he : at_ L 0 = best E
    · exact he.symm
    · have := hall (at_ L 0) h2.1 (by omega) h3 he
      rw [hie] at h1
      have : lt (scs E) (best E) (at_ L 0) = true := lt_sco.2 (by unfold best at *; omega)
      rw [this] at h1; cases h1

/-! In memory -/
def rkR (b : Nat) (E : List Entry) : Res := exR fun L : List Nat => sepR [pureR (RkOk E L), rankR b L (scs E)]

section
variable {w0 w : World} {l : List Res} {b : Nat} {E : List Entry}

theorem rkOpen (H : Sep w0 w l) (hm : rkR b E ∈ l) : ∃ L r, RkOk E L ∧ RankOk L (scs E) ∧ l.Perm (rkR b E :: r) ∧ Sep w0 w (rankR b L (scs E) :: r) := by
  obtain ⟨r, hp⟩ := mem_cut hm
  obtain ⟨L, h1⟩ := (H.perm hp).ex
  obtain ⟨h2, h3⟩ := Sep.prop h1.flat
  exact ⟨L, r, h2, rankOk h3 (.head _), hp, h3⟩

theorem rkClose {r : List Res} {L : List Nat} (hk : RkOk E L) (H : Sep w0 w (rankR b L (scs E) :: r)) : Sep w0 w (rkR b E :: r) :=
  Sep.mk_ex (f := fun L : List Nat => sepR [pureR (RkOk E L), rankR b L (scs E)]) L (Sep.app (l := [pureR (RkOk E L), rankR b L (scs E)]) (Sep.mk_prop hk H))

theorem rkSome (H : Sep w0 w l) (hm : rkR b E ∈ l) : 0 < E.length ∧ E.length ≤ 262145 ∧ wts E 0 = false ∧ ∀ v, 0 ≤ sco E v ∧ sco E v ≤ 1152921504606846976 := by
  obtain ⟨L, r, h1, h2, _, _⟩ := rkOpen H hm
  have := scs_len E
  refine ⟨by have := h2.many; omega, by have := h2.many; omega, ?_, fun v => by rw [← scs_get]; exact getD_range h2.range v⟩
  cases h : wts E 0 with
  | false => rfl
  | true => have := h2.there 0 ((h1.mem 0).2 h); omega

/-- What is told of a variable: nothing, if there is none. -/
def ent (E : List Entry) (v : Int) : Entry := if 1 ≤ v ∧ v < E.length then E.getD v.toNat (0, false) else (0, false)

theorem kVars (H : Sep w0 w l) (hm : rkR b E ∈ l) : Does Tryz.prog 63 #[.pointer (some ⟨b, 0, none⟩)] w fun v w' => v = .int .i64 ((E.length - 1 : Nat) : Int) ∧ w = w' := by
  obtain ⟨L, r, h1, h2, hp, H2⟩ := rkOpen H hm
  have := rVars H2 (.head _)
  rw [scs_len] at this
  exact this



/-- How many wait. -/
def many (E : List Entry) : Nat := (E.filter (·.2)).length

theorem many_eq {L : List Nat} (h : RkOk E L) (hok : RankOk L (scs E)) : L.length = many E := by
  have hl := scs_len E
  have hp : L.Perm ((List.range E.length).filter fun v => wts E v) := by
    rw [List.perm_ext_iff_of_nodup hok.once (List.Pairwise.filter _ List.nodup_range)]
    intro v
    rw [List.mem_filter, List.mem_range, ← h.mem v]
    exact ⟨fun hv => ⟨by have := hok.there v hv; omega, hv⟩, fun hv => hv.2⟩
  have he : E = (List.range E.length).map fun v => E.getD v (0, false) := by
    apply List.ext_getElem?
    intro v
    by_cases hv : v < E.length
    · simp [hv]
    · rw [List.getElem?_eq_none (by omega), List.getElem?_eq_none (by simp; omega)]
  unfold many
  rw [hp.length_eq]
  conv => rhs; rw [he]
  rw [← List.countP_eq_length_filter, ← List.countP_eq_length_filter, List.countP_map]
  rfl

theorem kLen (H : Sep w0 w l) (hm : rkR b E ∈ l) : Does Tryz.prog 112 #[.pointer (some ⟨b, 0, none⟩)] w fun v w' => v = .int .i64 (many E) ∧ w = w' := by
  obtain ⟨L, r, h1, h2, hp, H2⟩ := rkOpen H hm
  have := rLen H2 (.head _)
  rw [many_eq h1 h2] at this
  exact this

/-! What is done -/
def thereE (E : List Entry) (v : Int) : Bool := decide (1 ≤ v ∧ v < E.length)
def bumpOkE (E : List Entry) (v y : Int) : Bool := thereE E v && (decide (0 ≤ y) && decide (y ≤ 1152921504606846976))
def bumpE (E : List Entry) (v : Nat) (y : Int) : List Entry := E.set v (min (sco E v + y) 1152921504606846976, wts E v)
def halfE (E : List Entry) : List Entry := E.map fun x => (x.1 / 2, x.2)
def pushE (E : List Entry) (v : Nat) : List Entry := E.set v (sco E v, true)
def popE (E : List Entry) : List Entry := if best E = 0 then E else E.set (best E) (sco E (best E), false)

theorem scs_set (E : List Entry) (v : Nat) (x : Int) (y : Bool) : scs (E.set v (x, y)) = (scs E).set v x := by unfold scs; rw [List.map_set]
theorem scs_same {E : List Entry} {v : Nat} {y : Bool} : scs (E.set v (sco E v, y)) = scs E := by
  rw [scs_set]
  apply List.ext_getElem?
  intro k
  rw [List.getElem?_set]
  by_cases h : v = k
  · subst h
    rw [if_pos rfl]
    split
    · rename_i hv
      rw [← scs_get, List.getD_eq_getElem?_getD, List.getElem?_eq_getElem hv]; rfl
    · rename_i hv
      rw [List.getElem?_eq_none (by omega)]
  · rw [if_neg h]
theorem wts_set {E : List Entry} {v u : Nat} {x : Int} {y : Bool} (hv : v < E.length) : wts (E.set v (x, y)) u = if u = v then y else wts E u := by
  unfold wts
  rw [List.getD_eq_getElem?_getD, List.getElem?_set]
  by_cases h : u = v
  · subst h; rw [if_pos rfl, if_pos hv, if_pos rfl]; rfl
  · rw [if_neg (fun e => h e.symm), if_neg h, List.getD_eq_getElem?_getD]
theorem sco_set {E : List Entry} {v u : Nat} {x : Int} {y : Bool} (hv : v < E.length) : sco (E.set v (x, y)) u = if u = v then x else sco E u := by
  unfold sco
  rw [List.getD_eq_getElem?_getD, List.getElem?_set]
  by_cases h : u = v
  · subst h; rw [if_pos rfl, if_pos hv, if_pos rfl]; rfl
  · rw [if_neg (fun e => h e.symm), if_neg h, List.getD_eq_getElem?_getD]

theorem there_eq (E : List Entry) (v : Int) : thereB (scs E) v = thereE E v := by unfold thereB thereE; rw [scs_len]

theorem kBump (H : Sep w0 w l) (hm : rkR b E ∈ l) {v y : Int} : Does Tryz.prog 79 #[.pointer (some ⟨b, 0, none⟩), .int .i64 v, .int .i64 y] w fun r w' =>
    r = .int .i64 (if bumpOkE E v y = true then 0 else 31) ∧ SepU w0 w' l (rkR b E) (rkR b (if bumpOkE E v y = true then bumpE E v.toNat y else E)) := by
  have hsome := rkSome H hm
  obtain ⟨L, r, h1, h2, hp, H2⟩ := rkOpen H hm
  have hbo : bumpOk (scs E) v y = bumpOkE E v y := by unfold bumpOk bumpOkE; rw [there_eq]
  refine (rBump H2 (.head _) (v := v) (y := y)).mono ?_
  rw [hbo]
  rintro _ w' (⟨k, rfl, rfl⟩ | ⟨k, rfl, H3⟩)
  · rw [k]; exact ⟨rfl, H.same⟩
  · rw [k]
    refine ⟨rfl, ?_⟩
    have hsc : bumpSc (scs E) v.toNat y = scs (bumpE E v.toNat y) := by unfold bumpSc bumpE; rw [scs_set, scs_get]
    have hk : 1 ≤ v ∧ v < E.length ∧ 0 ≤ y := by unfold bumpOkE thereE at k; simp at k; omega
    rw [hsc] at H3
    have hw : ∀ u, wts (bumpE E v.toNat y) u = wts E u := fun u => by
      unfold bumpE; rw [wts_set (by omega)]; split
      · rename_i h; rw [h]
      · rfl
    have hs1 : ∀ u, u ≠ v.toNat → (scs (bumpE E v.toNat y)).getD u 0 = (scs E).getD u 0 := fun u hu => by
      unfold bumpE; rw [scs_get, scs_get, sco_set (by omega), if_neg hu]
    have hs2 : (scs E).getD v.toNat 0 ≤ (scs (bumpE E v.toNat y)).getD v.toNat 0 := by
      have := hsome.2.2.2 v.toNat
      unfold bumpE; rw [scs_get, scs_get, sco_set (by omega), if_pos rfl]; omega
    have hok : RkOk (bumpE E v.toNat y) (if v.toNat ∈ L then fixL (scs (bumpE E v.toNat y)) L (pos L v.toNat - 1) else L) := by
      by_cases hu : v.toNat ∈ L
      · rw [if_pos hu]
        have hidx := List.idxOf_lt_length_iff.2 hu
        have hpz : pos L v.toNat = L.idxOf v.toNat + 1 := by unfold pos; rw [if_pos hu]
        have hat : at_ L (pos L v.toNat - 1) = v.toNat := by
          rw [hpz, Nat.add_sub_cancel]
          unfold at_; rw [List.getD_eq_getElem?_getD, List.getElem?_eq_getElem hidx]
          exact List.getElem_idxOf hidx
        obtain ⟨h3, h4⟩ := bump_heap (sc' := scs (bumpE E v.toNat y)) h1.heap h2.once (i := pos L v.toNat - 1) (by omega) (by rw [hat]; exact hs2) (fun x hx => hs1 x (by rw [hat] at hx; exact hx))
        exact ⟨h3, fun u => by rw [h4.mem_iff, hw]; exact h1.mem u⟩
      · rw [if_neg hu]
        refine ⟨HeapFrom.congr h1.heap (fun _ _ => rfl) (fun k hk => hs1 _ (fun e => hu (by rw [← e]; exact at_mem hk))), fun u => by rw [hw]; exact h1.mem u⟩
    exact SepU.mk hp (rkClose hok (H3 _ .head))

theorem kHalve (H : Sep w0 w l) (hm : rkR b E ∈ l) : Does Tryz.prog 80 #[.pointer (some ⟨b, 0, none⟩)] w fun r w' => r = .tuple #[] ∧ SepU w0 w' l (rkR b E) (rkR b (halfE E)) := by
  obtain ⟨L, r, h1, h2, hp, H2⟩ := rkOpen H hm
  refine (rHalve H2 (.head _)).mono ?_
  rintro _ w' ⟨rfl, H3⟩
  have hsc : halfSc (scs E) = scs (halfE E) := by unfold halfSc scs halfE; rw [List.map_map, List.map_map]; rfl
  rw [hsc] at H3
  obtain ⟨h3, h4⟩ := init_heap (sc := scs (halfE E)) L
  refine ⟨rfl, SepU.mk hp (rkClose ⟨h3, fun v => ?_⟩ (H3 _ .head))⟩
  rw [h4.mem_iff, h1.mem v]
  unfold wts halfE
  rw [List.getD_eq_getElem?_getD, List.getD_eq_getElem?_getD, List.getElem?_map]
  cases E[v]? <;> rfl

theorem kPush (H : Sep w0 w l) (hm : rkR b E ∈ l) {v : Int} : Does Tryz.prog 60 #[.pointer (some ⟨b, 0, none⟩), .int .i64 v] w fun r w' =>
    r = .int .i64 (if thereE E v = true then 0 else 31) ∧ SepU w0 w' l (rkR b E) (rkR b (if thereE E v = true then pushE E v.toNat else E)) := by
  obtain ⟨L, r, h1, h2, hp, H2⟩ := rkOpen H hm
  refine (rPush H2 (.head _) (v := v)).mono ?_
  rw [there_eq]
  rintro _ w' (⟨k, rfl, rfl⟩ | ⟨k, rfl, H3⟩)
  · rw [k]; exact ⟨rfl, H.same⟩
  · rw [k]
    have hk : 1 ≤ v ∧ v < E.length := by unfold thereE at k; simpa using k
    have hsc : scs (pushE E v.toNat) = scs E := scs_same
    have hw : ∀ u, wts (pushE E v.toNat) u = if u = v.toNat then true else wts E u := fun u => by unfold pushE; rw [wts_set (by omega)]
    rw [← hsc] at H3
    have hok : RkOk (pushE E v.toNat) (if v.toNat ∈ L then L else upL (scs (pushE E v.toNat)) (L ++ [v.toNat]) L.length) := by
      by_cases hu : v.toNat ∈ L
      · rw [if_pos hu]
        refine ⟨by rw [hsc]; exact h1.heap, fun u => ?_⟩
        rw [hw u]
        by_cases h : u = v.toNat
        · rw [if_pos h, h]; simp [hu]
        · rw [if_neg h]; exact h1.mem u
      · rw [if_neg hu]
        obtain ⟨h3, h4⟩ := push_heap (sc := scs (pushE E v.toNat)) (L := L) (v := v.toNat) (by rw [hsc]; exact h1.heap)
        refine ⟨h3, fun u => ?_⟩
        rw [h4.mem_iff, hw u, List.mem_append]
        by_cases h : u = v.toNat
        · rw [if_pos h, h]; simp
        · rw [if_neg h, ← h1.mem u]; simp [h]
    exact ⟨rfl, SepU.mk hp (rkClose hok (H3 _ .head))⟩

theorem kPop (H : Sep w0 w l) (hm : rkR b E ∈ l) : Does Tryz.prog 84 #[.pointer (some ⟨b, 0, none⟩)] w fun r w' =>
    r = .tuple #[.int .i64 (best E : Int), .bool (decide (best E ≠ 0))] ∧ SepU w0 w' l (rkR b E) (rkR b (popE E)) := by
  obtain ⟨L, r, h1, h2, hp, H2⟩ := rkOpen H hm
  have htop := top_best h1 h2
  have hl := scs_len E
  refine (rPop H2 (.head _)).mono ?_
  rintro _ w' (⟨k, rfl, rfl⟩ | ⟨k, rfl, H3⟩)
  · subst k
    have : best E = 0 := htop
    unfold popE
    rw [this]
    exact ⟨rfl, by rw [if_pos rfl]; exact H.same⟩
  · have hpos : 0 < L.length := List.length_pos_iff.2 k
    have h0 := h2.there _ (at_mem hpos)
    have hne : best E ≠ 0 := by omega
    refine ⟨by rw [← htop, decide_eq_true hne], ?_⟩
    have hsc : scs (popE E) = scs E := by unfold popE; rw [if_neg hne]; exact scs_same
    obtain ⟨h3, h4⟩ := pop_heap h1.heap h2.once hpos
    have hnd : (popL (scs E) L ++ [at_ L 0]).Nodup := h4.nodup_iff.2 h2.once
    have hok : RkOk (popE E) (popL (scs E) L) := by
      refine ⟨by rw [hsc]; exact h3, fun u => ?_⟩
      have hw : wts (popE E) u = if u = best E then false else wts E u := by unfold popE; rw [if_neg hne, wts_set (by omega)]
      have hmem : u ∈ L ↔ u ∈ popL (scs E) L ∨ u = at_ L 0 := by rw [← h4.mem_iff, List.mem_append, List.mem_singleton]
      rw [hw, htop]
      by_cases h : u = at_ L 0
      · rw [if_pos h, h]
        simp only [Bool.false_eq_true, iff_false]
        intro hmem'
        rw [List.nodup_append] at hnd
        exact hnd.2.2 _ hmem' _ (List.mem_singleton.2 rfl) rfl
      · rw [if_neg h, ← h1.mem u, hmem]; simp [h]
    exact SepU.mk hp (rkClose hok (by rw [hsc]; exact H3 _ .head))

theorem kGrow (H : Sep w0 w l) (hm : rkR b E ∈ l) (hn : E.length ≤ 262144) : Does Tryz.prog 34 #[.pointer (some ⟨b, 0, none⟩)] w fun r w' =>
    r = .int .i64 E.length ∧ SepU w0 w' l (rkR b E) (rkR b (E ++ [(0, true)])) := by
  obtain ⟨L, r, h1, h2, hp, H2⟩ := rkOpen H hm
  have hl := scs_len E
  refine (rGrow H2 (.head _) (by omega)).mono ?_
  rintro _ w' ⟨rfl, H3⟩
  have hsc : scs E ++ [0] = scs (E ++ [(0, true)]) := by simp [scs]
  rw [hsc] at H3
  have hlow : ∀ k, k < L.length → (scs (E ++ [(0, true)])).getD (at_ L k) 0 = (scs E).getD (at_ L k) 0 := fun k hk => by
    have := h2.there _ (at_mem hk)
    rw [← hsc, List.getD_eq_getElem?_getD, List.getElem?_append_left this.2, List.getD_eq_getElem?_getD]
  have hheap : Heap (scs (E ++ [(0, true)])) L := HeapFrom.congr h1.heap (fun _ _ => rfl) hlow
  obtain ⟨h3, h4⟩ := push_heap (v := (scs E).length) hheap
  have hok : RkOk (E ++ [(0, true)]) (upL (scs (E ++ [(0, true)])) (L ++ [(scs E).length]) L.length) := by
    refine ⟨h3, fun u => ?_⟩
    rw [h4.mem_iff, List.mem_append, List.mem_singleton, h1.mem u, hl]
    unfold wts
    rw [List.getD_eq_getElem?_getD, List.getD_eq_getElem?_getD]
    by_cases hu : u < E.length
    · rw [List.getElem?_append_left hu]
      have : u ≠ E.length := by omega
      simp [this]
    · rw [List.getElem?_append_right (by omega), List.getElem?_eq_none (show E.length ≤ u by omega)]
      by_cases h : u = E.length
      · subst h; simp
      · rw [List.getElem?_eq_none (by simp; omega)]; simp [h]
  exact ⟨by rw [hl], SepU.mk hp (rkClose hok (H3 _ .head))⟩

/-- A new one. -/
def newE (n : Nat) : List Entry := (0, false) :: List.replicate n (0, true)
theorem newE_len (n : Nat) : (newE n).length = n + 1 := by simp [newE]
theorem newE_next (n : Nat) : newE n ++ [(0, true)] = newE (n + 1) := by unfold newE; rw [List.replicate_succ']; rfl

theorem newOk : RkOk (newE 0) [] := ⟨fun k k0 hk _ => by simp at hk, fun v => by
  have : wts (newE 0) v = false := by
    unfold wts newE
    cases v with
    | zero => rfl
    | succ v => rfl
  rw [this]; simp⟩

theorem kNew (H : Sep w0 w l) (m : Int) : Does Tryz.prog 20 #[.int .i64 m] w fun v w' => ∃ b, v = .pointer (some ⟨b, 0, none⟩) ∧ Sep w0 w' (rkR b (newE (min m 262144).toNat) :: l) := by
  have hcl : ∀ {w : World} {r : List Res} {b ba bb : Nat}, Sep w0 w (cellsR b 86 [.slice none 0 0, .slice (some ⟨ba, 0, none⟩) 1 1, .slice (some ⟨bb, 0, none⟩) 1 1] :: ownR none 0 0 3 1 [] ::
      ownR (some ⟨ba, 0, none⟩) 1 1 3 1 [.int .i64 0] :: ownR (some ⟨bb, 0, none⟩) 1 1 2 1 [.int .i64 0] :: r) → Sep w0 w (rkR b (newE 0) :: r) := by
    intro w r b ba bb H
    exact rkClose newOk (rankClose (L := []) (sc := scs (newE 0)) (al := none) (cl := 0) (ap := some ⟨ba, 0, none⟩) (cp := 1) (aq := some ⟨bb, 0, none⟩) (cq := 1) ⟨by decide, List.nodup_nil, fun v hv => (by cases hv), fun x hx => (by simp [scs, newE] at hx; omega)⟩ H)
  refine Does_intro tok (Tryz.call20 _ _) Tryz.func20 rfl (by rfl) ?_
  refine Draw_tree mixed (.alt (.step 0 (Tr.row [1, 2, 3, 4, 5] .done)) (.step 1 (Tr.row [0, 2, 3, 4, 5] .done))) (by decide +kernel) (fun w _ fd => ?_); replace H := H.fr fd; clear fd
  refine Both_in ?_ ?_
  · refine make_sep tok H rfl rfl rfl rfl rfl (by decide) 1 1 rfl rfl (by omega) (by omega) (by unfold maxLen; omega) ?_
    clear H
    intro ba w H
    (repeat first | refine go ?_ | ((try conv => whnf); (first | (refine St_gate ?_; refine xS ?_) | (refine StN_gate ?_; refine xN ?_)); clear H; intro w H))
    refine make_sep tok H rfl rfl rfl rfl rfl (by decide) 1 1 rfl rfl (by omega) (by omega) (by unfold maxLen; omega) ?_
    clear H
    intro bb w H
    (repeat first | refine go ?_ | ((try conv => whnf); (first | (refine St_gate ?_; refine xS ?_) | (refine StN_gate ?_; refine xN ?_)); clear H; intro w H))
    (refine Nw_sep H ?_; clear H; intro b w H; (try simp only [Value.cells, List.toList_toArray, List.append_nil, List.cons_append, List.nil_append] at H))
    replace H := Own.nilR H 3 1
    replace H := H.tp 2
    replace H := H.tp 3
    replace H := H.tp 2
    replace H := H.tp 3
    replace H := hcl H
    refine Eqv_in ?_
    refine Loop_intro (fun k : Nat => [(11, .int .i64 k)]) (fun k w => Sep w0 w (rkR b (newE k) :: l) ∧ k ≤ (min m 262144).toNat) (fun k => (min m 262144).toNat - k) 0 ⟨rfl, trivial⟩ ⟨H, Nat.zero_le _⟩ ?_
    clear H
    rintro k w ⟨H, hk⟩
    refine Br_dec (fun k1 => ?_) (fun k1 => ?_)
    · refine Call_of (kGrow H (.head _) (by rw [newE_len]; omega)) ?_
      clear H
      rintro _ w ⟨rfl, H⟩
      replace H := H _ .head
      rw [newE_next] at H
      (repeat first | refine go ?_ | ((try conv => whnf); (first | (refine St_gate ?_; refine xS ?_) | (refine StN_gate ?_; refine xN ?_)); clear H; intro w H))
      exact ⟨k + 1, ⟨congrArg some (vint (by omega)), trivial⟩, ⟨H, by omega⟩, by omega⟩
    · have e : k = (min m 262144).toNat := by omega
      rw [e] at H
      exact Ret_in ⟨b, rfl, H⟩
  · refine make_sep tok H rfl rfl rfl rfl rfl (by decide) 1 1 rfl rfl (by omega) (by omega) (by unfold maxLen; omega) ?_
    clear H
    intro bb w H
    (repeat first | refine go ?_ | ((try conv => whnf); (first | (refine St_gate ?_; refine xS ?_) | (refine StN_gate ?_; refine xN ?_)); clear H; intro w H))
    refine make_sep tok H rfl rfl rfl rfl rfl (by decide) 1 1 rfl rfl (by omega) (by omega) (by unfold maxLen; omega) ?_
    clear H
    intro ba w H
    (repeat first | refine go ?_ | ((try conv => whnf); (first | (refine St_gate ?_; refine xS ?_) | (refine StN_gate ?_; refine xN ?_)); clear H; intro w H))
    (refine Nw_sep H ?_; clear H; intro b w H; (try simp only [Value.cells, List.toList_toArray, List.append_nil, List.cons_append, List.nil_append] at H))
    replace H := Own.nilR H 3 1
    replace H := H.tp 3
    replace H := H.tp 3
    replace H := H.tp 2
    replace H := H.tp 3
    replace H := hcl H
    refine Eqv_in ?_
    refine Loop_intro (fun k : Nat => [(11, .int .i64 k)]) (fun k w => Sep w0 w (rkR b (newE k) :: l) ∧ k ≤ (min m 262144).toNat) (fun k => (min m 262144).toNat - k) 0 ⟨rfl, trivial⟩ ⟨H, Nat.zero_le _⟩ ?_
    clear H
    rintro k w ⟨H, hk⟩
    refine Br_dec (fun k1 => ?_) (fun k1 => ?_)
    · refine Call_of (kGrow H (.head _) (by rw [newE_len]; omega)) ?_
      clear H
      rintro _ w ⟨rfl, H⟩
      replace H := H _ .head
      rw [newE_next] at H
      (repeat first | refine go ?_ | ((try conv => whnf); (first | (refine St_gate ?_; refine xS ?_) | (refine StN_gate ?_; refine xN ?_)); clear H; intro w H))
      exact ⟨k + 1, ⟨congrArg some (vint (by omega)), trivial⟩, ⟨H, by omega⟩, by omega⟩
    · have e : k = (min m 262144).toNat := by omega
      rw [e] at H
      exact Ret_in ⟨b, rfl, H⟩
end
end Go.Proofs.YtcibiidebknkgaaGreat
