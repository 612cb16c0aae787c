/- Plain: a clause more; what follows. -/
import Derived.Test.YtcibiidebknkgaaGreatWatchN
set_option linter.unusedVariables false
set_option linter.unusedSimpArgs false
namespace Go.Watch
open Go.Trail

/-! The two best literals come first. -/
def levOf (E : List Ent) (v : Int) : Int := match find E v with
  | none => -1
  | some e => e.lev
def rank (E : List Ent) (x : Int) : Int := if value E x = 1 then 262146 else if value E x = 0 then 262145 else levOf E (var x)
def bestTo (E : List Ent) (l : List Int) (i : Nat) : Nat → Nat
  | 0 => i
  | m + 1 => if rank E (l.getD (bestTo E l i m) 0) < rank E (l.getD (i + 1 + m) 0) then i + 1 + m else bestTo E l i m
theorem bestTo_in (E : List Ent) (l : List Int) (i : Nat) : ∀ m, i ≤ bestTo E l i m ∧ bestTo E l i m ≤ i + m
  | 0 => by simp [bestTo]
  | m + 1 => by
    have := bestTo_in E l i m
    unfold bestTo
    split <;> omega
theorem bestTo_max (E : List Ent) (l : List Int) (i : Nat) : ∀ m j, j ≤ m → rank E (l.getD (i + j) 0) ≤ rank E (l.getD (bestTo E l i m) 0)
  | 0, j, h => by
    obtain rfl : j = 0 := Nat.le_zero.1 h
    exact Int.le_refl _
  | m + 1, j, h => by
    have ih := bestTo_max E l i m
    unfold bestTo
    by_cases e : j = m + 1
    · subst e
      have e2 : i + (m + 1) = i + 1 + m := by omega
      rw [e2]
      split <;> omega
    · have := ih j (by omega)
      split <;> omega
def swapL (l : List Int) (i j : Nat) : List Int := (l.set i (l.getD j 0)).set j (l.getD i 0)
theorem swapL_len (l : List Int) (i j : Nat) : (swapL l i j).length = l.length := by simp [swapL]
theorem set_perm : ∀ {r : List Int} {k : Nat} {x : Int} (h : k < r.length), (r[k] :: r.set k x).Perm (x :: r)
  | y :: r, 0, x, _ => List.Perm.swap ..
  | y :: r, k + 1, x, h => by
    have hk : k < r.length := by simpa using h
    show (r[k] :: y :: r.set k x).Perm (x :: y :: r)
    exact (List.Perm.swap ..).trans ((List.Perm.cons y (set_perm hk)).trans (List.Perm.swap ..))
theorem swap_head {x : Int} {r : List Int} {j : Nat} (hj : j < (x :: r).length) : ∃ t, swapL (x :: r) 0 j = (x :: r).getD j 0 :: t ∧ ((x :: r).getD j 0 :: t).Perm (x :: r) := by
  cases j with
  | zero => exact ⟨r, by simp [swapL], by simp⟩
  | succ k =>
    have hk : k < r.length := by simpa using hj
    have e : (x :: r).getD (k + 1) 0 = r[k] := by rw [List.getD_eq_getElem?_getD]; simp [hk]
    rw [e]
    refine ⟨r.set k x, ?_, ?_⟩
    · simp [swapL, List.getD_eq_getElem?_getD, hk]
    · exact set_perm hk
theorem bestTo_cons (E : List Ent) (a : Int) (t : List Int) : ∀ (i m : Nat), bestTo E (a :: t) (i + 1) m = bestTo E t i m + 1
  | i, 0 => rfl
  | i, m + 1 => by
    unfold bestTo
    rw [bestTo_cons E a t i m, show i + 1 + 1 + m = (i + 1 + m) + 1 by omega]
    simp only [List.getD_cons_succ]
    split <;> rfl
theorem swapL_cons (a : Int) (t : List Int) (i j : Nat) : swapL (a :: t) (i + 1) (j + 1) = a :: swapL t i j := by simp [swapL]
def leadP1 (E : List Ent) (l : List Int) : List Int := if 0 < l.length then swapL l 0 (bestTo E l 0 (l.length - 1)) else l
def leadP (E : List Ent) (l : List Int) : List Int := if 1 < l.length then swapL (leadP1 E l) 1 (bestTo E (leadP1 E l) 1 (l.length - 2)) else leadP1 E l
theorem best_head (E : List Ent) {l : List Int} (h : 0 < l.length) : ∃ a t, swapL l 0 (bestTo E l 0 (l.length - 1)) = a :: t ∧ (a :: t).Perm l ∧ ∀ z ∈ l, rank E z ≤ rank E a := by
  cases l with
  | nil => simp at h
  | cons x r =>
    have hin := bestTo_in E (x :: r) 0 ((x :: r).length - 1)
    have hmax := bestTo_max E (x :: r) 0 ((x :: r).length - 1)
    generalize bestTo E (x :: r) 0 ((x :: r).length - 1) = j at *
    have hj : j < (x :: r).length := by omega
    obtain ⟨t, h1, h2⟩ := swap_head hj
    refine ⟨_, t, h1, h2, fun z hz => ?_⟩
    obtain ⟨i, hi⟩ := List.getElem?_of_mem hz
    have hil := (List.getElem?_eq_some_iff.1 hi).1
    have := hmax i (by omega)
    rw [Nat.zero_add, List.getD_eq_getElem?_getD, hi] at this
    exact this
/-- The first is the best, the second the best of the rest. -/
def LeadOK (E : List Ent) (l : List Int) : Prop := ∀ (i j : Nat) x y, i < 2 → i < j → l[i]? = some x → l[j]? = some y → rank E y ≤ rank E x
theorem lead_ok (E : List Ent) (l : List Int) : (leadP E l).Perm l ∧ LeadOK E (leadP E l) := by
  unfold leadP
  by_cases h0 : 0 < l.length
  · obtain ⟨a, t, h1, h2, h3⟩ := best_head E h0
    have e1 : leadP1 E l = a :: t := by unfold leadP1; rw [if_pos h0, h1]
    have hl := h2.length_eq
    rw [e1]
    by_cases h4 : 1 < l.length
    · rw [if_pos h4]
      have ht : 0 < t.length := by simp only [List.length_cons] at hl; omega
      have e2 : l.length - 2 = t.length - 1 := by simp only [List.length_cons] at hl; omega
      rw [e2, bestTo_cons E a t 0 (t.length - 1), swapL_cons]
      obtain ⟨b, u, k1, k2, k3⟩ := best_head E ht
      rw [k1]
      have hp : (a :: b :: u).Perm l := (List.Perm.cons a k2).trans h2
      refine ⟨hp, fun i j x y hi hij hx hy => ?_⟩
      have hyl : y ∈ a :: b :: u := List.mem_of_getElem? hy
      match i, hi with
      | 0, _ => simp at hx; subst hx; exact h3 y (hp.mem_iff.1 hyl)
      | 1, _ =>
        simp at hx; subst hx
        obtain ⟨j', rfl⟩ : ∃ j', j = j' + 2 := ⟨j - 2, by omega⟩
        simp at hy
        exact k3 y (k2.mem_iff.1 (List.mem_cons_of_mem _ (List.mem_of_getElem? hy)))
    · rw [if_neg h4]
      refine ⟨h2, fun i j x y hi hij hx hy => ?_⟩
      have := (List.getElem?_eq_some_iff.1 hy).1
      simp only [List.length_cons] at hl this; omega
  · have e : l = [] := List.length_eq_zero_iff.1 (by omega)
    subst e
    rw [if_neg (by simp)]
    exact ⟨by simp [leadP1], fun i j x y _ _ hx => by simp [leadP1] at hx⟩

section
variable {S : Nat → Prop} {s : St}

theorem Good.lev_at (hg : Good S s) {x : Int} (hl : okLit x = true) {e : Ent} (he : e ∈ s.E) (hx : e.lit = -x) : levOf s.E (var x) = e.lev := by
  have hv : 0 < var x := var_pos.2 hl
  unfold levOf
  cases hf : find s.E (var x) with
  | none =>
    rw [find_none (by omega)] at hf
    exact (hf e he (by rw [hx, var_neg])).elim
  | some g =>
    obtain ⟨h1, h2, _⟩ := find_some hf
    have h3 : var g.lit = var e.lit := by rw [hx, var_neg]; omega
    have : g = e := by
      obtain ⟨i, hi⟩ := List.getElem?_of_mem h1
      obtain ⟨j, hj⟩ := List.getElem?_of_mem he
      obtain ⟨hi1, hi2⟩ := List.getElem?_eq_some_iff.1 hi
      obtain ⟨hj1, hj2⟩ := List.getElem?_eq_some_iff.1 hj
      have ho := hg.inv.once
      rw [List.pairwise_iff_getElem] at ho
      rcases Nat.lt_trichotomy i j with hlt | heq | hgt
      · exact (ho i j hi1 hj1 hlt (by rw [hi2, hj2]; exact h3)).elim
      · subst heq; rw [← hi2, ← hj2]
      · exact (ho j i hj1 hi1 hgt (by rw [hi2, hj2]; exact h3.symm)).elim
    rw [this]
theorem Good.rank_fls (hg : Good S s) {x : Int} (hl : okLit x = true) {e : Ent} (he : e ∈ s.E) (hx : e.lit = -x) : rank s.E x = e.lev := by
  have hv := (hg.valn hl).2 ⟨e, he, hx⟩
  unfold rank
  rw [if_neg (by omega), if_neg (by omega), hg.lev_at hl he hx]
/-- What ranks no higher than a false literal is false, and no later. -/
theorem Good.rank_low (hg : Good S s) {y : Int} (hl : okLit y = true) {m : Nat} (hm : m ≤ s.D) (hD : s.D ≤ 262144) (h : rank s.E y ≤ m) : truL s.E m (-y) := by
  rcases val_cases s.E y with hv | hv | hv
  · unfold rank at h; rw [if_pos hv] at h; omega
  · unfold rank at h; rw [if_neg (by omega), if_pos hv] at h; omega
  · obtain ⟨e, he, hel⟩ := val_fls hv
    have := hg.rank_fls hl he hel
    exact ⟨e, he, by omega, hel⟩

def watchAll (W : List (List Nat)) (id : Nat) (xs : List Int) : List (List Nat) := xs.foldl (fun W x => wSet W x (wAt W x ++ [id])) W
theorem watchAll_len (id : Nat) : ∀ (xs : List Int) (W : List (List Nat)), (watchAll W id xs).length = W.length
  | [], W => rfl
  | x :: xs, W => by
    show (watchAll (wSet W x (wAt W x ++ [id])) id xs).length = _
    rw [watchAll_len id xs]; unfold wSet; rw [List.length_set]
theorem watchAll_at (id : Nat) {y : Int} (hy : okLit y = true) : ∀ (xs : List Int) (W : List (List Nat)), xs.Nodup → (∀ x ∈ xs, okLit x = true ∧ pl x < W.length) → wAt (watchAll W id xs) y = if y ∈ xs then wAt W y ++ [id] else wAt W y
  | [], W, _, _ => by simp [watchAll]
  | x :: xs, W, hn, hx => by
    obtain ⟨h1, h2⟩ := List.nodup_cons.1 hn
    have hx0 := hx x (by simp)
    have ih := watchAll_at id hy xs (wSet W x (wAt W x ++ [id])) h2 (fun z hz => by
      have := hx z (List.mem_cons_of_mem _ hz)
      unfold wSet; rw [List.length_set]; exact this)
    show wAt (watchAll (wSet W x (wAt W x ++ [id])) id xs) y = _
    rw [ih, wAt_set hx0.2 hx0.1 hy]
    by_cases e : x = y
    · subst e
      rw [if_neg h1, if_pos rfl, if_pos (List.mem_cons_self ..)]
    · rw [if_neg e]
      by_cases hm : y ∈ xs
      · rw [if_pos hm, if_pos (List.mem_cons_of_mem _ hm)]
      · rw [if_neg hm, if_neg (by rw [List.mem_cons]; rintro (h | h); exact e h.symm; exact hm h)]

/-- A clause more. -/
def addP (s : St) (lits : List Int) (both : Bool) : St :=
  if both then { s with C := s.C ++ [⟨lits, true, true⟩] } else { s with C := s.C ++ [⟨lits, true, false⟩], W := watchAll s.W s.C.length (lits.take 2), F := s.F ++ [s.C.length] }
theorem getC_app {C : List Cls} {k c : Cls} {i : Nat} (h : (C ++ [k])[i]? = some c) : C[i]? = some c ∨ (i = C.length ∧ c = k) := by
  rcases Nat.lt_or_ge i C.length with hi | hi
  · rw [List.getElem?_append_left hi] at h; exact .inl h
  · rw [List.getElem?_append_right hi] at h
    have hi2 : i = C.length := by
      have := (List.getElem?_eq_some_iff.1 h).1
      simp at this; omega
    subst hi2
    rw [Nat.sub_self] at h
    simp at h
    exact .inr ⟨rfl, h.symm⟩
theorem appC_get {C : List Cls} {k c : Cls} {i : Nat} (h : C[i]? = some c) : (C ++ [k])[i]? = some c := by
  rw [List.getElem?_append_left (List.getElem?_eq_some_iff.1 h).1]; exact h
theorem Good.add (hg : Good S s) {lits : List Int} {both : Bool} (hl : ∀ x ∈ lits, okLit x = true ∧ var x ≤ s.n) (hn : lits.Nodup) (hb : both = true ↔ ∃ x ∈ lits, -x ∈ lits) (hlead : LeadOK s.E lits) : Good S (addP s lits both) := by
  have hsm := hg.deepLe
  unfold addP
  cases both with
  | true =>
    simp only [if_true]
    have old : ∀ (i : Nat) c, (s.C ++ [(⟨lits, true, true⟩ : Cls)])[i]? = some c → c.idle = false → s.C[i]? = some c := by
      intro i c h hi
      rcases getC_app h with h | ⟨_, rfl⟩
      · exact h
      · cases hi
    exact
    { hg with
      cl := fun c hc => by
        have hc' : c ∈ s.C ++ [(⟨lits, true, true⟩ : Cls)] := hc
        rw [List.mem_append, List.mem_singleton] at hc'
        rcases hc' with h | rfl
        · exact hg.cl c h
        · exact ⟨hl, hn, hb⟩
      fr := fun id h => by obtain ⟨c, h1, h2⟩ := hg.fr id h; exact ⟨c, appC_get h1, h2⟩
      yo := fun p h => by obtain ⟨h0, c, h1, h2⟩ := hg.yo p h; exact ⟨h0, c, appC_get h1, h2⟩
      wat := fun id c hc h1 h2 => hg.wat id c (old id c hc h2) h1 h2
      own := fun x h1 h2 id h => by obtain ⟨c, h3, h4⟩ := hg.own x h1 h2 id h; exact ⟨c, appC_get h3, h4⟩
      p := fun L hL hLD id c hc h1 h2 => hg.p L hL hLD id c (old id c hc h2) h1 h2
      q := fun L hL hLD id c hc h1 h2 => hg.q L hL hLD id c (old id c hc h2) h1 h2
      why := fun i e he => (hg.why i e he).imp (fun h => h) fun ⟨id, c, h1, h2, h3⟩ => ⟨id, c, h1, appC_get h2, h3⟩ }
  | false =>
    simp only [Bool.false_eq_true, if_false]
    have htake : ∀ x ∈ lits.take 2, okLit x = true ∧ pl x < s.W.length := fun x hx => by
      have := hl x (List.mem_of_mem_take hx)
      rw [hg.wl]
      exact ⟨this.1, pl_lt this.1 this.2⟩
    have hat : ∀ y, okLit y = true → wAt (watchAll s.W s.C.length (lits.take 2)) y = if y ∈ lits.take 2 then wAt s.W y ++ [s.C.length] else wAt s.W y := fun y hy => watchAll_at _ hy _ _ (hn.sublist (List.take_sublist 2 lits)) htake
    refine
    { inv := hg.inv, hd := hg.hd, wl := by show (watchAll _ _ _).length = _; rw [watchAll_len]; exact hg.wl, lvl := hg.lvl, deep := hg.deep, late := hg.late, cl := ?_, fr := ?_, yo := ?_, wat := ?_, own := ?_, nod := ?_, p := ?_, q := ?_, why := ?_ }
    · intro c hc
      have hc' : c ∈ s.C ++ [(⟨lits, true, false⟩ : Cls)] := hc
      rw [List.mem_append, List.mem_singleton] at hc'
      rcases hc' with h | rfl
      · exact hg.cl c h
      · exact ⟨hl, hn, hb⟩
    · intro id h
      have h' : id ∈ s.F ++ [s.C.length] := h
      rw [List.mem_append, List.mem_singleton] at h'
      rcases h' with h' | rfl
      · obtain ⟨c, h1, h2⟩ := hg.fr id h'; exact ⟨c, appC_get h1, h2⟩
      · exact ⟨⟨lits, true, false⟩, by show (s.C ++ [_])[s.C.length]? = _; simp, rfl⟩
    · intro p h
      obtain ⟨h0, c, h1, h2⟩ := hg.yo p h
      exact ⟨h0, c, appC_get h1, h2⟩
    · intro id c hc h1 h2 x hx
      show id ∈ wAt (watchAll s.W s.C.length (lits.take 2)) x
      rcases getC_app hc with h | ⟨rfl, rfl⟩
      · have hx' := (hg.cl c (List.mem_of_getElem? h)).1 x (List.mem_of_mem_take hx)
        have := hg.wat id c h h1 h2 x hx
        rw [hat x hx'.1]
        split
        · exact List.mem_append_left _ this
        · exact this
      · rw [hat x (hl x (List.mem_of_mem_take hx)).1, if_pos hx]; simp
    · intro x h1 h2 id h
      have h' : id ∈ wAt (watchAll s.W s.C.length (lits.take 2)) x := h
      rw [hat x h1] at h'
      split at h'
      · rename_i hx
        rw [List.mem_append, List.mem_singleton] at h'
        rcases h' with h' | rfl
        · obtain ⟨c, h3, h4⟩ := hg.own x h1 h2 id h'; exact ⟨c, appC_get h3, h4⟩
        · exact ⟨⟨lits, true, false⟩, by show (s.C ++ [_])[s.C.length]? = _; simp, rfl, hx⟩
      · obtain ⟨c, h3, h4⟩ := hg.own x h1 h2 id h'; exact ⟨c, appC_get h3, h4⟩
    · intro x h1 h2
      show (wAt (watchAll s.W s.C.length (lits.take 2)) x).Nodup
      rw [hat x h1]
      split
      · rw [List.nodup_append]
        exact ⟨hg.nod x h1 h2, by simp, fun a ha b hb => by
          rw [List.mem_singleton] at hb; subst hb
          have := hg.id_lt h1 h2 a ha
          omega⟩
      · exact hg.nod x h1 h2
    · intro L hL hLD id c hc h1 h2
      rcases getC_app hc with h | ⟨rfl, rfl⟩
      · exact (hg.p L hL hLD id c h h1 h2).imp (fun h => List.mem_append_left _ h) (fun h => h)
      · exact .inl (List.mem_append_right _ (by simp))
    · intro L hL hLD id c hc h1 h2
      rcases getC_app hc with h | ⟨rfl, rfl⟩
      · exact hg.q L hL hLD id c h h1 h2
      · intro x hx hv
        obtain ⟨e, he, hle, hex⟩ := hv
        have heE := List.mem_of_mem_take he
        have hxo := hl x (List.mem_of_mem_take hx)
        have hr := hg.rank_fls hxo.1 heE hex
        have hLD' : L ≤ s.D := hLD
        have heD := hg.levs e heE
        have low : ∀ y ∈ lits, rank s.E y ≤ rank s.E x → truL s.E L (-y) := by
          intro y hy hry
          have hyo := (hl y hy).1
          rcases val_cases s.E y with hv | hv | hv
          · unfold rank at hry
            rw [if_pos hv] at hry
            have hr' : rank s.E x = e.lev := hr
            unfold rank at hr'
            rw [hr'] at hry
            omega
          · unfold rank at hry
            rw [if_neg (by omega), if_pos hv] at hry
            have hr' : rank s.E x = e.lev := hr
            unfold rank at hr'
            rw [hr'] at hry
            omega
          · obtain ⟨g, hgm, hgl⟩ := val_fls hv
            have := hg.rank_fls hyo hgm hgl
            exact ⟨g, hgm, by omega, hgl⟩
        refine .inr ⟨lits.getD 0 0, fun y hy hyz => low y hy ?_⟩
        obtain ⟨j, hj⟩ := List.getElem?_of_mem hy
        obtain ⟨i, hi⟩ := List.getElem?_of_mem hx
        have hi2 : i < 2 := by
          have := (List.getElem?_eq_some_iff.1 hi).1
          rw [List.length_take] at this; omega
        have hi3 : lits[i]? = some x := by rw [List.getElem?_take] at hi; rw [if_pos hi2] at hi; exact hi
        have hj0 : j ≠ 0 := by
          rintro rfl
          rw [List.getD_eq_getElem?_getD, hj] at hyz
          exact hyz rfl
        rcases Nat.lt_trichotomy i j with hlt | heq | hgt
        · exact hlead i j x y hi2 hlt hi3 hj
        · subst heq; rw [hi3] at hj; cases hj; exact Int.le_refl _
        · omega
    · intro i e he
      exact (hg.why i e he).imp (fun h => h) fun ⟨id, c, h1, h2, h3⟩ => ⟨id, c, h1, appC_get h2, h3⟩

/-! What follows. -/
inductive Fo (Γ : List Int → Prop) (Δ : Int → Prop) : Int → Prop
  | dec {x : Int} : Δ x → Fo Γ Δ x
  | cls {c : List Int} {x : Int} : Γ c → x ∈ c → (∀ y ∈ c, y ≠ x → Fo Γ Δ (-y)) → Fo Γ Δ x
def Conf (Γ : List Int → Prop) (Δ : Int → Prop) : Prop := ∃ c, Γ c ∧ ∀ y ∈ c, Fo Γ Δ (-y)
theorem Fo.mono {Γ Γ' : List Int → Prop} {Δ Δ' : Int → Prop} (h1 : ∀ c, Γ c → Γ' c) (h2 : ∀ x, Δ x → Fo Γ' Δ' x) {x : Int} (h : Fo Γ Δ x) : Fo Γ' Δ' x := by
  induction h with
  | dec h => exact h2 _ h
  | cls hc hx _ ih => exact .cls (h1 _ hc) hx ih
theorem Conf.mono {Γ Γ' : List Int → Prop} {Δ Δ' : Int → Prop} (h1 : ∀ c, Γ c → Γ' c) (h2 : ∀ x, Δ x → Fo Γ' Δ' x) (h : Conf Γ Δ) : Conf Γ' Δ' := by
  obtain ⟨c, hc, hy⟩ := h
  exact ⟨c, h1 c hc, fun y hyc => (hy y hyc).mono h1 h2⟩
def Gam (s : St) (c : List Int) : Prop := ∃ k ∈ s.C, k.on = true ∧ k.idle = false ∧ ∀ x, x ∈ c ↔ x ∈ k.lits
def Dec (s : St) (x : Int) : Prop := ∃ e ∈ s.E, e.rea = -1 ∧ e.lit = x
theorem Good.sound (hg : Good S s) : ∀ (i : Nat) e, s.E[i]? = some e → Fo (Gam s) (Dec s) e.lit := by
  intro i
  induction i using Nat.strongRecOn with
  | ind i ih =>
    intro e he
    rcases hg.why i e he with h | ⟨id, c, h1, h2, h3, h4, h5, h6⟩
    · exact .dec ⟨e, List.mem_of_getElem? he, h, rfl⟩
    · refine .cls ⟨c, List.mem_of_getElem? h2, h3, h4, fun x => Iff.rfl⟩ h5 fun y hy hne => ?_
      obtain ⟨g, hgm, hgl⟩ := h6 y hy hne
      obtain ⟨j, hj⟩ := List.getElem?_of_mem hgm
      have hj2 := hj
      rw [List.getElem?_take] at hj2
      split at hj2
      · rename_i hlt
        rw [← hgl]
        exact ih j hlt g hj2
      · cases hj2
theorem Good.tru_fo (hg : Good S s) {x : Int} (h : tru s.E x) : Fo (Gam s) (Dec s) x := by
  obtain ⟨e, he, rfl⟩ := h
  obtain ⟨i, hi⟩ := List.getElem?_of_mem he
  exact hg.sound i e hi
theorem Good.some_true (hg : Good S s) (hF : s.F = []) (hh : s.h = s.E.length) {k : Cls} (hk : k ∈ s.C) (h1 : k.on = true) (h2 : k.idle = false) {z : Int} (hz : ∀ y ∈ k.lits, y ≠ z → tru s.E (-y)) : ∃ y ∈ k.lits, tru s.E y := by
  obtain ⟨id, hid⟩ := List.getElem?_of_mem hk
  have hcl := hg.cl k hk
  rcases hg.p s.D hg.deep (Nat.le_refl _) id k hid h1 h2 with h | ⟨j, h3, h4⟩ | h
  · rw [hF] at h; cases h
  · have := (hg.yo _ h4).1; simp only [] at this; omega
  · by_cases hlen : k.lits.length ≤ 1
    · obtain ⟨y, hy, ht⟩ := h.1 hlen; exact ⟨y, hy, ht.tru⟩
    · match hl : k.lits with
      | [] => rw [hl] at hlen; simp at hlen
      | [a] => rw [hl] at hlen; simp at hlen
      | a :: b :: r =>
        have hnd := hcl.2.1
        rw [hl] at hnd h hz
        have hab : a ≠ b := by rintro rfl; simp at hnd
        have key : ∀ x ∈ (a :: b :: r).take 2, x ≠ z → ∃ y ∈ a :: b :: r, tru s.E y := by
          intro x hx hxz
          have hxm := List.mem_of_mem_take hx
          have ht := (hz x hxm hxz).lev hg.levs
          obtain ⟨y, hy, ht⟩ := h.2 x hx (by rw [hh, List.take_length]; exact ht)
          exact ⟨y, hy, ht.tru⟩
        by_cases haz : a = z
        · exact key b (by simp) (by rw [← haz]; exact hab.symm)
        · exact key a (by simp) haz
theorem Good.complete (hg : Good S s) (hF : s.F = []) (hh : s.h = s.E.length) : (∀ x, Fo (Gam s) (Dec s) x → tru s.E x) ∧ ¬ Conf (Gam s) (Dec s) := by
  have h1 : ∀ x, Fo (Gam s) (Dec s) x → tru s.E x := by
    intro x h
    induction h with
    | dec h => obtain ⟨e, he, _, hl⟩ := h; exact ⟨e, he, hl⟩
    | @cls c x hc hx _ ih =>
      obtain ⟨k, hk, h1, h2, h3⟩ := hc
      obtain ⟨y, hy, ht⟩ := hg.some_true hF hh hk h1 h2 (z := x) (fun y hy hne => ih y ((h3 y).2 hy) hne)
      by_cases e : y = x
      · rw [← e]; exact ht
      · exact (not_both hg.inv.once ((hg.cl k hk).1 y hy).1 ht (ih y ((h3 y).2 hy) e)).elim
  refine ⟨h1, ?_⟩
  rintro ⟨c, ⟨k, hk, h2, h3, h4⟩, h5⟩
  obtain ⟨y, hy, ht⟩ := hg.some_true hF hh hk h2 h3 (z := 0) (fun y hy _ => h1 _ (h5 y ((h4 y).2 hy)))
  exact not_both hg.inv.once ((hg.cl k hk).1 y hy).1 ht (h1 _ (h5 y ((h4 y).2 hy)))
theorem Good.conf (hg : Good S s) {id : Nat} {c : Cls} (hc : s.C[id]? = some c) (h1 : c.on = true) (h2 : c.idle = false) (h : ∀ y ∈ c.lits, tru s.E (-y)) : Conf (Gam s) (Dec s) :=
  ⟨c.lits, ⟨c, List.mem_of_getElem? hc, h1, h2, fun x => Iff.rfl⟩, fun y hy => hg.tru_fo (h y hy)⟩

/-- What Propagate may leave. -/
structure Ext (s s' : St) : Prop where
  n : s'.n = s.n
  D : s'.D = s.D
  E : ∃ G, s'.E = s.E ++ G ∧ ∀ g ∈ G, g.lev = s.D ∧ 0 ≤ g.rea
  len : s'.C.length = s.C.length
  C : ∀ (id : Nat) c, s.C[id]? = some c → ∃ c', s'.C[id]? = some c' ∧ c'.on = c.on ∧ c'.idle = c.idle ∧ c'.lits.Perm c.lits
theorem Ext.refl (s : St) : Ext s s := ⟨rfl, rfl, ⟨[], by simp, by simp⟩, rfl, fun id c h => ⟨c, h, rfl, rfl, List.Perm.refl _⟩⟩
theorem Ext.trans {s s' s'' : St} (h : Ext s s') (k : Ext s' s'') : Ext s s'' := by
  obtain ⟨G, h1, h2⟩ := h.E
  obtain ⟨G', k1, k2⟩ := k.E
  refine ⟨k.n.trans h.n, k.D.trans h.D, ⟨G ++ G', by rw [k1, h1, List.append_assoc], fun g hg => ?_⟩, k.len.trans h.len, fun id c hc => ?_⟩
  · rcases List.mem_append.1 hg with hg | hg
    · exact h2 g hg
    · have := k2 g hg; rw [h.D] at this; exact this
  · obtain ⟨c', a1, a2, a3, a4⟩ := h.C id c hc
    obtain ⟨c'', b1, b2, b3, b4⟩ := k.C id c' a1
    exact ⟨c'', b1, b2.trans a2, b3.trans a3, b4.trans a4⟩
theorem Ext.gam {s s' : St} (h : Ext s s') (c : List Int) : Gam s' c ↔ Gam s c := by
  constructor
  · rintro ⟨k, hk, h1, h2, h3⟩
    obtain ⟨id, hid⟩ := List.getElem?_of_mem hk
    have hlt := (List.getElem?_eq_some_iff.1 hid).1
    rw [h.len] at hlt
    obtain ⟨c', a1, a2, a3, a4⟩ := h.C id _ (List.getElem?_eq_getElem hlt)
    rw [hid] at a1; cases a1
    exact ⟨_, List.getElem_mem hlt, by rw [← a2]; exact h1, by rw [← a3]; exact h2, fun x => (h3 x).trans a4.mem_iff⟩
  · rintro ⟨k, hk, h1, h2, h3⟩
    obtain ⟨id, hid⟩ := List.getElem?_of_mem hk
    obtain ⟨c', a1, a2, a3, a4⟩ := h.C id k hid
    exact ⟨c', List.mem_of_getElem? a1, by rw [a2]; exact h1, by rw [a3]; exact h2, fun x => (h3 x).trans a4.mem_iff.symm⟩
theorem Ext.dec {s s' : St} (h : Ext s s') (x : Int) : Dec s' x ↔ Dec s x := by
  obtain ⟨G, h1, h2⟩ := h.E
  unfold Dec
  rw [h1]
  constructor
  · rintro ⟨e, he, h3, h4⟩
    rcases List.mem_append.1 he with he | he
    · exact ⟨e, he, h3, h4⟩
    · have := (h2 e he).2; omega
  · rintro ⟨e, he, h3, h4⟩
    exact ⟨e, List.mem_append_left _ he, h3, h4⟩
end
end Go.Watch
