/- What a conflict teaches: back along the trail; what is needless. -/
import Derived.Test.YtcibiidebknkgaaGreatLearnM
set_option linter.unusedVariables false
set_option linter.unusedSimpArgs false
namespace Go.Watch
open Go.Trail
section
variable {S : Nat → Prop} {s s' : St} {top : Int} {T R : List Int} {M : Nat → Prop} {c0 : List Int} {m : Nat}
def offV (T : List Int) (v : Nat) : List Int := T.filter fun x => decide (var x ≠ v)
theorem offV_mem {T : List Int} {v : Nat} {x : Int} : x ∈ offV T v ↔ x ∈ T ∧ var x ≠ v := by simp [offV]
theorem offV_none {T : List Int} {v : Nat} (h : ∀ x ∈ T, var x ≠ v) : offV T v = T := by
  unfold offV
  rw [List.filter_eq_self]
  intro x hx; simpa using h x hx
theorem offV_len : ∀ {T : List Int} {v : Nat}, T.Pairwise (fun x y => var x ≠ var y) → (∃ x ∈ T, var x = v) → (offV T v).length + 1 = T.length
  | [], v, _, h => by obtain ⟨x, hx, _⟩ := h; cases hx
  | y :: T, v, hp, h => by
    rw [List.pairwise_cons] at hp
    by_cases hy : var y = v
    · have e : offV (y :: T) v = T := by
        have : offV (y :: T) v = offV T v := by unfold offV; rw [List.filter_cons_of_neg (by simpa using hy)]
        rw [this]
        exact offV_none fun x hx e => hp.1 x hx (by rw [hy, e])
      rw [e]; rfl
    · have e : offV (y :: T) v = y :: offV T v := by unfold offV; rw [List.filter_cons_of_pos (by simpa using hy)]
      have h2 : ∃ x ∈ T, var x = v := by
        obtain ⟨x, hx, hv⟩ := h
        rw [List.mem_cons] at hx
        rcases hx with rfl | hx
        · exact (hy hv).elim
        · exact ⟨x, hx, hv⟩
      rw [e, List.length_cons, List.length_cons, offV_len hp.2 h2]

structure Fst (s : St) (c0 : List Int) (top : Int) (m : Nat) (T R : List Int) (M : Nat → Prop) : Prop where
  ok : SOk s.E top T R
  ne : T ≠ []
  pos : ∀ x ∈ T, tru (s.E.take m) (-x)
  cov : Cov s T R M
  c0 : ∀ y ∈ c0, lvE s.E (var y) ≤ 0 ∨ SeenB T R (var y) ∨ M (var y)

theorem take_tru {E : List Ent} {m : Nat} {e : Ent} (he : E[m]? = some e) {x : Int} (h : tru (E.take (m + 1)) x) (hn : x ≠ e.lit) : tru (E.take m) x := by
  rw [List.take_add_one, he] at h
  obtain ⟨g, h1, h2⟩ := h
  simp only [Option.toList_some, List.mem_append, List.mem_singleton] at h1
  rcases h1 with h1 | rfl
  · exact ⟨g, h1, h2⟩
  · exact (hn h2.symm).elim
theorem tru_take {E : List Ent} {m : Nat} {x : Int} (h : tru (E.take m) x) : tru E x := by
  obtain ⟨g, h1, h2⟩ := h
  exact ⟨g, List.mem_of_mem_take h1, h2⟩

theorem Fst.skip (h : Fst s c0 top (m + 1) T R M) {e : Ent} (he : s.E[m]? = some e) (hn : ∀ x ∈ T, var x ≠ var e.lit) : Fst s c0 top m T R M :=
  { h with pos := fun x hx => take_tru he (h.pos x hx) fun hxe => hn x hx (by rw [← hxe, var_neg]) }
theorem Fst.nope (h : Fst s c0 top 0 T R M) : False := by
  obtain ⟨x, hx⟩ := List.exists_mem_of_ne_nil T h.ne
  obtain ⟨g, h1, _⟩ := h.pos x hx
  simp at h1
theorem Fst.last (hg : Good S s) (h : Fst s c0 top (m + 1) T R M) {e : Ent} (he : s.E[m]? = some e) (hx : ∃ x ∈ T, var x = var e.lit) (h1 : T.length = 1) : T = [-e.lit] := by
  obtain ⟨x, hx, hv⟩ := hx
  match T, h1 with
  | [y], _ =>
    rw [List.mem_singleton] at hx
    subst hx
    obtain ⟨g, g1, g2⟩ := h.ok.fls x (by simp)
    have : g = e := hg.same_at g1 (List.mem_of_getElem? he) (by rw [g2, var_neg]; exact hv)
    rw [← this, g2, Int.neg_neg]

theorem Fst.step (hg : Good S s) (hd : Dp s.E) (h : Fst s c0 top (m + 1) T R M) {e : Ent} (he : s.E[m]? = some e) (hx : ∃ x ∈ T, var x = var e.lit) (h1 : T.length ≠ 1) :
    ∃ (id : Nat) (c : Cls), e.rea = (id : Int) ∧ s.C[id]? = some c ∧ c.on = true ∧ SOk s.E top (offV T (var e.lit)) R ∧ offV R (var e.lit) = R ∧ (offV T (var e.lit)).length + 1 = T.length ∧
      ∀ out : List Int, (∀ y, y ∈ out ↔ y ∈ c.lits) → (∀ y ∈ out, (var y : Int) ≠ (var e.lit : Int) → tru s.E (-y) ∧ lvE s.E (var y) ≤ top) ∧
        Fst s c0 top m (seeL s.E top (var e.lit) (offV T (var e.lit), R) out).1 (seeL s.E top (var e.lit) (offV T (var e.lit), R) out).2 (fun v => M v ∨ v = var e.lit) := by
  have hem : e ∈ s.E := List.mem_of_getElem? he
  obtain ⟨x, hxT, hv⟩ := hx
  have hTo : T.Pairwise fun x y => var x ≠ var y := (List.pairwise_append.1 h.ok.once).1
  have hlen := offV_len hTo ⟨x, hxT, hv⟩
  have hT0 : T.length ≠ 0 := fun e => h.ne (List.length_eq_zero_iff.1 e)
  have hne : offV T (var e.lit) ≠ [] := fun e => by rw [e] at hlen; simp at hlen; omega
  have hle : lvE s.E (var x) = (e.lev : Int) := (hg.lv_at hem hv).1
  have hltop := h.ok.tops x hxT
  have hpos1 : ∀ y ∈ offV T (var e.lit), tru (s.E.take m) (-y) := fun y hy => by
    obtain ⟨h1, h2⟩ := offV_mem.1 hy
    exact take_tru he (h.pos y h1) fun hye => h2 (by rw [← hye, var_neg])
  have hR : ∀ y ∈ R, var y ≠ var e.lit := fun y hy hvy => (List.pairwise_append.1 h.ok.once).2.2 x hxT y hy (by rw [hv, hvy])
  have hok1 : SOk s.E top (offV T (var e.lit)) R := by
    have hsub : (offV T (var e.lit)).Sublist T := List.filter_sublist
    refine ⟨fun y hy => h.ok.fls y ?_, fun y hy => h.ok.tops y (offV_mem.1 hy).1, h.ok.low, h.ok.once.sublist (hsub.append_right R), h.ok.pos⟩
    rw [List.mem_append] at hy ⊢
    exact hy.imp (fun h => (offV_mem.1 h).1) id
  have hrea : e.rea ≠ -1 := by
    intro hr
    obtain ⟨y, hy⟩ := List.exists_mem_of_ne_nil _ hne
    obtain ⟨g, g1, g2⟩ := hpos1 y hy
    obtain ⟨j, hj⟩ := List.getElem?_of_mem g1
    have hjm : j < m := by
      have := (List.getElem?_eq_some_iff.1 hj).1
      rw [List.length_take] at this; omega
    rw [List.getElem?_take, if_pos hjm] at hj
    obtain ⟨i1, i2⟩ := List.getElem?_eq_some_iff.1 he
    obtain ⟨j1, j2⟩ := List.getElem?_eq_some_iff.1 hj
    have := List.pairwise_iff_getElem.1 hd.first j m j1 i1 hjm
    rw [i2, j2] at this
    have h3 := this hr
    have h4 := (hg.lv_neg (List.mem_of_getElem? hj) g2).1
    have h5 := h.ok.tops y (offV_mem.1 hy).1
    omega
  rcases hg.why m e he with hr | ⟨id, c, k1, k2, k3, k4, k5, k6⟩
  · exact (hrea hr).elim
  refine ⟨id, c, k1, k2, k3, hok1, offV_none hR, hlen, fun out hout => ?_⟩
  have hyt : ∀ y ∈ out, (var y : Int) ≠ (var e.lit : Int) → tru (s.E.take m) (-y) := fun y hy hn => k6 y ((hout y).1 hy) fun he => hn (by rw [he])
  have hy : ∀ y ∈ out, (var y : Int) ≠ (var e.lit : Int) → tru s.E (-y) ∧ lvE s.E (var y) ≤ top := by
    intro y hy hn
    have ht := hyt y hy hn
    refine ⟨tru_take ht, ?_⟩
    obtain ⟨g, g1, g2⟩ := ht
    obtain ⟨j, hj⟩ := List.getElem?_of_mem g1
    have hjm : j < m := by
      have := (List.getElem?_eq_some_iff.1 hj).1
      rw [List.length_take] at this; omega
    rw [List.getElem?_take, if_pos hjm] at hj
    obtain ⟨i1, i2⟩ := List.getElem?_eq_some_iff.1 he
    obtain ⟨j1, j2⟩ := List.getElem?_eq_some_iff.1 hj
    have := List.pairwise_iff_getElem.1 hg.inv.rise j m j1 i1 hjm
    rw [i2, j2] at this
    rw [(hg.lv_neg (List.mem_of_getElem? hj) g2).1]
    omega
  refine ⟨hy, ?_⟩
  obtain ⟨a1, a2, a3, a4, a5⟩ := SOk.addL (p := (offV T (var e.lit), R)) hok1 hy
  generalize seeL s.E top (var e.lit) (offV T (var e.lit), R) out = q at *
  simp only [] at a2 a3 a5
  have hup : ∀ v, SeenB T R v → SeenB q.1 q.2 v ∨ v = var e.lit := by
    rintro v ⟨y, hy, hyv⟩
    by_cases hve : v = var e.lit
    · exact .inr hve
    · refine .inl ⟨y, ?_, hyv⟩
      rw [List.mem_append] at hy ⊢
      exact hy.imp (fun h => a2 y (offV_mem.2 ⟨h, by rw [hyv]; exact hve⟩)) (a3 y)
  refine ⟨a1, fun hq => ?_, fun y hy => ?_, ?_, ?_⟩
  · obtain ⟨y, hy⟩ := List.exists_mem_of_ne_nil _ hne
    have := a2 y hy
    rw [hq] at this; cases this
  · rcases a5 y hy with h1 | ⟨h1, h2⟩
    · exact hpos1 y h1
    · exact hyt y h1 h2
  · rintro v (hm | rfl)
    · obtain ⟨g, id', c', b1, b2, b3, b4, b5⟩ := h.cov v hm
      refine ⟨g, id', c', b1, b2, b3, b4, fun y hy => ?_⟩
      rcases b5 y hy with h | h | h | h
      · exact .inl h
      · exact .inr (.inl h)
      · exact .inr (.inr ((hup _ h).imp (fun h => h) .inr))
      · exact .inr (.inr (.inr (.inl h)))
    · refine ⟨e, id, c, hem, rfl, k1, k2, fun y hy => ?_⟩
      rcases a4 y ((hout y).2 hy) with h | h | h
      · exact .inl (by omega)
      · exact .inr (.inl h)
      · exact .inr (.inr (.inl h))
  · intro y hy
    rcases h.c0 y hy with h | h | h
    · exact .inl h
    · exact .inr ((hup _ h).imp (fun h => h) .inr)
    · exact .inr (.inr (.inl h))

/-! What is needless -/
def needB (s : St) (T R : List Int) (x : Int) : Bool :=
  decide (0 ≤ reE s.E (var x)) && ((s.C.getD (reE s.E (var x)).toNat ⟨[], true, false⟩).lits.all fun y => decide (var y = var x) || decide (SeenB T R (var y)) || decide (lvE s.E (var y) ≤ 0))
structure Sho (s : St) (c0 : List Int) (top : Int) (x0 : Int) (R : List Int) (M : Nat → Prop) : Prop where
  ok : SOk s.E top [x0] R
  cov : Cov s [x0] R M
  c0 : ∀ y ∈ c0, lvE s.E (var y) ≤ 0 ∨ SeenB [x0] R (var y) ∨ M (var y)
theorem Fst.sho {x0 : Int} (h : Fst s c0 top m [x0] R M) : Sho s c0 top x0 R M := ⟨h.ok, h.cov, h.c0⟩
theorem SeenB.perm {T R R' : List Int} (hp : R.Perm R') {v : Nat} (h : SeenB T R v) : SeenB T R' v := h.mono (fun _ h => h) fun x hx => hp.mem_iff.1 hx
theorem Sho.perm {x0 : Int} {R' : List Int} (h : Sho s c0 top x0 R M) (hp : R.Perm R') : Sho s c0 top x0 R' M := by
  refine ⟨⟨fun x hx => h.ok.fls x ?_, h.ok.tops, fun x hx => h.ok.low x (hp.mem_iff.2 hx), ?_, h.ok.pos⟩, fun v hv => ?_, fun y hy => (h.c0 y hy).imp id (Or.imp (fun h => h.perm hp) id)⟩
  · rw [List.mem_append] at hx ⊢
    exact hx.imp id fun h => hp.mem_iff.2 h
  · exact ((hp.append_left [x0]).pairwise_iff fun h => h.symm).1 h.ok.once
  · obtain ⟨e, id, c, a1, a2, a3, a4, a5⟩ := h.cov v hv
    exact ⟨e, id, c, a1, a2, a3, a4, fun y hy => (a5 y hy).imp (fun h => h) (Or.imp (fun h => h) (Or.imp (fun h => h.perm hp) (fun h => h)))⟩
theorem needB_perm {x0 : Int} {R R' : List Int} (hp : R.Perm R') (x : Int) : needB s [x0] R x = needB s [x0] R' x := by
  unfold needB
  congr 2
  funext y
  congr 2
  rw [decide_eq_decide]
  exact ⟨fun h => h.perm hp, fun h => h.perm hp.symm⟩
theorem Sho.drop (hg : Good S s) {x0 x : Int} {K r : List Int} (h : Sho s c0 top x0 (K ++ x :: r) M) (hn : needB s [x0] (K ++ x :: r) x = true) : Sho s c0 top x0 (K ++ r) (fun v => M v ∨ v = var x) := by
  have hsub : (K ++ r).Sublist (K ++ x :: r) := List.Sublist.append_left (List.sublist_cons_self x r) K
  have hup : ∀ v, SeenB [x0] (K ++ x :: r) v → SeenB [x0] (K ++ r) v ∨ v = var x := by
    rintro v ⟨y, hy, hyv⟩
    by_cases hv : v = var x
    · exact .inr hv
    · refine .inl ⟨y, ?_, hyv⟩
      simp only [List.mem_append, List.mem_cons] at hy ⊢
      rcases hy with hy | hy | hy | hy
      · exact .inl hy
      · exact .inr (.inl hy)
      · exact (hv (by rw [← hyv, hy])).elim
      · exact .inr (.inr hy)
  refine ⟨⟨fun y hy => h.ok.fls y ((hsub.append_left [x0]).subset hy), h.ok.tops, fun y hy => h.ok.low y (hsub.subset hy), h.ok.once.sublist (hsub.append_left [x0]), h.ok.pos⟩, ?_, fun y hy => ?_⟩
  · rintro v (hm | rfl)
    · obtain ⟨e, id, c, a1, a2, a3, a4, a5⟩ := h.cov v hm
      refine ⟨e, id, c, a1, a2, a3, a4, fun y hy => ?_⟩
      rcases a5 y hy with h | h | h | h
      · exact .inl h
      · exact .inr (.inl h)
      · exact .inr (.inr ((hup _ h).imp (fun h => h) .inr))
      · exact .inr (.inr (.inr (.inl h)))
    · unfold needB at hn
      simp only [Bool.and_eq_true, decide_eq_true_eq, List.all_eq_true, Bool.or_eq_true] at hn
      obtain ⟨h0, hall⟩ := hn
      obtain ⟨e, he, hel⟩ := h.ok.fls x (by simp)
      obtain ⟨i, hi⟩ := List.getElem?_of_mem he
      have hre := (hg.lv_neg he hel).2
      rw [hre] at h0 hall
      rcases hg.why i e hi with hr | ⟨id, c, k1, k2, k3, k4, k5, k6⟩
      · omega
      have hid : e.rea.toNat = id := by omega
      rw [hid, List.getD_eq_getElem?_getD, k2] at hall
      refine ⟨e, id, c, he, by rw [hel, var_neg], k1, k2, fun y hy => ?_⟩
      rcases hall y hy with (h | h) | h
      · exact .inl h
      · exact .inr (.inr ((hup _ h).imp (fun h => h) .inr))
      · exact .inr (.inl h)
  · rcases h.c0 y hy with h | h | h
    · exact .inl h
    · exact .inr ((hup _ h).imp (fun h => h) .inr)
    · exact .inr (.inr (.inl h))

/-- What Learn answers. -/
structure Learnt (s : St) (c0 : List Int) (top : Int) (x : Int) (R : List Int) (back : Int) : Prop where
  ok : SOk s.E top [x] R
  conf : Conf (Gam s) (Neg [x] R)
  lean : ∀ y ∈ R, needB s [x] R y = false
  le : ∀ y ∈ c0, lvE s.E (var y) ≤ top
  at' : ∃ y ∈ c0, lvE s.E (var y) = top
  b0 : 0 ≤ back
  bl : ∀ y ∈ R, lvE s.E (var y) ≤ back
  bat : back = 0 ∨ ∃ y ∈ R, lvE s.E (var y) = back
end
end Go.Watch
