/- Plain: an engine's state, and what holds of it. -/
import Derived.Test.YtcibiidebknkgaaGreatTrailS
import Derived.Test.YtcibiidebknkgaaGreatLitM
set_option linter.unusedVariables false
set_option linter.unusedSimpArgs false
namespace Go.Watch
open Go.Trail

theorem one_ok (x : Int) : Lit.one x = okLit x := by rw [Bool.eq_iff_iff, Lit.one_iff, okLit_iff]
theorem var_var (x : Int) : Lit.var x = (var x : Int) := by
  unfold Lit.var var
  rw [one_ok]
  cases okLit x with
  | false => rfl
  | true => simp only [if_true]; split <;> omega

/-! Values -/
theorem val_cases (E : List Ent) (l : Int) : value E l = 1 ∨ value E l = 0 ∨ value E l = -1 := by
  induction E with
  | nil => exact .inr (.inl rfl)
  | cons x r ih =>
    unfold value
    split
    · exact .inl rfl
    · split
      · exact .inr (.inr rfl)
      · exact ih
def tru (E : List Ent) (x : Int) : Prop := ∃ e ∈ E, e.lit = x
def truL (E : List Ent) (L : Nat) (x : Int) : Prop := ∃ e ∈ E, e.lev ≤ L ∧ e.lit = x
theorem tru_val {E : List Ent} (h : E.Pairwise fun x y => var x.lit ≠ var y.lit) {l : Int} (hl : okLit l = true) (ht : tru E l) : value E l = 1 := by
  have hl' := okLit_iff.1 hl
  induction E with
  | nil => obtain ⟨e, he, _⟩ := ht; cases he
  | cons x r ih =>
    obtain ⟨e, he, hel⟩ := ht
    have h' := List.pairwise_cons.1 h
    unfold value
    by_cases h1 : x.lit = l
    · rw [if_pos h1]
    · have her : e ∈ r := by rcases List.mem_cons.1 he with rfl | h; exact (h1 hel).elim; exact h
      rw [if_neg h1, if_neg ?_]
      · exact ih h'.2 ⟨e, her, hel⟩
      · rintro ⟨_, h2⟩
        exact h'.1 e her (by rw [h2, hel, var_neg])
theorem fls_val {E : List Ent} (h : E.Pairwise fun x y => var x.lit ≠ var y.lit) {l : Int} (hl : okLit l = true) (ht : tru E (-l)) : value E l = -1 := by
  have hl' := okLit_iff.1 hl
  induction E with
  | nil => obtain ⟨e, he, _⟩ := ht; cases he
  | cons x r ih =>
    obtain ⟨e, he, hel⟩ := ht
    have h' := List.pairwise_cons.1 h
    unfold value
    by_cases h1 : x.lit = l
    · exfalso
      rcases List.mem_cons.1 he with rfl | her
      · omega
      · exact h'.1 e her (by rw [h1, hel, var_neg])
    · rw [if_neg h1]
      by_cases h2 : okLit l = true ∧ x.lit = -l
      · rw [if_pos h2]
      · rw [if_neg h2]
        have her : e ∈ r := by rcases List.mem_cons.1 he with rfl | h; exact (h2 ⟨hl, hel⟩).elim; exact h
        exact ih h'.2 ⟨e, her, hel⟩
theorem val_tru {E : List Ent} {l : Int} (h : value E l = 1) : tru E l := by
  induction E with
  | nil => cases h
  | cons x r ih =>
    unfold value at h
    split at h
    · rename_i h1; exact ⟨x, by simp, h1⟩
    · split at h
      · cases h
      · obtain ⟨e, he, hel⟩ := ih h; exact ⟨e, by simp [he], hel⟩
theorem val_fls {E : List Ent} {l : Int} (h : value E l = -1) : tru E (-l) := by
  induction E with
  | nil => cases h
  | cons x r ih =>
    unfold value at h
    split at h
    · cases h
    · split at h
      · rename_i h1; exact ⟨x, by simp, h1.2⟩
      · obtain ⟨e, he, hel⟩ := ih h; exact ⟨e, by simp [he], hel⟩
theorem tru.mono {E G : List Ent} {x : Int} (h : tru E x) : tru (E ++ G) x := by obtain ⟨e, h1, h2⟩ := h; exact ⟨e, List.mem_append_left _ h1, h2⟩
theorem truL.mono {E G : List Ent} {L : Nat} {x : Int} (h : truL E L x) : truL (E ++ G) L x := by obtain ⟨e, h1, h2⟩ := h; exact ⟨e, List.mem_append_left _ h1, h2⟩
theorem truL.tru {E : List Ent} {L : Nat} {x : Int} (h : truL E L x) : tru E x := by obtain ⟨e, h1, _, h2⟩ := h; exact ⟨e, h1, h2⟩
theorem truL.sub {E E' : List Ent} {L : Nat} {x : Int} (h : truL E L x) (hs : ∀ e ∈ E, e ∈ E') : truL E' L x := by obtain ⟨e, h1, h2⟩ := h; exact ⟨e, hs e h1, h2⟩
theorem tru.lev {E : List Ent} {D : Nat} {x : Int} (h : tru E x) (hD : ∀ e ∈ E, e.lev ≤ D) : truL E D x := by obtain ⟨e, h1, h2⟩ := h; exact ⟨e, h1, hD e h1, h2⟩
theorem not_both {E : List Ent} (h : E.Pairwise fun x y => var x.lit ≠ var y.lit) {x : Int} (hl : okLit x = true) (h1 : tru E x) (h2 : tru E (-x)) : False := by
  have a := tru_val h hl h1
  have b := fls_val h hl h2
  rw [a] at b
  omega
theorem val_zero {n D : Nat} {E : List Ent} (h : Inv n D E) {x : Int} (hl : okLit x = true) (hv : value E x = 0) : find E (var x) = none := by
  have := value_mark h x hl
  rw [hv] at this
  refine mark_zero.1 ?_
  split at this <;> omega

structure Cls where
  lits : List Int
  on : Bool
  idle : Bool
structure St where
  n : Nat
  D : Nat
  E : List Ent
  C : List Cls
  W : List (List Nat)
  F : List Nat
  Y : List (Nat × Nat)
  h : Nat
def pl (x : Int) : Nat := (Lit.place x).toNat
theorem place_var {x : Int} (hl : okLit x = true) : Lit.place x = if x < 0 then 2 * (var x : Int) + 1 else 2 * (var x : Int) := by
  have h := okLit_iff.1 hl
  rw [Lit.place_one (by rw [one_ok]; exact hl), var_ok hl]
  split <;> omega
theorem pl_lt {x : Int} {n : Nat} (hl : okLit x = true) (hn : var x ≤ n) : pl x < 2 * n + 2 := by
  unfold pl
  rw [place_var hl]
  split <;> omega
theorem pl_int {x : Int} (hl : okLit x = true) : Lit.place x = (pl x : Int) := by
  unfold pl
  rw [place_var hl]
  split <;> omega
theorem pl_inj {x y : Int} (hx : okLit x = true) (hy : okLit y = true) (h : pl x = pl y) : x = y :=
  Lit.place_inj (by rw [one_ok]; exact hx) (by rw [one_ok]; exact hy) (by rw [pl_int hx, pl_int hy, h])
def wAt (W : List (List Nat)) (x : Int) : List Nat := W.getD (pl x) []
def wSet (W : List (List Nat)) (x : Int) (L : List Nat) : List (List Nat) := W.set (pl x) L
theorem wAt_set {W : List (List Nat)} {x y : Int} {L : List Nat} (hx : pl x < W.length) (h1 : okLit x = true) (h2 : okLit y = true) : wAt (wSet W x L) y = if x = y then L else wAt W y := by
  unfold wAt wSet
  rw [List.getD_eq_getElem?_getD, List.getElem?_set, List.getD_eq_getElem?_getD]
  by_cases h : x = y
  · subst h; rw [if_pos rfl, if_pos rfl, if_pos hx]; rfl
  · rw [if_neg (fun e => h (pl_inj h1 h2 e)), if_neg h]

def wOK (E : List Ent) (h L : Nat) (c : List Int) : Prop := (c.length ≤ 1 → ∃ y ∈ c, truL E L y) ∧ ∀ x ∈ c.take 2, truL (E.take h) L (-x) → ∃ y ∈ c, truL E L y
def qOK (E : List Ent) (h L : Nat) (c : List Int) : Prop := ∀ x ∈ c.take 2, truL (E.take h) L (-x) → (∃ y ∈ c, truL E L y) ∨ ∃ z, ∀ y ∈ c, y ≠ z → truL E L (-y)

structure Good (S : Nat → Prop) (s : St) : Prop where
  inv : Inv s.n s.D s.E
  hd : s.h ≤ s.E.length
  wl : s.W.length = 2 * s.n + 2
  cl : ∀ c ∈ s.C, (∀ x ∈ c.lits, okLit x = true ∧ var x ≤ s.n) ∧ c.lits.Nodup ∧ (c.idle = true ↔ ∃ x ∈ c.lits, -x ∈ c.lits)
  fr : ∀ id ∈ s.F, ∃ c, s.C[id]? = some c ∧ c.idle = false
  yo : ∀ p ∈ s.Y, p.2 ≤ s.D ∧ ∃ c, s.C[p.1]? = some c ∧ c.idle = false
  lvl : ∀ k, k ≤ s.D → k ≤ (upto s.E k).length
  deep : S s.D
  late : ∀ e ∈ s.E.drop s.h, ∀ L, S L → e.lev ≤ L → s.D ≤ L
  wat : ∀ (id : Nat) c, s.C[id]? = some c → c.on = true → c.idle = false → ∀ x ∈ c.lits.take 2, id ∈ wAt s.W x
  own : ∀ x, okLit x = true → var x ≤ s.n → ∀ id ∈ wAt s.W x, ∃ c, s.C[id]? = some c ∧ c.idle = false ∧ x ∈ c.lits.take 2
  nod : ∀ x, okLit x = true → var x ≤ s.n → (wAt s.W x).Nodup
  p : ∀ L, S L → L ≤ s.D → ∀ (id : Nat) c, s.C[id]? = some c → c.on = true → c.idle = false → id ∈ s.F ∨ (∃ k, L < k ∧ (id, k) ∈ s.Y) ∨ wOK s.E s.h L c.lits
  q : ∀ L, S L → L ≤ s.D → ∀ (id : Nat) c, s.C[id]? = some c → c.on = true → c.idle = false → qOK s.E s.h L c.lits
  why : ∀ (i : Nat) e, s.E[i]? = some e → e.rea = -1 ∨ ∃ (id : Nat) (c : Cls), e.rea = (id : Int) ∧ s.C[id]? = some c ∧ c.on = true ∧ c.idle = false ∧ e.lit ∈ c.lits ∧ ∀ y ∈ c.lits, y ≠ e.lit → tru (s.E.take i) (-y)

section
variable {S : Nat → Prop} {s : St}

theorem Good.val1 (hg : Good S s) {x : Int} (hl : okLit x = true) : value s.E x = 1 ↔ tru s.E x := ⟨val_tru, tru_val hg.inv.once hl⟩
theorem Good.valn (hg : Good S s) {x : Int} (hl : okLit x = true) : value s.E x = -1 ↔ tru s.E (-x) := ⟨val_fls, fls_val hg.inv.once hl⟩
theorem Good.levs (hg : Good S s) : ∀ e ∈ s.E, e.lev ≤ s.D := fun e he => (hg.inv.ok e he).2.2
theorem Good.deepLe (hg : Good S s) : s.D ≤ s.E.length ∧ s.D ≤ 262144 ∧ s.E.length ≤ s.n ∧ s.n ≤ 262144 := by
  have h1 := hg.lvl s.D (Nat.le_refl _)
  have h2 := cnt_le s.E s.D
  have h3 : (upto s.E s.D).length = cnt s.E s.D := rfl
  have h4 := hg.inv.len
  have h5 := hg.inv.vars
  omega
theorem Good.id_lt (hg : Good S s) {x : Int} (h1 : okLit x = true) (h2 : var x ≤ s.n) : ∀ id ∈ wAt s.W x, id < s.C.length := fun id h => by
  obtain ⟨c, hc, _⟩ := hg.own x h1 h2 id h
  exact (List.getElem?_eq_some_iff.1 hc).1

theorem Good.weaken (hg : Good S s) {S' : Nat → Prop} (h : ∀ L, S' L → S L) (hD : S' s.D) : Good S' s :=
  { hg with deep := hD, late := fun e he L hL => hg.late e he L (h L hL), p := fun L hL => hg.p L (h L hL), q := fun L hL => hg.q L (h L hL) }

/-- A literal is set. -/
def put (s : St) (x : Int) (r : Int) : St := { s with E := s.E ++ [⟨x, s.D, r⟩] }
theorem wOK.put {E : List Ent} {h L : Nat} {c : List Int} {e : Ent} (hh : h ≤ E.length) (k : wOK E h L c) : wOK (E ++ [e]) h L c := by
  refine ⟨fun h1 => ?_, fun x hx hv => ?_⟩
  · obtain ⟨y, h2, h3⟩ := k.1 h1; exact ⟨y, h2, h3.mono⟩
  · rw [List.take_append_of_le_length hh] at hv
    obtain ⟨y, h2, h3⟩ := k.2 x hx hv; exact ⟨y, h2, h3.mono⟩
theorem qOK.put {E : List Ent} {h L : Nat} {c : List Int} {e : Ent} (hh : h ≤ E.length) (k : qOK E h L c) : qOK (E ++ [e]) h L c := by
  intro x hx hv
  rw [List.take_append_of_le_length hh] at hv
  rcases k x hx hv with ⟨y, h2, h3⟩ | ⟨z, h2⟩
  · exact .inl ⟨y, h2, h3.mono⟩
  · exact .inr ⟨z, fun y hy hz => (h2 y hy hz).mono⟩
theorem why_put {E : List Ent} {C : List Cls} {e0 : Ent} (h : ∀ (i : Nat) e, E[i]? = some e → e.rea = -1 ∨ ∃ (id : Nat) (c : Cls), e.rea = (id : Int) ∧ C[id]? = some c ∧ c.on = true ∧ c.idle = false ∧ e.lit ∈ c.lits ∧ ∀ y ∈ c.lits, y ≠ e.lit → tru (E.take i) (-y))
    (h0 : e0.rea = -1 ∨ ∃ (id : Nat) (c : Cls), e0.rea = (id : Int) ∧ C[id]? = some c ∧ c.on = true ∧ c.idle = false ∧ e0.lit ∈ c.lits ∧ ∀ y ∈ c.lits, y ≠ e0.lit → tru E (-y)) :
    ∀ (i : Nat) e, (E ++ [e0])[i]? = some e → e.rea = -1 ∨ ∃ (id : Nat) (c : Cls), e.rea = (id : Int) ∧ C[id]? = some c ∧ c.on = true ∧ c.idle = false ∧ e.lit ∈ c.lits ∧ ∀ y ∈ c.lits, y ≠ e.lit → tru ((E ++ [e0]).take i) (-y) := by
  intro i e he
  rcases Nat.lt_or_ge i E.length with hi | hi
  · rw [List.getElem?_append_left hi] at he
    rw [List.take_append_of_le_length (by omega)]
    exact h i e he
  · rw [List.getElem?_append_right hi] at he
    have hi2 : i = E.length := by
      have := (List.getElem?_eq_some_iff.1 he).1
      simp at this; omega
    subst hi2
    rw [Nat.sub_self] at he
    simp at he
    subst he
    rw [List.take_left]
    exact h0
theorem Good.put (hg : Good S s) {x : Int} {id : Nat} {c : Cls} (hl : okLit x = true) (hn : var x ≤ s.n) (hv : value s.E x = 0) (hc : s.C[id]? = some c) (ho : c.on = true) (hi : c.idle = false) (hx : x ∈ c.lits) (hr : ∀ y ∈ c.lits, y ≠ x → tru s.E (-y)) : Good S (put s x id) where
  inv := hg.inv.set hl hn (val_zero hg.inv hl hv)
  hd := by show s.h ≤ (s.E ++ [_]).length; rw [List.length_append]; have := hg.hd; omega
  wl := hg.wl
  cl := hg.cl
  fr := hg.fr
  yo := hg.yo
  lvl := fun k hk => by
    have := hg.lvl k hk
    show k ≤ (upto (s.E ++ [_]) k).length
    unfold upto at this ⊢
    rw [List.filter_append, List.length_append]; omega
  deep := hg.deep
  late := by
    intro e he L hL hle
    have he' : e ∈ (s.E ++ [(⟨x, s.D, id⟩ : Ent)]).drop s.h := he
    rw [List.drop_append_of_le_length hg.hd, List.mem_append, List.mem_singleton] at he'
    rcases he' with he' | rfl
    · exact hg.late e he' L hL hle
    · exact hle
  wat := hg.wat
  own := hg.own
  nod := hg.nod
  p := fun L hL hD i k h1 h2 h3 => (hg.p L hL hD i k h1 h2 h3).imp (fun h => h) (Or.imp (fun h => h) fun h => h.put hg.hd)
  q := fun L hL hD i k h1 h2 h3 => (hg.q L hL hD i k h1 h2 h3).put hg.hd
  why := why_put hg.why (.inr ⟨id, c, rfl, hc, ho, hi, hx, hr⟩)

/-- A clause must be looked at again, when one goes back. -/
def again (s : St) (id : Nat) : St := { s with Y := if 0 < s.D then s.Y ++ [(id, s.D)] else s.Y }
theorem again_mem {s : St} {id : Nat} {p : Nat × Nat} (h : p ∈ s.Y) : p ∈ (again s id).Y := by
  unfold again; simp only []; split
  · exact List.mem_append_left _ h
  · exact h
theorem again_in {s : St} {id : Nat} {p : Nat × Nat} (h : p ∈ (again s id).Y) : p ∈ s.Y ∨ p = (id, s.D) := by
  unfold again at h; simp only [] at h; split at h
  · rw [List.mem_append, List.mem_singleton] at h; exact h
  · exact .inl h
theorem Good.again (hg : Good S s) {id : Nat} {c : Cls} (hc : s.C[id]? = some c) (hi : c.idle = false) : Good S (again s id) :=
  { hg with
    yo := fun p hp => by
      rcases again_in hp with h | rfl
      · exact hg.yo p h
      · exact ⟨Nat.le_refl _, c, hc, hi⟩
    p := fun L hL hD i k h1 h2 h3 => (hg.p L hL hD i k h1 h2 h3).imp (fun h => h) (Or.imp (fun ⟨k, h1, h2⟩ => ⟨k, h1, again_mem h2⟩) fun h => h) }

/-- The first clause that must be looked at was looked at. -/
def next (s : St) (id : Nat) (r : List Nat) : St := again { s with F := r } id
theorem Good.next (hg : Good S s) {id : Nat} {r : List Nat} (hF : s.F = id :: r) (h : ∀ c, s.C[id]? = some c → c.on = true → c.idle = false → wOK s.E s.h s.D c.lits) : Good S (next s id r) := by
  obtain ⟨c, hc, hi⟩ := hg.fr id (by rw [hF]; simp)
  exact
  { hg with
    fr := fun i hi => hg.fr i (by rw [hF]; exact List.mem_cons_of_mem _ hi)
    yo := fun p hp => by
      rcases again_in hp with h | rfl
      · exact hg.yo p h
      · exact ⟨Nat.le_refl _, c, hc, hi⟩
    p := fun L hL hD i k h1 h2 h3 => by
      have hD' : L ≤ s.D := hD
      rcases hg.p L hL hD i k h1 h2 h3 with hf | ⟨k, h4, h5⟩ | hw
      · rw [hF] at hf
        rcases List.mem_cons.1 hf with rfl | hf
        · rcases Nat.lt_or_ge L s.D with hlt | hge
          · refine .inr (.inl ⟨s.D, hlt, ?_⟩)
            show (i, s.D) ∈ (Watch.again { s with F := r } i).Y
            unfold Watch.again
            simp only []
            rw [if_pos (by omega)]
            exact List.mem_append_right _ (by simp)
          · obtain rfl : L = s.D := by omega
            exact .inr (.inr (h k h1 h2 h3))
        · exact .inl hf
      · exact .inr (.inl ⟨k, h4, again_mem (s := { s with F := r }) h5⟩)
      · exact .inr (.inr hw) }

/-! A clause is looked at as a whole. -/
theorem Good.settle_true (hg : Good S s) {c : List Int} {y : Int} (hy : y ∈ c) (ht : tru s.E y) : wOK s.E s.h s.D c :=
  ⟨fun _ => ⟨y, hy, ht.lev hg.levs⟩, fun _ _ _ => ⟨y, hy, ht.lev hg.levs⟩⟩
theorem Good.settle_many (hg : Good S s) {id : Nat} {c : Cls} (hc : s.C[id]? = some c) (ho : c.on = true) (hi : c.idle = false) {a b : Int} (ha : a ∈ c.lits) (hb : b ∈ c.lits) (hab : a ≠ b)
    (h0 : ∀ y ∈ c.lits, ¬ tru s.E y) (h1 : ¬ tru s.E (-a)) (h2 : ¬ tru s.E (-b)) : wOK s.E s.h s.D c.lits := by
  refine ⟨fun hlen => ?_, fun x hx hv => ?_⟩
  · exfalso
    match hl : c.lits, hlen with
    | [], _ => rw [hl] at ha; cases ha
    | [u], _ => rw [hl, List.mem_singleton] at ha hb; exact hab (by rw [ha, hb])
  · rcases hg.q s.D hg.deep (Nat.le_refl _) id c hc ho hi x hx hv with h | ⟨z, hz⟩
    · exact h
    · exfalso
      by_cases haz : a = z
      · exact h2 (hz b hb (by rw [← haz]; exact hab.symm)).tru
      · exact h1 (hz a ha haz).tru

/-! A clause's literals in another order; who watches. -/
def relit (s : St) (id : Nat) (c : Cls) (lits : List Int) (W : List (List Nat)) : St := { s with C := s.C.set id { c with lits := lits }, W := W }
theorem getC_set {C : List Cls} {id i : Nat} {c k : Cls} (h : (C.set id c)[i]? = some k) : (i = id ∧ k = c ∧ id < C.length) ∨ (i ≠ id ∧ C[i]? = some k) := by
  rw [List.getElem?_set] at h
  by_cases e : id = i
  · subst e
    rw [if_pos rfl] at h
    split at h
    · rename_i hl; cases h; exact .inl ⟨rfl, rfl, hl⟩
    · cases h
  · rw [if_neg e] at h
    exact .inr ⟨fun h => e h.symm, h⟩
theorem setC_get {C : List Cls} {id i : Nat} {c c' k : Cls} (hc : C[id]? = some c) (h : C[i]? = some k) : (C.set id c')[i]? = some (if i = id then c' else k) := by
  have hl := (List.getElem?_eq_some_iff.1 hc).1
  rw [List.getElem?_set]
  by_cases e : id = i
  · subst e; rw [if_pos rfl, if_pos hl, if_pos rfl]
  · rw [if_neg e, if_neg (fun h => e h.symm), h]
theorem Good.relit (hg : Good S s) {id : Nat} {c : Cls} {lits : List Int} {W : List (List Nat)} (hc : s.C[id]? = some c) (hp : lits.Perm c.lits) (hW : W.length = 2 * s.n + 2)
    (hnew : ∀ x ∈ lits.take 2, x ∈ c.lits.take 2 ∨ ¬ tru s.E (-x))
    (wat : ∀ (i : Nat) k, s.C[i]? = some k → k.on = true → k.idle = false → ∀ x ∈ (if i = id then lits else k.lits).take 2, i ∈ wAt W x)
    (own : ∀ x, okLit x = true → var x ≤ s.n → ∀ i ∈ wAt W x, ∃ k, s.C[i]? = some k ∧ k.idle = false ∧ x ∈ (if i = id then lits else k.lits).take 2)
    (nod : ∀ x, okLit x = true → var x ≤ s.n → (wAt W x).Nodup) : Good S (relit s id c lits W) := by
  have ww : ∀ {L : Nat}, wOK s.E s.h L c.lits → wOK s.E s.h L lits := by
    intro L h
    refine ⟨fun hl => ?_, fun x hx hv => ?_⟩
    · obtain ⟨y, h1, h2⟩ := h.1 (by rw [← hp.length_eq]; exact hl); exact ⟨y, hp.mem_iff.2 h1, h2⟩
    · rcases hnew x hx with h1 | h1
      · obtain ⟨y, h2, h3⟩ := h.2 x h1 hv; exact ⟨y, hp.mem_iff.2 h2, h3⟩
      · exact (h1 (hv.sub fun e he => List.mem_of_mem_take he).tru).elim
  have qq : ∀ {L : Nat}, qOK s.E s.h L c.lits → qOK s.E s.h L lits := by
    intro L h x hx hv
    rcases hnew x hx with h1 | h1
    · rcases h x h1 hv with ⟨y, h2, h3⟩ | ⟨z, h2⟩
      · exact .inl ⟨y, hp.mem_iff.2 h2, h3⟩
      · exact .inr ⟨z, fun y hy => h2 y (hp.mem_iff.1 hy)⟩
    · exact (h1 (hv.sub fun e he => List.mem_of_mem_take he).tru).elim
  refine
  { inv := hg.inv, hd := hg.hd, wl := hW, lvl := hg.lvl, deep := hg.deep, late := hg.late, nod := nod, cl := ?_, fr := ?_, yo := ?_, wat := ?_, own := ?_, p := ?_, q := ?_, why := ?_ }
  · intro k hk
    obtain ⟨i, hi⟩ := List.getElem?_of_mem hk
    rcases getC_set hi with ⟨_, rfl, _⟩ | ⟨_, h1⟩
    · obtain ⟨h2, h3, h4⟩ := hg.cl c (List.mem_of_getElem? hc)
      refine ⟨fun x hx => h2 x (hp.mem_iff.1 hx), hp.nodup_iff.2 h3, ?_⟩
      show c.idle = true ↔ _
      rw [h4]
      exact ⟨fun ⟨x, a, b⟩ => ⟨x, hp.mem_iff.2 a, hp.mem_iff.2 b⟩, fun ⟨x, a, b⟩ => ⟨x, hp.mem_iff.1 a, hp.mem_iff.1 b⟩⟩
    · exact hg.cl k (List.mem_of_getElem? h1)
  · intro i hi
    obtain ⟨k, h1, h2⟩ := hg.fr i hi
    refine ⟨_, setC_get hc h1, ?_⟩
    split
    · rename_i e; subst e; rw [hc] at h1; cases h1; exact h2
    · exact h2
  · intro i hi
    obtain ⟨h0, k, h1, h2⟩ := hg.yo i hi
    refine ⟨h0, _, setC_get hc h1, ?_⟩
    split
    · rename_i e; rw [e, hc] at h1; cases h1; exact h2
    · exact h2
  · intro i k hk h1 h2 x hx
    rcases getC_set hk with ⟨rfl, rfl, _⟩ | ⟨hne, h3⟩
    · exact wat i c hc h1 h2 x (by rw [if_pos rfl]; exact hx)
    · exact wat i k h3 h1 h2 x (by rw [if_neg hne]; exact hx)
  · intro x h1 h2 i hi
    obtain ⟨k, h3, h4, h5⟩ := own x h1 h2 i hi
    refine ⟨_, setC_get hc h3, ?_, ?_⟩
    · split
      · rename_i e; subst e; rw [hc] at h3; cases h3; exact h4
      · exact h4
    · split
      · rename_i e; rw [if_pos e] at h5; exact h5
      · rename_i e; rw [if_neg e] at h5; exact h5
  · intro L hL hD i k hk h1 h2
    rcases getC_set hk with ⟨rfl, rfl, _⟩ | ⟨hne, h3⟩
    · exact (hg.p L hL hD i c hc h1 h2).imp (fun h => h) (Or.imp (fun h => h) ww)
    · exact hg.p L hL hD i k h3 h1 h2
  · intro L hL hD i k hk h1 h2
    rcases getC_set hk with ⟨rfl, rfl, _⟩ | ⟨hne, h3⟩
    · exact qq (hg.q L hL hD i c hc h1 h2)
    · exact hg.q L hL hD i k h3 h1 h2
  · intro i e he
    rcases hg.why i e he with h | ⟨j, k, h1, h2, h3, h4, h5, h6⟩
    · exact .inl h
    · refine .inr ⟨j, _, h1, setC_get hc h2, ?_⟩
      split
      · rename_i ej; subst ej; rw [hc] at h2; cases h2
        exact ⟨h3, h4, hp.mem_iff.2 h5, fun y hy => h6 y (hp.mem_iff.1 hy)⟩
      · exact ⟨h3, h4, h5, h6⟩
end
end Go.Watch
