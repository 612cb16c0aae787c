/- An engine and its clauses, as the laws of learning go on with them. -/
import Derived.Test.YtajllmlgihbdhaaLearnV
import Derived.Test.YtajllmlgihbdhaaLearnQ
set_option linter.unusedVariables false
set_option linter.unusedSimpArgs false
namespace Go.Watch
open Go.Trail
theorem back_sum (s : St) (k i : Nat) : (backF s k i).length + (backY s k i).length ≤ s.F.length + s.Y.length := by
  unfold backF backY
  rw [List.length_append, List.length_map]
  have h : ∀ l : List (Nat × Nat), (l.filter (lateP k)).length + (l.filter fun p => !lateP k p).length = l.length := by
    intro l
    induction l with
    | nil => rfl
    | cons p l ih =>
      cases hp : lateP k p
      · simp [List.filter_cons, hp]; omega
      · simp [List.filter_cons, hp]; omega
  have := h (s.Y.take i)
  rw [List.length_take] at this
  omega
section
variable {S : Nat → Prop} {s s' : St} {n k m : Nat} {L C : List (List Int)} {Δ : Int → Prop}
theorem Has.self (h : Has S s n L Δ m) : Has S s n L (Dec s) m := { h with dec := fun _ => Iff.rfl }
theorem Has.yOk (h : Has S s n L Δ m) (hL : L.length ≤ 1000000) : ∀ p ∈ s.Y, p.1 ≤ 1048576 ∧ p.2 ≤ 1000000 := by
  intro p hp
  obtain ⟨h1, c, h2, _⟩ := h.good.yo p hp
  have h3 := (List.getElem?_eq_some_iff.1 h2).1
  have h4 := h.len
  have h5 := h.good.deepLe
  omega

/-- An engine of n variables that has the clauses C (as the laws keep them). -/
structure Tut (s : St) (n : Nat) (C : List (List Int)) (k m : Nat) : Prop where
  has : ∃ L, Has (fun _ => True) s n L (Dec s) m ∧ L.length ≤ k ∧ ∀ c, GamL L c ↔ GamL C c
  fit : FitC n C
  dp : Dp s.E
theorem Tut.good (h : Tut s n C k m) : Good (fun _ => True) s := by obtain ⟨L, h1, _⟩ := h.has; exact h1.good
theorem Tut.vars (h : Tut s n C k m) : s.n = n := by obtain ⟨L, h1, _⟩ := h.has; exact h1.n
theorem Tut.gam (h : Tut s n C k m) (c : List Int) : Gam s c ↔ GamL C c := by obtain ⟨L, h1, _, h2⟩ := h.has; exact (h1.gam c).trans (h2 c)
theorem Tut.few (h : Tut s n C k m) : s.C.length ≤ k ∧ s.F.length + s.Y.length ≤ m := by obtain ⟨L, h1, h2, _⟩ := h.has; exact ⟨by rw [h1.len]; exact h2, h1.few⟩
theorem Tut.lits (h : Tut s n C k m) : ∀ c ∈ s.C, c.lits.length ≤ 1000000 := fun c hc => Nat.le_trans (h.good.lits_few hc) (by decide)
theorem Tut.mono (h : Tut s n C k m) {k' m' : Nat} (hk : k ≤ k') (hm : m ≤ m') : Tut s n C k' m' := by
  obtain ⟨⟨L, h1, h2, h3⟩, h4, h5⟩ := h
  exact ⟨⟨L, { h1 with few := Nat.le_trans h1.few hm }, Nat.le_trans h2 hk, h3⟩, h4, h5⟩
theorem Tut.new (hn : n ≤ 262144) : Tut (st0 n) n [] 0 0 :=
  ⟨⟨[], (Has.new hn trivial).self, Nat.le_refl _, fun _ => Iff.rfl⟩, fun k hk => (by cases hk), Dp.nil⟩
theorem gamL_snoc {L : List (List Int)} {k c : List Int} : GamL (L ++ [k]) c ↔ GamL L c ∨ (Lit.bothB k = false ∧ ∀ x, x ∈ c ↔ x ∈ k) := by
  unfold GamL
  constructor
  · rintro ⟨j, hj, h⟩
    rw [List.mem_append, List.mem_singleton] at hj
    rcases hj with hj | rfl
    · exact .inl ⟨j, hj, h⟩
    · exact .inr h
  · rintro (⟨j, hj, h⟩ | h)
    · exact ⟨j, List.mem_append_left _ hj, h⟩
    · exact ⟨k, by simp, h⟩
theorem fit_one {xs : List Int} (hf : fitB n xs = true) : ∀ x ∈ xs, FitV n x := by
  intro x hx
  obtain ⟨h1, h2⟩ := fitB_iff.1 hf x hx
  have h1' : okLit x = true := by rw [← one_ok]; exact h1
  rw [var_ok h1'] at h2
  have := okLit_iff.1 h1'
  exact ⟨by omega, h2⟩
theorem bothB_clean {xs own : List Int} (h : Lit.Clean xs own) : Lit.bothB own = Lit.bothB xs := by
  rw [Bool.eq_iff_iff, Lit.bothB_iff, Lit.bothB_iff]
  exact ⟨fun ⟨x, a, b⟩ => ⟨x, (h.mem x).1 a, (h.mem _).1 b⟩, fun ⟨x, a, b⟩ => ⟨x, (h.mem x).2 a, (h.mem _).2 b⟩⟩
theorem Tut.add {xs own : List Int} (h : Tut s n C k m) (hE : s'.E = s.E) (ha : ∀ L, Has (fun _ => True) s n L (Dec s) m → Has (fun _ => True) s' n (L ++ [xs]) (Dec s) (m + 1)) (hf : fitB n xs = true) (hc : Lit.Clean xs own) :
    Tut s' n (if Lit.bothB xs then C else C ++ [own]) (k + 1) (m + 1) := by
  obtain ⟨⟨L, h1, h2, h3⟩, h4, h5⟩ := h
  refine ⟨⟨L ++ [xs], (ha L h1).self, by rw [List.length_append]; exact Nat.succ_le_succ h2, fun c => ?_⟩, ?_, by rw [hE]; exact h5⟩
  · rw [gamL_snoc, h3]
    cases hb : Lit.bothB xs with
    | true => simp
    | false =>
      rw [if_neg Bool.false_ne_true, gamL_snoc, bothB_clean hc, hb]
      have : (∀ x, x ∈ c ↔ x ∈ xs) ↔ ∀ x, x ∈ c ↔ x ∈ own := ⟨fun h x => (h x).trans (hc.mem x).symm, fun h x => (h x).trans (hc.mem x)⟩
      rw [this]
  · cases hb : Lit.bothB xs with
    | true => exact h4
    | false =>
      rw [if_neg Bool.false_ne_true]
      intro j hj
      rw [List.mem_append, List.mem_singleton] at hj
      rcases hj with hj | rfl
      · exact h4 j hj
      · exact ⟨by rw [bothB_clean hc]; exact hb, fun x hx => fit_one hf x ((hc.mem x).1 hx)⟩
theorem Tut.ext (h : Tut s n C k m) (hg : Good (fun _ => True) s') (x : Ext s s') {m' : Nat} (hm : s'.F.length + s'.Y.length ≤ m') : Tut s' n C k m' := by
  obtain ⟨⟨L, h1, h2, h3⟩, h4, h5⟩ := h
  exact ⟨⟨L, (h1.ext hg x hm).self, h2, h3⟩, h4, h5.ext x⟩
theorem Tut.decide (h : Tut s n C k m) {x : Int} (hH : ∀ L, Has (fun _ => True) s n L (Dec s) m → ∃ Δ, Has (fun _ => True) (decide' s x) n L Δ m) : Tut (decide' s x) n C k m := by
  obtain ⟨⟨L, h1, h2, h3⟩, h4, h5⟩ := h
  obtain ⟨Δ, h6⟩ := hH L h1
  exact ⟨⟨L, h6.self, h2, h3⟩, h4, h5.add h1.good.levs x⟩
theorem Tut.back (h : Tut s n C k m) {j : Nat} (hj : j ≤ s.D) : Tut (Watch.back s j) n C k m ∧ (Watch.back s j).E = upto s.E j ∧ (Watch.back s j).D = j := by
  obtain ⟨⟨L, h1, h2, h3⟩, h4, h5⟩ := h
  have hm := h1.few
  have hs := back_sum s j s.Y.length
  refine ⟨⟨⟨L, ⟨h1.good.back trivial hj, h1.n, fun c => h1.gam c, fun x => Iff.rfl, h1.len, ?_⟩, h2, h3⟩, h4, h5.upto j⟩, rfl, rfl⟩
  rw [back_all]
  show (backF s j s.Y.length).length + (backY s j s.Y.length).length ≤ m
  omega
end
end Go.Watch
namespace Go.Proofs.Ytajllmlgihbdhaa
open Go Go.Vc Go.Watch Go.Lit
open Go.Trail (Ent value find upto okLit litsV)
set_option maxHeartbeats 4000000
set_option maxRecDepth 100000
section
variable {w0 w : World} {l : List Res} {eb : Nat} {s : St} {n k m : Nat} {C : List (List Int)}

theorem tAdd (H : Sep w0 w (engR eb s :: l)) (h : Tut s n C k m) {xs : List Int} {a : Option Addr} {c : Nat} (hs : ∀ {w' : World} {l' : List Res}, Sep w0 w' (l' ++ l) → Src w' a xs.length 1 (xs.map lV)) (hx : xs.length ≤ 35184372087808) (hk : k < 1000000) (hm : m ≤ 100000000) :
    Does Try.prog 9 #[.pointer (some ⟨eb, 0, none⟩), .slice a xs.length c] w fun v w' => (fitB n xs = false ∧ v = .tuple #[.int .i64 0, .int .i64 51] ∧ Sep w0 w' (engR eb s :: l)) ∨
      (fitB n xs = true ∧ ∃ (id : Nat) (s' : St), v = .tuple #[idV id, .int .i64 0] ∧ (∀ own, Lit.Clean xs own → Tut s' n (if Lit.bothB xs then C else C ++ [own]) (k + 1) (m + 1)) ∧ s'.E = s.E ∧ s'.D = s.D ∧ s'.h = s.h ∧ Sep w0 w' (engR eb s' :: l)) := by
  have hfew := h.few
  have hg := h.good
  have hvn := h.vars
  cases hf : fitB n xs with
  | false =>
    refine (eAdd_no H hs hx ?_).mono fun v w' hv => .inl ⟨rfl, hv⟩
    rw [hvn]; exact fitB_no hf
  | true =>
    have hfit := fitB_iff.1 hf
    refine (eAdd H hs hx (fun x hx => (hfit x hx).1) (fun x hx => by rw [hvn]; exact (hfit x hx).2) (by omega) (by omega) hg.wl hg.inv.vars (fun x h1 h2 => by have := hg.wat_few h1 h2; omega)).mono ?_
    rintro v w' ⟨rfl, out, hcl, _, H⟩
    have hE : (addP s (leadP s.E out) (Lit.bothB xs)).E = s.E := by unfold addP; cases Lit.bothB xs <;> rfl
    refine .inr ⟨rfl, _, _, rfl, fun own ho => h.add hE (fun L hL => hL.add hf hcl) hf ho, hE, ?_, ?_, H⟩
    · unfold addP; cases Lit.bothB xs <;> rfl
    · unfold addP; cases Lit.bothB xs <;> rfl

theorem tProp (H : Sep w0 w (engR eb s :: l)) (h : Tut s n C k m) (hm : m + (n + 1) * (k + 1) ≤ 400000000) (hk : k ≤ 1000000) :
    Does Try.prog 13 #[.pointer (some ⟨eb, 0, none⟩)] w fun v w' => ∃ s', Tut s' n C k (m + (n + 1) * (k + 1)) ∧ Ext s s' ∧ Sep w0 w' (engR eb s' :: l) ∧
      ((v = .int .i64 (-1) ∧ s'.F = [] ∧ s'.h = s'.E.length) ∨ ∃ id c, v = idV id ∧ id < k ∧ s'.C[id]? = some c ∧ c.on = true ∧ c.idle = false ∧ ∀ y ∈ c.lits, tru s'.E (-y)) := by
  have hfew := h.few
  have hl : loadS s + s.C.length ≤ m + (n + 1) * (k + 1) := by
    unfold loadS
    rw [h.vars]
    have h1 : (n - s.h) * (s.C.length + 1) ≤ n * (k + 1) := Nat.mul_le_mul (by omega) (by omega)
    rw [Nat.succ_mul]
    omega
  refine (ePropagate H h.good (by omega) (by omega)).mono ?_
  rintro v w' ⟨s', g, x, lo, H, hv⟩
  have h' := h.ext g x (m' := m + (n + 1) * (k + 1)) (by unfold loadS at lo; unfold loadS at hl; omega)
  refine ⟨s', h', x, H, hv.imp id ?_⟩
  rintro ⟨id, c, h1, h2, h3⟩
  have := (List.getElem?_eq_some_iff.1 h2).1
  have := h'.few
  exact ⟨id, c, h1, by omega, h2, h3⟩

theorem tDecide (H : Sep w0 w (engR eb s :: l)) (h : Tut s n C k m) (hc : s.h = s.E.length) {x : Int} :
    Does Try.prog 14 #[.pointer (some ⟨eb, 0, none⟩), lV x] w fun v w' => (v = .int .i64 0 ∧ Tut (Watch.decide' s x) n C k m ∧ Sep w0 w' (engR eb (Watch.decide' s x) :: l)) ∨
      ((∃ z : Int, v = .int .i64 z ∧ z ≠ 0 ∧ -1000 ≤ z ∧ z ≤ 1000) ∧ Sep w0 w' (engR eb s :: l)) := by
  have hd := h.good.deepLe
  have hlate : ∀ e ∈ s.E.drop s.h, ∀ L, (fun _ => True) L → e.lev ≤ L → s.D + 1 ≤ L := by
    intro e he
    rw [hc, List.drop_length] at he
    cases he
  obtain ⟨L0, h0, _⟩ := h.has
  refine (hDecide H h0 (S' := fun _ => True) (by omega) (fun L _ => .inl trivial) trivial hlate).mono ?_
  rintro v w' (⟨rfl, hfr, hok, hH, H⟩ | ⟨hz, _, H⟩)
  · obtain ⟨f1, f2, f3⟩ := free_fit hfr
    refine .inl ⟨rfl, h.decide fun L hL => ⟨_, hL.decide' f1 (by rw [← h.vars]; exact f2) (Trail.value_none h.good.inv f1 f3) (S' := fun _ => True) (fun L _ => .inl trivial) trivial hlate⟩, H⟩
  · exact .inr ⟨hz, H⟩

theorem tBack (H : Sep w0 w (engR eb s :: l)) (h : Tut s n C k m) {j : Nat} (hj : j ≤ s.D) (hk : k ≤ 1000000) (hm : m ≤ 800000000) :
    Does Try.prog 27 #[.pointer (some ⟨eb, 0, none⟩), .int .i64 (j : Int)] w fun v w' => v = .int .i64 0 ∧ Tut (Watch.back s j) n C k m ∧ Sep w0 w' (engR eb (Watch.back s j) :: l) := by
  have hd := h.good.deepLe
  have hfew := h.few
  obtain ⟨L0, h0, hL, _⟩ := h.has
  refine (eBack H hj (by omega) (by omega) h.good.hd (by omega) (h0.yOk (by omega))).mono ?_
  rintro v w' ⟨rfl, H⟩
  exact ⟨rfl, (h.back hj).1, H⟩

/-! How many levels -/
def lvStep (E : List Ent) (acc : List Int) (y : Int) : List Int := if 0 ≤ lvE E (Trail.var y) ∧ lvE E (Trail.var y) ∉ acc then acc ++ [lvE E (Trail.var y)] else acc
def lvs (E : List Ent) (ys : List Int) : List Int := ys.foldl (lvStep E) []
theorem lvs_next {E : List Ent} {ys : List Int} {i : Nat} {y : Int} (h : ys[i]? = some y) : lvs E (ys.take (i + 1)) = lvStep E (lvs E (ys.take i)) y := by
  unfold lvs
  rw [List.take_add_one, h, List.foldl_append]; rfl
theorem lvs_len {E : List Ent} : ∀ {ys : List Int} {i : Nat}, i ≤ ys.length → (lvs E (ys.take i)).length ≤ i
  | ys, 0, _ => by simp [lvs]
  | ys, i + 1, h => by
    have hy : ys[i]? = some ys[i] := List.getElem?_eq_getElem (by omega)
    rw [lvs_next hy]
    have := lvs_len (E := E) (ys := ys) (i := i) (by omega)
    unfold lvStep
    split
    · simp; omega
    · omega
/-- Which levels a map has: how often, too. -/
def LvM (acc : List Int) (f : Int → Option Int) (i : Nat) : Prop := ∀ v, (v ∈ acc → ∃ z : Int, f v = some z ∧ 0 ≤ z ∧ z ≤ i) ∧ (v ∉ acc → f v = none)

theorem lLevels (H : Sep w0 w (engR eb s :: l)) (hg : Watch.Good (fun _ => True) s) {ys : List Int} {a : Option Addr} {c : Nat} (hs : ∀ {w' : World} {l' : List Res}, Sep w0 w' (l' ++ l) → Src w' a ys.length 1 (ys.map lV)) (hm : ys.length ≤ 1000000000) :
    Does Try.prog 20 #[.pointer (some ⟨eb, 0, none⟩), .slice a ys.length c] w fun v w' => v = .int .i64 (lvs s.E ys).length ∧ Sep w0 w' (engR eb s :: l) := by
  have hdl := hg.deepLe
  refine Does_intro tok (Try.call20 _ _) Try.func20 rfl (by rfl) ?_
  (repeat first | refine go ?_ | ((try conv => whnf); (first | (refine St_gate ?_; refine xS ?_) | (refine StN_gate ?_; refine xN ?_)); clear H; intro w H))
  refine Nw_mapD (enc := iI) H ?_
  clear H
  intro mb w H
  rw [plM_nil] at H
  replace H := H.tp 1
  (repeat first | refine go ?_ | ((try conv => whnf); (first | (refine St_gate ?_; refine xS ?_) | (refine StN_gate ?_; refine xN ?_)); clear H; intro w H))
  refine Loop_intro (fun q : Nat × (Int → Option Int) => [(12, .int .i64 (q.1 : Int))]) (fun q w => (q.1 ≤ ys.length ∧ LvM (lvs s.E (ys.take q.1)) q.2 q.1) ∧ Sep w0 w (engR eb s :: mapD mb iI (plM q.2) (lvs s.E (ys.take q.1)).length :: l)) (fun q => ys.length - q.1)
    (0, fun _ => none) ⟨rfl, trivial⟩ ⟨⟨Nat.zero_le _, fun v => ⟨fun h => by simp [lvs] at h, fun _ => rfl⟩⟩, H⟩ ?_
  clear H
  rintro ⟨i, f⟩ w ⟨⟨hi, hf⟩, H⟩
  simp only [] at hi hf H ⊢
  refine Br_dec (fun k1 => ?_) (fun k1 => ?_)
  · have hlt : i < ys.length := by omega
    have hsrc : Src w a ys.length 1 (ys.map lV) := hs (l' := [_, _]) H
    obtain ⟨yb, yo, rfl⟩ := hsrc.addr (by rw [List.length_map]; omega)
    have hyi : ys[i]? = some ys[i] := List.getElem?_eq_getElem hlt
    have hnx := lvs_next (E := s.E) hyi
    generalize ys[i] = y at *
    refine Ix_in i rfl hlt ?_
    refine Ld_src (j := i) hsrc (v := lV y) (by rw [List.getElem?_map, hyi]; rfl) ?_
    clear hsrc
    (repeat first | refine go ?_ | ((try conv => whnf); (first | (refine St_gate ?_; refine xS ?_) | (refine StN_gate ?_; refine xN ?_)); clear H; intro w H))
    refine Draw_intro mixed [0, 1, 2, 3, 4, 5, 6, 7] (by decide +kernel) (fun w _ fd => ?_); replace H := H.fr fd; clear fd
    obtain ⟨r, hr, H⟩ := engOpen H
    (repeat first | refine go ?_ | ((try conv => whnf); (first | (refine St_gate ?_; refine xS ?_) | (refine StN_gate ?_; refine xN ?_)); clear H; intro w H))
    refine Call_of (fVar (x := y) _) ?_
    rintro _ _ ⟨rfl, rfl⟩
    rw [var_var]
    (try conv => whnf)
    (repeat (refine Kept_gate ?_; refine xK ?_))
    (try conv => whnf)
    refine Call_of (sTrailLevel H mm) ?_
    clear H
    rintro _ w ⟨rfl, H⟩
    rw [show (knownOf s.E (Trail.var y : Int)).2.1 = lvE s.E (Trail.var y) from rfl]
    (try conv => whnf)
    (repeat (refine Kept_gate ?_; refine xK ?_))
    replace H := engClose hr H
    have hll := lvs_len (E := s.E) (ys := ys) hi
    generalize lvs s.E (ys.take i) = acc at *
    by_cases h0 : 0 ≤ lvE s.E (Trail.var y)
    · obtain ⟨z, hz1, hz2, hz3⟩ : ∃ z : Int, (plM f (lvE s.E (Trail.var y))).getD (.int .i64 0) = iI z ∧ 0 ≤ z ∧ z ≤ i := by
        by_cases hin : lvE s.E (Trail.var y) ∈ acc
        · obtain ⟨z, h1, h2, h3⟩ := (hf _).1 hin
          exact ⟨z, by unfold plM; rw [h1]; rfl, h2, h3⟩
        · exact ⟨0, by unfold plM; rw [(hf _).2 hin]; rfl, Int.le_refl _, by omega⟩
      (repeat first | refine go ?_ | ((try conv => whnf); (first | (refine St_gate ?_; refine xS ?_) | (refine StN_gate ?_; refine xN ?_)); clear H; intro w H))
      refine Do_lookupD tok keyI H mm rfl rfl (lvE s.E (Trail.var y)) ?_
      rw [if_neg Bool.false_ne_true, hz1]
      (repeat first | refine go ?_ | ((try conv => whnf); (first | (refine St_gate ?_; refine xS ?_) | (refine StN_gate ?_; refine xN ?_)); clear H; intro w H))
      refine DoU_putD iI_inj tok keyI H mm rfl (lvE s.E (Trail.var y)) (iI (z + 1)) ?_
      clear H
      intro w H
      replace H := H _ (by repeat first | exact Upd.head | apply Upd.tail)
      rw [plM_put] at H
      (repeat first | refine go ?_ | ((try conv => whnf); (first | (refine St_gate ?_; refine xS ?_) | (refine StN_gate ?_; refine xN ?_)); clear H; intro w H))
      by_cases hin : lvE s.E (Trail.var y) ∈ acc
      · have e : lvStep s.E acc y = acc := if_neg fun h => h.2 hin
        obtain ⟨z0, h1, h2, h3⟩ := (hf _).1 hin
        rw [if_pos (by unfold plM; rw [h1]; rfl)] at H
        rw [e] at hnx
        refine ⟨(i + 1, putP f (lvE s.E (Trail.var y)) (z + 1)), ⟨congrArg some (vint (by simp)), trivial⟩, ⟨⟨by omega, ?_⟩, ?_⟩, by simp; omega⟩
        · simp only []
          rw [hnx]
          intro v
          unfold putP
          by_cases hv : v = lvE s.E (Trail.var y)
          · rw [if_pos hv]
            exact ⟨fun _ => ⟨z + 1, rfl, by omega, by omega⟩, fun h => (h (hv ▸ hin)).elim⟩
          · rw [if_neg hv]
            exact ⟨fun h => by obtain ⟨u, u1, u2, u3⟩ := (hf v).1 h; exact ⟨u, u1, u2, by omega⟩, (hf v).2⟩
        · simp only []
          rw [hnx]; exact H
      · have e : lvStep s.E acc y = acc ++ [lvE s.E (Trail.var y)] := if_pos ⟨h0, hin⟩
        rw [if_neg (by unfold plM; rw [(hf _).2 hin]; exact Bool.false_ne_true)] at H
        rw [e] at hnx
        refine ⟨(i + 1, putP f (lvE s.E (Trail.var y)) (z + 1)), ⟨congrArg some (vint (by simp)), trivial⟩, ⟨⟨by omega, ?_⟩, ?_⟩, by simp; omega⟩
        · simp only []
          rw [hnx]
          intro v
          unfold putP
          rw [List.mem_append, List.mem_singleton]
          by_cases hv : v = lvE s.E (Trail.var y)
          · rw [if_pos hv]
            exact ⟨fun _ => ⟨z + 1, rfl, by omega, by omega⟩, fun h => (h (.inr hv)).elim⟩
          · rw [if_neg hv]
            refine ⟨fun h => ?_, fun h => (hf v).2 fun h1 => h (.inl h1)⟩
            rcases h with h | h
            · obtain ⟨u, u1, u2, u3⟩ := (hf v).1 h; exact ⟨u, u1, u2, by omega⟩
            · exact (hv h).elim
        · simp only []
          rw [hnx, List.length_append]; exact H
    · have e : lvStep s.E acc y = acc := if_neg fun h => h0 h.1
      rw [e] at hnx
      (repeat first | refine go ?_ | ((try conv => whnf); (first | (refine St_gate ?_; refine xS ?_) | (refine StN_gate ?_; refine xN ?_)); clear H; intro w H))
      refine ⟨(i + 1, f), ⟨congrArg some (vint (by simp)), trivial⟩, ⟨⟨by omega, ?_⟩, ?_⟩, by simp; omega⟩
      · simp only []
        rw [hnx]
        exact fun v => ⟨fun h => by obtain ⟨u, u1, u2, u3⟩ := (hf v).1 h; exact ⟨u, u1, u2, by omega⟩, (hf v).2⟩
      · simp only []
        rw [hnx]; exact H
  · obtain rfl : i = ys.length := by omega
    rw [List.take_length] at H
    (repeat first | refine go ?_ | ((try conv => whnf); (first | (refine St_gate ?_; refine xS ?_) | (refine StN_gate ?_; refine xN ?_)); clear H; intro w H))
    refine DoN_lenD tok rfl H mm rfl ?_
    (repeat first | refine go ?_ | ((try conv => whnf); (first | (refine St_gate ?_; refine xS ?_) | (refine StN_gate ?_; refine xN ?_)); clear H; intro w H))
    exact Ret_in ⟨rfl, H.drop 1 rfl rfl⟩
end
end Go.Proofs.Ytajllmlgihbdhaa
