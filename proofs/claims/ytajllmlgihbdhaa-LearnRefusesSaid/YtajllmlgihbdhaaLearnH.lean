/- The chapter's example; names. -/
import Derived.Test.YtajllmlgihbdhaaLearnG
set_option linter.unusedVariables false
set_option linter.unusedSimpArgs false
namespace Go.Watch
open Go.Trail
section
variable {S : Nat → Prop} {s s1 s2 : St} {n k m k' m' j : Nat} {C : List (List Int)} {c0 R own : List Int} {x top back : Int}
theorem Tut.leads (h : Tut s n C k m) (hL : Learnt s c0 top x R back) (hE : s1.E = upto s.E j) (hj : back = j) (h2 : Tut s2 n (C ++ [own]) k' m') (hown : Lit.Clean (x :: R) own) (hx : Ext s1 s2) (hF : s2.F = []) (hh : s2.h = s2.E.length) : value s2.E x = 1 := by
  have hg := h.good
  have hg2 := h2.good
  have hent := hL.ent hg
  have hgam : Gam s2 (x :: R) := (h2.gam _).2 ⟨own, by simp, by rw [bothB_clean hown]; exact hL.both hg, fun z => (hown.mem z).symm⟩
  have hR : ∀ y ∈ R, tru s2.E (-y) := by
    intro y hy
    obtain ⟨e, he, hel⟩ := (hent y (.tail _ hy)).1
    have h1 := (hg.lv_neg he hel).1
    have h3 := hL.bl y hy
    obtain ⟨G, hG, _⟩ := hx.E
    refine ⟨e, ?_, hel⟩
    rw [hG, hE]
    refine List.mem_append_left _ ?_
    unfold Trail.upto
    exact List.mem_filter.2 ⟨he, by simp; omega⟩
  have hfo : Fo (Gam s2) (Dec s2) x := .cls (c := x :: R) hgam (.head _) fun y hy hne => hg2.tru_fo (hR y (by
    rcases List.mem_cons.1 hy with h | h
    · exact (hne h).elim
    · exact h))
  exact (hg2.val1 (hent x (.head _)).2.1).2 ((hg2.complete hF hh).1 x hfo)

theorem Tut.no_dec (h : Tut s n C k m) (hD : s.D = 0) (y : Int) : ¬ Dec s y := by
  rintro ⟨e, he, hr, _⟩
  have h1 := h.dp.pos e he hr
  have h2 := h.good.levs e he
  omega

/-! The example -/
def exC : List (List Int) := [[1, 2], [1, -2]]
theorem ex_mem {c : List Int} (h : GamL exC c) : ∃ z : Int, (z = 2 ∨ z = -2) ∧ ∀ x, x ∈ c ↔ x = 1 ∨ x = z := by
  obtain ⟨k, hk, _, h3⟩ := h
  simp [exC] at hk
  rcases hk with rfl | rfl
  · exact ⟨2, .inl rfl, fun x => by rw [h3]; simp⟩
  · exact ⟨-2, .inr rfl, fun x => by rw [h3]; simp⟩
theorem ex_none : ∀ x, ¬ Fo (GamL exC) (fun _ => False) x := by
  intro x h
  induction h with
  | dec h => exact h
  | @cls c x hc hx _ ih =>
    obtain ⟨z, hz, hm⟩ := ex_mem hc
    by_cases h1 : x = 1
    · exact ih z ((hm z).2 (.inr rfl)) (by omega)
    · exact ih 1 ((hm 1).2 (.inl rfl)) fun e => h1 e.symm
theorem ex_small : ∀ x, Fo (GamL exC) (fun y => y = -1) x → x = 1 ∨ x = -1 ∨ x = 2 ∨ x = -2 := by
  intro x h
  induction h with
  | dec h => exact .inr (.inl h)
  | @cls c x hc hx _ ih =>
    obtain ⟨z, hz, hm⟩ := ex_mem hc
    have := (hm x).1 hx
    omega
theorem ex_conf : Conf (GamL exC) (fun y => y = -1) := by
  refine ⟨[1, -2], ⟨[1, -2], by simp [exC], by decide, fun x => Iff.rfl⟩, fun y hy => ?_⟩
  simp at hy
  rcases hy with rfl | rfl
  · exact .dec rfl
  · exact .cls (c := [1, 2]) ⟨[1, 2], by simp [exC], by decide, fun x => Iff.rfl⟩ (by simp) fun y hy hne => by
      simp at hy
      rcases hy with rfl | rfl
      · exact .dec rfl
      · exact (hne rfl).elim
theorem ex_two {d : Int} (hd : d = 2 ∨ d = -2) : ¬ Conf (GamL exC) (fun y => y = d) := by
  have h0 : ∀ x, Fo (GamL exC) (fun y => y = d) x → x = d ∨ x = 1 := by
    intro x h
    induction h with
    | dec h => exact .inl h
    | @cls c x hc hx _ ih =>
      obtain ⟨z, hz, hm⟩ := ex_mem hc
      rcases (hm x).1 hx with h | h
      · exact .inr h
      · have := ih 1 ((hm 1).2 (.inl rfl)) (by omega)
        omega
  rintro ⟨c, hc, h⟩
  obtain ⟨z, hz, hm⟩ := ex_mem hc
  have := h0 _ (h 1 ((hm 1).2 (.inl rfl)))
  omega
end
end Go.Watch
namespace Go.Proofs.Ytajllmlgihbdhaa
open Go Go.Vc Go.Watch Go.Lit
open Go.Trail (Ent value find upto okLit litsV)
set_option maxHeartbeats 8000000
set_option maxRecDepth 100000
section
variable {w0 w : World} {l : List Res} {eb pb : Nat} {s : St} {n k m : Nat} {C : List (List Int)} {S : Nat → Prop}

theorem sameH {xs ys : List Int} {a b : Option Addr} {c d : Nat} (H : Sep w0 w l) (hs : Src w a xs.length 1 (xs.map lV)) (ht : Src w b ys.length 1 (ys.map lV)) (hm : xs.length ≤ 9223372036854775807) : Does Try.prog 22 #[.slice a xs.length c, .slice b ys.length d] w fun v w' => v = .bool (decide (xs = ys)) ∧ Sep w0 w' l :=
  (rSame hs ht hm).mono fun _ _ h => ⟨h.1, H.add h.2⟩
/-- Any number is asked for. -/
theorem lAny (H : Sep w0 w (engR eb s :: l)) (h : Tut s n C k m) (hk : k ≤ 1000000) (id : Int) :
    Does Try.prog 10 #[.pointer (some ⟨eb, 0, none⟩), .int .i64 id] w fun v w' =>
      ((∀ (j : Nat) c, id = j → s.C[j]? = some c → c.on = true → noLearn s c.lits) ∧ v = .tuple #[.slice none 0 0, .int .i64 0, .int .i64 61] ∧ Sep w0 w' (engR eb s :: l)) ∨
      ∃ (j : Nat) (c : Cls), id = j ∧ s.C[j]? = some c ∧ c.on = true ∧ ∃ top x R back a k, (∀ y ∈ c.lits, tru s.E (-y)) ∧ v = .tuple #[.slice a (x :: R).length k, .int .i64 back, .int .i64 0] ∧ Learnt s c.lits top x R back ∧ Sep w0 w' (ownR a (x :: R).length k 27 1 ((x :: R).map lV) :: engR eb s :: l) := by
  have hCk := h.few
  by_cases h0 : id < 0
  · refine (lLearn_no H (.inl h0) (by omega)).mono ?_
    rintro v w' ⟨rfl, H⟩
    exact .inl ⟨fun j c hj => by omega, rfl, H⟩
  obtain ⟨j, rfl⟩ : ∃ j : Nat, id = j := ⟨id.toNat, by omega⟩
  cases hj : s.C[j]? with
  | none =>
    have := List.getElem?_eq_none_iff.1 hj
    refine (lLearn_no H (.inr (.inl (by omega))) (by omega)).mono ?_
    rintro v w' ⟨rfl, H⟩
    refine .inl ⟨fun j' c hj' hc => ?_, rfl, H⟩
    obtain rfl : j = j' := by omega
    rw [hj] at hc; cases hc
  | some c =>
    cases ho : c.on with
    | false =>
      refine (lLearn_no H (.inr (.inr ⟨c, by rw [Int.toNat_natCast]; exact hj, ho⟩)) (by omega)).mono ?_
      rintro v w' ⟨rfl, H⟩
      refine .inl ⟨fun j' c' hj' hc ho' => ?_, rfl, H⟩
      obtain rfl : j = j' := by omega
      rw [hj] at hc; cases hc
      rw [ho] at ho'; cases ho'
    | true =>
      refine (lLearn H h.good h.dp hj ho h.lits (by omega)).mono ?_
      rintro v w' (⟨hno, rfl, H⟩ | ⟨top, x, R, back, a, kk, hf, rfl, hL, H⟩)
      · refine .inl ⟨fun j' c' hj' hc ho' => ?_, rfl, H⟩
        obtain rfl : j = j' := by omega
        rw [hj] at hc; cases hc
        exact hno
      · exact .inr ⟨j, c, rfl, hj, ho, top, x, R, back, a, kk, hf, rfl, hL, H⟩
theorem lNone (H : Sep w0 w (engR eb s :: l)) (h : Tut s n C k m) (hk : k ≤ 1000000) (hE : s.E = []) (id : Int) :
    Does Try.prog 10 #[.pointer (some ⟨eb, 0, none⟩), .int .i64 id] w fun v w' => v = .tuple #[.slice none 0 0, .int .i64 0, .int .i64 61] ∧ Sep w0 w' (engR eb s :: l) := by
  refine (lAny H h hk id).mono ?_
  rintro v w' (⟨_, rfl, H⟩ | ⟨j, c, _, _, _, top, x, R, back, a, kk, hf, rfl, hL, H⟩)
  · exact ⟨rfl, H⟩
  · obtain ⟨e, he, _⟩ := (hL.ent h.good x (.head _)).1
    rw [hE] at he; cases he

theorem qAlive (W : World) : Does Try.prog 11 #[] W fun v w' => v = .bool true ∧ Sep W w' [] := by
  refine Does_intro tok (args := []) (Try.call11 _ _) Try.func11 rfl (by rfl) ?_
  have H := Sep.nil W
  (repeat first | refine go ?_ | ((try conv => whnf); (first | (refine St_gate ?_; refine xS ?_) | (refine StN_gate ?_; refine xN ?_)); clear H; intro w H))
  refine Call_of (eNew H 3) ?_
  clear H
  rintro _ w ⟨eb, rfl, H⟩
  have hn : (max 0 (min (3 : Int) 262144)).toNat = 3 := by decide
  rw [hn] at H
  have h := Tut.new (n := 3) (by decide)
  (repeat first | refine go ?_ | ((try conv => whnf); (first | (refine St_gate ?_; refine xS ?_) | (refine StN_gate ?_; refine xN ?_)); clear H; intro w H))
  (refine Nw_sep H ?_; clear H; intro nb w H; (try simp only [Value.cells, List.toList_toArray, List.append_nil, List.cons_append, List.nil_append] at H))
  (repeat first | refine go ?_ | ((try conv => whnf); (first | (refine St_gate ?_; refine xS ?_) | (refine StN_gate ?_; refine xN ?_)); clear H; intro w H))
  replace H := H.tp 1
  refine Call_of (tAdd H h (xs := [1, 2]) (fun h => h.srcCM 2 1 (List.mem_append_right _ (.head _)) rfl (by decide)) (by simp) (by decide) (by decide)) ?_
  clear H
  rintro _ w (⟨hf, _⟩ | ⟨hf, id, s1, rfl, h1, hE1, hD1, hh1, H⟩)
  · exact absurd hf (by decide)
  replace h1 := h1 [1, 2] ⟨by decide, fun x => Iff.rfl⟩
  rw [if_neg (by decide)] at h1
  replace H := H.drop 1 rfl rfl
  clear h
  (repeat first | refine go ?_ | ((try conv => whnf); (first | (refine St_gate ?_; refine xS ?_) | (refine StN_gate ?_; refine xN ?_)); clear H; intro w H))
  (refine Nw_sep H ?_; clear H; intro nb2 w H; (try simp only [Value.cells, List.toList_toArray, List.append_nil, List.cons_append, List.nil_append] at H))
  (repeat first | refine go ?_ | ((try conv => whnf); (first | (refine St_gate ?_; refine xS ?_) | (refine StN_gate ?_; refine xN ?_)); clear H; intro w H))
  replace H := H.tp 1
  refine Call_of (tAdd H h1 (xs := [1, -2]) (fun h => h.srcCM 2 1 (List.mem_append_right _ (.head _)) rfl (by decide)) (by simp) (by decide) (by decide)) ?_
  clear H
  rintro _ w (⟨hf, _⟩ | ⟨hf, id2, s2, rfl, h2, hE2, hD2, hh2, H⟩)
  · exact absurd hf (by decide)
  replace h2 := h2 [1, -2] ⟨by decide, fun x => Iff.rfl⟩
  rw [if_neg (by decide)] at h2
  replace h2 : Tut s2 3 exC 2 2 := h2
  replace H := H.drop 1 rfl rfl
  have hE0 : s2.E = [] := by rw [hE2, hE1]; rfl
  have hD0 : s2.D = 0 := by rw [hD2, hD1]; rfl
  clear hE1 hD1 hh1 hE2 hD2 hh2 h1
  (repeat first | refine go ?_ | ((try conv => whnf); (first | (refine St_gate ?_; refine xS ?_) | (refine StN_gate ?_; refine xN ?_)); clear H; intro w H))
  refine Call_of (tProp H h2 (by decide) (by decide)) ?_
  clear H
  rintro _ w ⟨s3, h3, x3, H, hv⟩
  have hD3 : s3.D = 0 := by rw [x3.D, hD0]
  have hd3 : ∀ x, Dec s3 x ↔ False := fun x => ⟨h3.no_dec hD3 x, False.elim⟩
  have hno3 : ∀ x, ¬ tru s3.E x := fun x hx => ex_none x ((h3.fo_iff hd3 x).1 (h3.good.tru_fo hx))
  obtain ⟨rfl, hF3, hh3⟩ : _ = Value.int .i64 (-1) ∧ s3.F = [] ∧ s3.h = s3.E.length := by
    rcases hv with h | ⟨id, c, _, _, hc, ho, hi, hf⟩
    · exact h
    · exfalso
      obtain ⟨c', hc', hf'⟩ := (h3.conf_iff hd3).1 (h3.good.conf hc ho hi hf)
      obtain ⟨z, _, hm⟩ := ex_mem hc'
      exact ex_none _ (hf' 1 ((hm 1).2 (.inl rfl)))
  have hE3 : s3.E = [] := by
    rw [List.eq_nil_iff_forall_not_mem]
    intro e he
    exact hno3 _ ⟨e, he, rfl⟩
  (repeat first | refine go ?_ | ((try conv => whnf); (first | (refine St_gate ?_; refine xS ?_) | (refine StN_gate ?_; refine xN ?_)); clear H; intro w H))
  have hfr : freeNo s3.n s3.E (-1) = 0 := by rw [h3.vars, hE3]; decide
  refine Call_of (eDecide H (x := -1) (by omega)) ?_
  clear H
  rintro _ w ⟨rfl, H⟩
  rw [hfr, if_pos rfl] at H
  rw [hfr]
  have h4 : Tut (Watch.decide' s3 (-1)) 3 exC 2 _ := h3.decide fun L hL => ⟨_, hL.decide' (by decide) (by decide) (by rw [hE3]; rfl) (S' := fun _ => True) (fun L _ => .inl trivial) trivial (by intro e he; rw [hE3] at he; simp at he)⟩
  have hE4 : (Watch.decide' s3 (-1)).E = [⟨-1, 1, -1⟩] := by
    show s3.E ++ [(⟨-1, s3.D + 1, -1⟩ : Ent)] = _
    rw [hE3, hD3]; rfl
  have hD4 : (Watch.decide' s3 (-1)).D = 1 := by show s3.D + 1 = 1; omega
  (repeat first | refine go ?_ | ((try conv => whnf); (first | (refine St_gate ?_; refine xS ?_) | (refine StN_gate ?_; refine xN ?_)); clear H; intro w H))
  refine Call_of (tProp H h4 (by decide) (by decide)) ?_
  clear H
  rintro _ w ⟨s5, h5, x5, H, hv⟩
  have hg5 := h5.good
  have hD5 : s5.D = 1 := by rw [x5.D, hD4]
  obtain ⟨G, hG, hGl⟩ := x5.E
  rw [hE4] at hG
  have hall : ∀ e ∈ s5.E, e.lev = 1 := by
    intro e he
    rw [hG] at he
    rcases List.mem_append.1 he with he | he
    · rw [List.mem_singleton] at he; rw [he]
    · rw [(hGl e he).1, hD4]
  have he0 : (⟨-1, 1, -1⟩ : Ent) ∈ s5.E := by rw [hG]; simp
  have hd5 : ∀ x, Dec s5 x ↔ x = -1 := by
    intro x
    rw [x5.dec]
    unfold Dec
    rw [hE4]
    simp [eq_comm]
  have hl1 : lvE s5.E (Trail.var 1 : Int) = 1 := (hg5.lv_neg he0 (x := 1) rfl).1
  have hlv : ∀ v : Int, lvE s5.E v = -1 ∨ lvE s5.E v = 1 := by
    intro v
    rcases hg5.lv_range v with ⟨h, _⟩ | ⟨e, he, _, h, _⟩
    · exact .inl h
    · rw [hall e he] at h; exact .inr h
  have hlvs : lvs s5.E [1, 2, 3] = [1] := by
    have e1 : lvStep s5.E [] 1 = [1] := by unfold lvStep; rw [hl1]; rfl
    have e2 : ∀ y, lvStep s5.E [1] y = [1] := by
      intro y
      unfold lvStep
      rcases hlv (Trail.var y) with h | h <;> rw [h] <;> rfl
    show lvStep s5.E (lvStep s5.E (lvStep s5.E [] 1) 2) 3 = [1]
    rw [e1, e2, e2]
  rcases hv with ⟨_, hF5, hh5⟩ | ⟨id, c, rfl, _, hc, ho, hi, hf⟩
  · exact ((hg5.complete hF5 hh5).2 ((h5.conf_iff hd5).2 ex_conf)).elim
  have h1c : (1 : Int) ∈ c.lits := by
    obtain ⟨z, _, hm⟩ := ex_mem ((h5.gam c.lits).1 ⟨c, List.mem_of_getElem? hc, ho, hi, fun x => Iff.rfl⟩)
    exact (hm 1).2 (.inl rfl)
  (repeat first | refine go ?_ | ((try conv => whnf); (first | (refine St_gate ?_; refine xS ?_) | (refine StN_gate ?_; refine xN ?_)); clear H; intro w H))
  refine Call_of (lLearn H hg5 h5.dp hc ho h5.lits (by have := h5.few; omega)) ?_
  clear H
  rintro _ w (⟨hno, _⟩ | ⟨top, x, Q, back, a, kk, _, rfl, hL, H⟩)
  · exfalso
    rcases hno with ⟨z, hz, h⟩ | h
    · exact h (hf z hz)
    · have := h 1 h1c; omega
  have htop : top = 1 := by
    have := hL.ok.pos
    have := hL.top_le hg5
    omega
  subst htop
  obtain rfl : Q = [] := by
    rw [List.eq_nil_iff_forall_not_mem]
    intro y hy
    have := hL.ok.low y hy
    omega
  obtain rfl : back = 0 := by
    rcases hL.bat with h | ⟨y, hy, _⟩
    · exact h
    · cases hy
  obtain rfl : x = 1 := by
    have ht := (hL.ent hg5 x (.head _)).1
    have hx := ex_small _ ((h5.fo_iff hd5 _).1 (hg5.tru_fo ht))
    have hcf := hL.conf
    have hcf2 := (h5.conf_iff (Δ' := fun y => y = -x) (fun y => by unfold Watch.Neg; simp)).1 hcf
    rcases hx with h | h | h | h
    · exfalso
      rw [h] at ht
      exact Watch.not_both hg5.inv.once (x := -1) (by decide) ⟨_, he0, rfl⟩ (by simpa using ht)
    · omega
    · exact (ex_two (.inl h) hcf2).elim
    · exact (ex_two (.inr h) hcf2).elim
  (repeat first | refine go ?_ | ((try conv => whnf); (first | (refine St_gate ?_; refine xS ?_) | (refine StN_gate ?_; refine xN ?_)); clear H; intro w H))
  (refine Nw_sep H ?_; clear H; intro nb3 w H; (try simp only [Value.cells, List.toList_toArray, List.append_nil, List.cons_append, List.nil_append] at H))
  (repeat first | refine go ?_ | ((try conv => whnf); (first | (refine St_gate ?_; refine xS ?_) | (refine StN_gate ?_; refine xN ?_)); clear H; intro w H))
  have hs1 := H.srcM (a := a) (n := 1) (cap := kk) (el := 27) (sz := 1) (xs := [lV 1]) mm
  refine Call_of (sameH (xs := [1]) (ys := [1]) H hs1 (H.srcCM 1 1 (.head _) rfl (by decide)) (by decide)) ?_
  clear H
  rintro _ w ⟨rfl, H⟩
  rw [show decide (([1] : List Int) = [1]) = true from rfl]
  (repeat first | refine go ?_ | ((try conv => whnf); (first | (refine St_gate ?_; refine xS ?_) | (refine StN_gate ?_; refine xN ?_)); clear H; intro w H))
  (refine Nw_sep H ?_; clear H; intro nb4 w H; (try simp only [Value.cells, List.toList_toArray, List.append_nil, List.cons_append, List.nil_append] at H))
  (repeat first | refine go ?_ | ((try conv => whnf); (first | (refine St_gate ?_; refine xS ?_) | (refine StN_gate ?_; refine xN ?_)); clear H; intro w H))
  replace H := H.top 3 rfl rfl
  refine Call_of (lLevels H hg5 (ys := [1, 2, 3]) (fun h => h.srcCM 3 1 (List.mem_append_right _ (.head _)) rfl (by decide)) (by decide)) ?_
  clear H
  rintro _ w ⟨rfl, H⟩
  rw [hlvs]
  (repeat first | refine go ?_ | ((try conv => whnf); (first | (refine St_gate ?_; refine xS ?_) | (refine StN_gate ?_; refine xN ?_)); clear H; intro w H))
  exact Ret_in ⟨rfl, H.all⟩

theorem uNames6 (W : World) : Does Try.prog 3 #[] W fun v w' => v = .bool true ∧ Sep W w' [] := by
  refine Does_intro tok (args := []) (Try.call3 _ _) Try.func3 rfl (by rfl) ?_
  have H := Sep.nil W
  (repeat first | refine go ?_ | ((try conv => whnf); (first | (refine St_gate ?_; refine xS ?_) | (refine StN_gate ?_; refine xN ?_)); clear H; intro w H))
  refine Call_of (eNew H 2) ?_
  clear H
  rintro _ w ⟨eb, rfl, H⟩
  have hn : (max 0 (min (2 : Int) 262144)).toNat = 2 := by decide
  rw [hn] at H
  have h := Tut.new (n := 2) (by decide)
  (repeat first | refine go ?_ | ((try conv => whnf); (first | (refine St_gate ?_; refine xS ?_) | (refine StN_gate ?_; refine xN ?_)); clear H; intro w H))
  (refine Nw_sep H ?_; clear H; intro nb w H; (try simp only [Value.cells, List.toList_toArray, List.append_nil, List.cons_append, List.nil_append] at H))
  (repeat first | refine go ?_ | ((try conv => whnf); (first | (refine St_gate ?_; refine xS ?_) | (refine StN_gate ?_; refine xN ?_)); clear H; intro w H))
  replace H := H.tp 1
  refine Call_of (tAdd H h (xs := [1, 2]) (fun h => h.srcCM 2 1 (List.mem_append_right _ (.head _)) rfl (by decide)) (by simp) (by decide) (by decide)) ?_
  clear H
  rintro _ w (⟨hf, _⟩ | ⟨hf, id, s1, rfl, h1, hE1, hD1, hh1, H⟩)
  · exact absurd hf (by decide)
  replace h1 := h1 [1, 2] ⟨by decide, fun x => Iff.rfl⟩
  have hE1' : s1.E = [] := by rw [hE1]; rfl
  (repeat first | refine go ?_ | ((try conv => whnf); (first | (refine St_gate ?_; refine xS ?_) | (refine StN_gate ?_; refine xN ?_)); clear H; intro w H))
  refine Call_of (lNone H h1 (by decide) hE1' 0) ?_
  clear H
  rintro _ w ⟨rfl, H⟩
  (repeat first | refine go ?_ | ((try conv => whnf); (first | (refine St_gate ?_; refine xS ?_) | (refine StN_gate ?_; refine xN ?_)); clear H; intro w H))
  refine Call_of (lNone H h1 (by decide) hE1' 1) ?_
  clear H
  rintro _ w ⟨rfl, H⟩
  (repeat first | refine go ?_ | ((try conv => whnf); (first | (refine St_gate ?_; refine xS ?_) | (refine StN_gate ?_; refine xN ?_)); clear H; intro w H))
  refine Call_of (tAdd H h1 (xs := []) (a := none) (c := 0) (fun h => ⟨rfl, fun _ _ h => by simp at h⟩) (by simp) (by decide) (by decide)) ?_
  clear H
  rintro _ w (⟨hf, _⟩ | ⟨hf, id2, s2, rfl, h2, hE2, hD2, hh2, H⟩)
  · exact absurd hf (by decide)
  replace h2 := h2 [] ⟨by decide, fun x => Iff.rfl⟩
  have hE2' : s2.E = [] := by rw [hE2, hE1']
  (repeat first | refine go ?_ | ((try conv => whnf); (first | (refine St_gate ?_; refine xS ?_) | (refine StN_gate ?_; refine xN ?_)); clear H; intro w H))
  refine Call_of (lNone H h2 (by decide) hE2' 1) ?_
  clear H
  rintro _ w ⟨rfl, H⟩
  (repeat first | refine go ?_ | ((try conv => whnf); (first | (refine St_gate ?_; refine xS ?_) | (refine StN_gate ?_; refine xN ?_)); clear H; intro w H))
  refine Call_of (qAlive w) ?_
  rintro _ w' ⟨rfl, HH⟩
  replace H := H.add HH
  clear HH
  (repeat first | refine go ?_ | ((try conv => whnf); (first | (refine St_gate ?_; refine xS ?_) | (refine StN_gate ?_; refine xN ?_)); clear H; intro w H))
  exact Ret_in ⟨rfl, H.all⟩
end
end Go.Proofs.Ytajllmlgihbdhaa
