/- Learn: the walk. -/
import Derived.Test.YtcibiidebknkgaaGreatLearnZ
set_option linter.unusedVariables false
set_option linter.unusedSimpArgs false
namespace Go.Watch
open Go.Trail
/-- The greatest level of some literals, from 0 on. -/
structure TopI (E : List Ent) (ys : List Int) (top : Int) : Prop where
  b0 : 0 ≤ top
  le : ∀ y ∈ ys, lvE E (var y) ≤ top
  at' : top = 0 ∨ ∃ y ∈ ys, lvE E (var y) = top
theorem TopI.nil {E : List Ent} : TopI E [] 0 := ⟨Int.le_refl _, by simp, .inl rfl⟩
theorem TopI.next {E : List Ent} {ys : List Int} {top y : Int} (h : TopI E ys top) : TopI E (ys ++ [y]) (max top (lvE E (var y))) := by
  have h0 := h.b0
  refine ⟨by omega, fun z hz => ?_, ?_⟩
  · rw [List.mem_append, List.mem_singleton] at hz
    rcases hz with hz | rfl
    · have := h.le z hz; omega
    · omega
  · rcases Int.le_total (lvE E (var y)) top with h1 | h1
    · rw [Int.max_eq_left h1]
      exact h.at'.imp id fun ⟨z, hz, hv⟩ => ⟨z, List.mem_append_left _ hz, hv⟩
    · rw [Int.max_eq_right h1]
      exact .inr ⟨y, by simp, rfl⟩
section
variable {S : Nat → Prop} {s : St} {top : Int} {c0 out : List Int}
theorem SOk.nil {E : List Ent} (h : 1 ≤ top) : SOk E top [] [] := ⟨by simp, by simp, by simp, by simp, h⟩
theorem Fst.start (hg : Good S s) (ht : TopI s.E out top) (h1 : 1 ≤ top) (hf : ∀ y ∈ out, tru s.E (-y)) (hm : ∀ y, y ∈ out ↔ y ∈ c0) (hok : ∀ y ∈ out, okLit y = true) :
    Fst s c0 top s.E.length (seeL s.E top 0 ([], []) out).1 (seeL s.E top 0 ([], []) out).2 fun _ => False := by
  obtain ⟨a1, a2, a3, a4, a5⟩ := SOk.addL (p := (([] : List Int), ([] : List Int))) (but := 0) (ys := out) (SOk.nil (E := s.E) h1) fun y hy _ => ⟨hf y hy, ht.le y hy⟩
  generalize seeL s.E top 0 ([], []) out = q at *
  have hv : ∀ y ∈ out, (var y : Int) ≠ 0 := fun y hy => by have := var_pos.2 (hok y hy); omega
  refine ⟨a1, fun hq => ?_, fun x hx => ?_, fun v hv => hv.elim, fun y hy => ?_⟩
  · rcases ht.at' with h | ⟨y, hy, hl⟩
    · omega
    · rcases a4 y hy with h | h | ⟨x, hx, hxv⟩
      · exact hv y hy h
      · omega
      · rw [hq, List.nil_append] at hx
        have := (a1.low x hx).2
        rw [hxv] at this
        omega
  · rw [List.take_length]
    exact a1.fls x (List.mem_append_left _ hx)
  · rcases a4 y ((hm y).2 hy) with h | h | h
    · exact (hv y ((hm y).2 hy) h).elim
    · exact .inl h
    · exact .inr (.inl h)
theorem Good.not_idle (hg : Good S s) {id : Nat} {c : Cls} (hc : s.C[id]? = some c) (hf : ∀ y ∈ c.lits, tru s.E (-y)) : c.idle = false := by
  have hcl := hg.cl c (List.mem_of_getElem? hc)
  cases hi : c.idle with
  | false => rfl
  | true =>
    obtain ⟨x, h1, h2⟩ := hcl.2.2.1 hi
    obtain ⟨e, he, hel⟩ := hf x h1
    obtain ⟨g, hge, hgl⟩ := hf _ h2
    have : e = g := hg.same_at he hge (by rw [hel, hgl, Int.neg_neg, var_neg])
    subst this
    have := Trail.okLit_iff.1 (hcl.1 x h1).1
    omega
theorem Sho.learnt (hg : Good S s) (hd : Dp s.E) {id : Nat} {c : Cls} {x back : Int} {R : List Int} {M : Nat → Prop} (h : Sho s c.lits top x R M) (hc : s.C[id]? = some c) (ho : c.on = true) (hf : ∀ y ∈ c.lits, tru s.E (-y))
    (hl : ∀ y ∈ R, needB s [x] R y = false) (ht : TopI s.E out top) (hm : ∀ y, y ∈ out ↔ y ∈ c.lits) (hb : TopI s.E R back) : Learnt s c.lits top x R back := by
  refine ⟨h.ok, cov_conf hg hd h.ok h.cov hc ho (hg.not_idle hc hf) hf h.c0, hl, fun y hy => ht.le y ((hm y).2 hy), ?_, hb.b0, hb.le, hb.at'⟩
  have := h.ok.pos
  rcases ht.at' with h | ⟨y, hy, hv⟩
  · omega
  · exact ⟨y, (hm y).1 hy, hv⟩
end
end Go.Watch
namespace Go.Proofs.YtcibiidebknkgaaGreat
open Go Go.Vc Go.Watch Go.Lit
open Go.Trail (Ent value find upto okLit litsV)
set_option maxHeartbeats 4000000
set_option maxRecDepth 100000
section
variable {w0 w : World} {l : List Res} {eb : Nat} {s : St} {S : Nat → Prop}

theorem lLearn_no (H : Sep w0 w (engR eb s :: l)) {id : Int} (hn : id < 0 ∨ (s.C.length : Int) ≤ id ∨ ∃ c, s.C[id.toNat]? = some c ∧ c.on = false) (hC : s.C.length ≤ 1048576) :
    Does Tryz.prog 77 #[.pointer (some ⟨eb, 0, none⟩), .int .i64 id] w fun v w' => v = .tuple #[.slice none 0 0, .int .i64 0, .int .i64 61] ∧ Sep w0 w' (engR eb s :: l) := by
  refine Does_intro tok (Tryz.call77 _ _) Tryz.func77 rfl (by rfl) ?_
  (repeat first | refine go ?_ | ((try conv => whnf); (first | (refine St_gate ?_; refine xS ?_) | (refine StN_gate ?_; refine xN ?_)); clear H; intro w H))
  refine Call_of (eClause_no H hn hC) ?_
  clear H
  rintro _ w ⟨rfl, H⟩
  (repeat first | refine go ?_ | ((try conv => whnf); (first | (refine St_gate ?_; refine xS ?_) | (refine StN_gate ?_; refine xN ?_)); clear H; intro w H))
  refine Nw_mapD (enc := iI) H ?_
  clear H
  intro mb w H
  (repeat first | refine go ?_ | ((try conv => whnf); (first | (refine St_gate ?_; refine xS ?_) | (refine StN_gate ?_; refine xN ?_)); clear H; intro w H))
  (refine Nw_sep H ?_; clear H; intro sb w H; (try simp only [Value.cells, List.toList_toArray, List.append_nil, List.cons_append, List.nil_append] at H))
  (repeat first | refine go ?_ | ((try conv => whnf); (first | (refine St_gate ?_; refine xS ?_) | (refine StN_gate ?_; refine xN ?_)); clear H; intro w H))
  refine Loop_intro (fun _ : Unit => [(28, .int .i64 0), (8, .bool false)]) (fun _ w' => w = w') (fun _ => 0) () ⟨rfl, rfl, trivial⟩ rfl ?_
  rintro _ _ rfl
  refine Br_dec_no (by omega) ?_
  (repeat first | refine go ?_ | ((try conv => whnf); (first | (refine St_gate ?_; refine xS ?_) | (refine StN_gate ?_; refine xN ?_)); clear H; intro w H))
  exact Ret_in ⟨rfl, H.tail.tail⟩

/-- Nothing is to be learnt of a clause. -/
def noLearn (s : St) (c : List Int) : Prop := (∃ y ∈ c, ¬ tru s.E (-y)) ∨ ∀ y ∈ c, lvE s.E (Trail.var y) ≤ 0
theorem lLearn (H : Sep w0 w (engR eb s :: l)) (hg : Watch.Good S s) (hd : Dp s.E) {id : Nat} {c : Cls} (hc : s.C[id]? = some c) (ho : c.on = true) (hlits : ∀ c ∈ s.C, c.lits.length ≤ 1000000) (hC : s.C.length ≤ 1048576) :
    Does Tryz.prog 77 #[.pointer (some ⟨eb, 0, none⟩), idV id] w fun v w' =>
      (noLearn s c.lits ∧ v = .tuple #[.slice none 0 0, .int .i64 0, .int .i64 61] ∧ Sep w0 w' (engR eb s :: l)) ∨
      ∃ top x R back a k, (∀ y ∈ c.lits, tru s.E (-y)) ∧ v = .tuple #[.slice a (x :: R).length k, .int .i64 back, .int .i64 0] ∧ Learnt s c.lits top x R back ∧ Sep w0 w' (ownR a (x :: R).length k 29 1 ((x :: R).map lV) :: engR eb s :: l) := by
  have hdl := hg.deepLe
  have hn := hg.inv.vars
  have hcl0 := hg.cl c (List.mem_of_getElem? hc)
  have hcm := hlits c (List.mem_of_getElem? hc)
  refine Does_intro tok (Tryz.call77 _ _) Tryz.func77 rfl (by rfl) ?_
  (repeat first | refine go ?_ | ((try conv => whnf); (first | (refine St_gate ?_; refine xS ?_) | (refine StN_gate ?_; refine xN ?_)); clear H; intro w H))
  refine Call_of (eClause H hc ho (fun x hx => by rw [one_ok]; exact (hcl0.1 x hx).1) (by omega) hC) ?_
  clear H
  rintro _ w ⟨ca, cc, out, rfl, hcl, hol, H⟩
  have hmem := hcl.mem
  have hok : ∀ y ∈ out, okLit y = true := fun y hy => (hcl0.1 y ((hmem y).1 hy)).1
  (repeat first | refine go ?_ | ((try conv => whnf); (first | (refine St_gate ?_; refine xS ?_) | (refine StN_gate ?_; refine xN ?_)); clear H; intro w H))
  refine Nw_mapD (enc := iI) H ?_
  clear H
  intro mb w H
  (repeat first | refine go ?_ | ((try conv => whnf); (first | (refine St_gate ?_; refine xS ?_) | (refine StN_gate ?_; refine xN ?_)); clear H; intro w H))
  (refine Nw_sep H ?_; clear H; intro sb w H; (try simp only [Value.cells, List.toList_toArray, List.append_nil, List.cons_append, List.nil_append] at H))
  replace H := (Own.nilR H 29 1)
  replace H := H.tp 3
  replace H := H.tp 1
  replace H := H.tp 3
  replace H := H.tp 3
  replace H := H.tp 4
  rw [← seenM_nil (E := s.E)] at H
  replace H : Vc.Sep w0 w (engR eb s :: stu ⟨sb, mb, 0, none, 0⟩ eb s.E 0 [] [] (ownR ca out.length cc 29 1 (out.map lV) :: l)) := H
  (repeat first | refine go ?_ | ((try conv => whnf); (first | (refine St_gate ?_; refine xS ?_) | (refine StN_gate ?_; refine xN ?_)); clear H; intro w H))
  refine Loop_intro (fun q : Nat × Bool × Int => [(28, .int .i64 (q.1 : Int)), (8, .bool q.2.1)]) (fun q w => (q.1 ≤ out.length ∧ (q.2.1 = true ↔ ∀ y ∈ out.take q.1, tru s.E (-y)) ∧ TopI s.E (out.take q.1) q.2.2 ∧ q.2.2 ≤ 1000000) ∧
      Sep w0 w (engR eb s :: stu ⟨sb, mb, 0, none, 0⟩ eb s.E q.2.2 [] [] (ownR ca out.length cc 29 1 (out.map lV) :: l))) (fun q => out.length - q.1)
    (0, true, 0) ⟨rfl, rfl, trivial⟩ ⟨⟨Nat.zero_le _, by simp, TopI.nil, by decide⟩, H⟩ ?_
  clear H
  rintro ⟨i, ok, top⟩ w ⟨⟨hi, hk, ht, htm⟩, H⟩
  simp only [] at hi hk ht htm H ⊢
  refine Br_dec (fun k1 => ?_) (fun k1 => ?_)
  · have hlt : i < out.length := by omega
    have hsrc := H.srcM (a := ca) (n := out.length) (cap := cc) (el := 29) (sz := 1) (xs := out.map lV) mm
    obtain ⟨yb, yo, rfl⟩ := hsrc.addr (by rw [List.length_map]; omega)
    have hyi : out[i]? = some out[i] := List.getElem?_eq_getElem hlt
    have hym := List.getElem_mem hlt
    have hnx : out.take (i + 1) = out.take i ++ [out[i]] := by rw [List.take_add_one, hyi]; rfl
    generalize out[i] = y at *
    have hyo := hok y hym
    have hnext := ht.next (y := y)
    have hlr : lvE s.E (Trail.var y) ≤ 1000000 := by
      rcases hg.lv_range (Trail.var y) with ⟨h, _⟩ | ⟨e, he, _, h, _⟩
      · omega
      · have := hg.levs e he; omega
    have hlm : -1 ≤ lvE s.E (Trail.var y) := by
      rcases hg.lv_range (Trail.var y) with ⟨h, _⟩ | ⟨e, he, _, h, _⟩ <;> omega
    rw [← hnx] at hnext
    refine Ix_in i rfl hlt ?_
    refine Ld_src (j := i) hsrc (v := lV y) (by rw [List.getElem?_map, hyi]; rfl) ?_
    (repeat first | refine go ?_ | ((try conv => whnf); (first | (refine St_gate ?_; refine xS ?_) | (refine StN_gate ?_; refine xN ?_)); clear H; intro w H))
    have hvn : decide (Trail.value s.E y < 0) = true ↔ tru s.E (-y) := by
      rw [decide_eq_true_iff, ← hg.valn hyo]
      rcases val_cases s.E y with h | h | h <;> omega
    have hk2 : (ok && decide (Trail.value s.E y < 0)) = true ↔ ∀ y ∈ out.take (i + 1), tru s.E (-y) := by
      rw [Bool.and_eq_true, hk, hvn, hnx]
      constructor
      · rintro ⟨h1, h2⟩ z hz
        rw [List.mem_append, List.mem_singleton] at hz
        rcases hz with hz | rfl
        · exact h1 z hz
        · exact h2
      · exact fun h => ⟨fun z hz => h z (List.mem_append_left _ hz), h y (by simp)⟩
    have ht0 := ht.b0
    cases ok with
    | false =>
      (repeat first | refine go ?_ | ((try conv => whnf); (first | (refine St_gate ?_; refine xS ?_) | (refine StN_gate ?_; refine xN ?_)); clear H; intro w H))
      refine Draw_intro mixed [0, 1, 2, 3, 4, 5, 6, 7, 8, 9, 10, 11, 12, 13, 14, 15] (by decide +kernel) (fun w _ fd => ?_); replace H := H.fr fd; clear fd
      obtain ⟨r, hr, H⟩ := engOpen H
      (repeat first | refine go ?_ | ((try conv => whnf); (first | (refine St_gate ?_; refine xS ?_) | (refine StN_gate ?_; refine xN ?_)); clear H; intro w H))
      refine Call_of (fVar (x := y) _) ?_
      rintro _ _ ⟨rfl, rfl⟩
      rw [var_var]
      (try conv => whnf)
      (repeat (refine Kept_gate ?_; refine xK ?_))
      (try conv => whnf)
      refine Call_of (sTrailLevel H mm) ?_
      clear H
      rintro _ w ⟨rfl, H⟩
      rw [show (knownOf s.E (Trail.var y : Int)).2.1 = lvE s.E (Trail.var y) from rfl]
      (try conv => whnf)
      (repeat (refine Kept_gate ?_; refine xK ?_))
      replace H := engClose hr H
      (repeat first | refine go ?_ | ((try conv => whnf); (first | (refine St_gate ?_; refine xS ?_) | (refine StN_gate ?_; refine xN ?_)); clear H; intro w H))
      exact ⟨(i + 1, false, _), ⟨congrArg some (vint (by simp)), rfl, trivial⟩, ⟨⟨by omega, hk2, hnext, by simp only []; omega⟩, H⟩, by simp; omega⟩
    | true =>
      (repeat first | refine go ?_ | ((try conv => whnf); (first | (refine St_gate ?_; refine xS ?_) | (refine StN_gate ?_; refine xN ?_)); clear H; intro w H))
      obtain ⟨r, hr, H⟩ := engOpen H
      (repeat first | refine go ?_ | ((try conv => whnf); (first | (refine St_gate ?_; refine xS ?_) | (refine StN_gate ?_; refine xN ?_)); clear H; intro w H))
      refine Call_of (sTrailValue H mm) ?_
      rintro _ _ ⟨rfl, rfl⟩
      replace H := engClose hr H
      (repeat first | refine go ?_ | ((try conv => whnf); (first | (refine St_gate ?_; refine xS ?_) | (refine StN_gate ?_; refine xN ?_)); clear H; intro w H))
      refine Draw_intro mixed [0, 1, 2, 3, 4, 5, 6, 7, 8, 9, 10, 11, 12, 13, 14, 15] (by decide +kernel) (fun w _ fd => ?_); replace H := H.fr fd; clear fd
      obtain ⟨r, hr, H⟩ := engOpen H
      (repeat first | refine go ?_ | ((try conv => whnf); (first | (refine St_gate ?_; refine xS ?_) | (refine StN_gate ?_; refine xN ?_)); clear H; intro w H))
      refine Call_of (fVar (x := y) _) ?_
      rintro _ _ ⟨rfl, rfl⟩
      rw [var_var]
      (try conv => whnf)
      (repeat (refine Kept_gate ?_; refine xK ?_))
      (try conv => whnf)
      refine Call_of (sTrailLevel H mm) ?_
      clear H
      rintro _ w ⟨rfl, H⟩
      rw [show (knownOf s.E (Trail.var y : Int)).2.1 = lvE s.E (Trail.var y) from rfl]
      (try conv => whnf)
      (repeat (refine Kept_gate ?_; refine xK ?_))
      replace H := engClose hr H
      (repeat first | refine go ?_ | ((try conv => whnf); (first | (refine St_gate ?_; refine xS ?_) | (refine StN_gate ?_; refine xN ?_)); clear H; intro w H))
      exact ⟨(i + 1, _, _), ⟨congrArg some (vint (by simp)), rfl, trivial⟩, ⟨⟨by omega, hk2, hnext, by simp only []; omega⟩, H⟩, by simp; omega⟩
  · obtain rfl : i = out.length := by omega
    rw [List.take_length] at hk ht
    clear hi k1
    have ht0 := ht.b0
    cases ok with
    | false =>
      have hno : noLearn s c.lits := by
        left
        have : ¬ ∀ y ∈ out, tru s.E (-y) := fun h => Bool.false_ne_true (hk.2 h)
        obtain ⟨y, hy⟩ := Classical.not_forall.1 this
        obtain ⟨h1, h2⟩ := Classical.not_imp.1 hy
        exact ⟨y, (hmem y).1 h1, h2⟩
      (repeat first | refine go ?_ | ((try conv => whnf); (first | (refine St_gate ?_; refine xS ?_) | (refine StN_gate ?_; refine xN ?_)); clear H; intro w H))
      exact Ret_in (.inl ⟨hno, rfl, (((H.drop 1 rfl rfl).drop 1 rfl rfl).drop 1 rfl rfl).drop 1 rfl rfl⟩)
    | true =>
      have hf := hk.1 rfl
      by_cases htop : top = 0
      · have hno : noLearn s c.lits := by
          right
          intro y hy
          have := ht.le y ((hmem y).2 hy)
          omega
        (repeat first | refine go ?_ | ((try conv => whnf); (first | (refine St_gate ?_; refine xS ?_) | (refine StN_gate ?_; refine xN ?_)); clear H; intro w H))
        exact Ret_in (.inl ⟨hno, rfl, (((H.drop 1 rfl rfl).drop 1 rfl rfl).drop 1 rfl rfl).drop 1 rfl rfl⟩)
      have ht1 : 1 ≤ top := by omega
      have hf2 : ∀ y ∈ c.lits, tru s.E (-y) := fun y hy => hf y ((hmem y).2 hy)
      have hfst := Fst.start hg ht ht1 hf hmem hok
      have hsl := (SOk.addL (p := (([] : List Int), ([] : List Int))) (but := 0) (ys := out) (SOk.nil (E := s.E) ht1) fun y hy _ => ⟨hf y hy, ht.le y hy⟩).1
      (repeat first | refine go ?_ | ((try conv => whnf); (first | (refine St_gate ?_; refine xS ?_) | (refine StN_gate ?_; refine xN ?_)); clear H; intro w H))
      refine Call_of (lAdd (p := ⟨sb, mb, 0, none, 0⟩) (T := []) (R := []) (but := 0) H hg (fun h => h.srcM (List.mem_append_right _ (.head _))) (by omega) (SOk.nil ht1) fun y hy _ => ⟨hf y hy, ht.le y hy⟩) ?_
      clear H
      rintro _ w ⟨rfl, ⟨sb1, mb1, n1, ra1, rc1⟩, hsb, hmb, H⟩
      simp only [] at hsb hmb
      have hsb := hsb.symm
      have hmb := hmb.symm
      subst hsb hmb
      (repeat first | refine go ?_ | ((try conv => whnf); (first | (refine St_gate ?_; refine xS ?_) | (refine StN_gate ?_; refine xN ?_)); clear H; intro w H))
      refine Call_of (lFirst H hg hd hfst hlits hC) ?_
      clear H
      rintro _ w ⟨x, R1, M1, ⟨sb1, mb1, n2, ra2, rc2⟩, rfl, hsho, hsb, hmb, H⟩
      simp only [] at hsb hmb
      have hsb := hsb.symm
      have hmb := hmb.symm
      subst hsb hmb
      (repeat first | refine go ?_ | ((try conv => whnf); (first | (refine St_gate ?_; refine xS ?_) | (refine StN_gate ?_; refine xN ?_)); clear H; intro w H))
      (refine Nw_sep H ?_; clear H; intro ob w H; (try simp only [Value.cells, List.toList_toArray, List.append_nil, List.cons_append, List.nil_append] at H))
      (repeat first | refine go ?_ | ((try conv => whnf); (first | (refine St_gate ?_; refine xS ?_) | (refine StN_gate ?_; refine xN ?_)); clear H; intro w H))
      replace H := H.row 0 1 1 rfl rfl (by decide) (by simp only [List.set_cons_succ, List.set_cons_zero]; rfl)
      replace H := H.tp 4
      replace H := H.tp 4
      replace H := H.tp 4
      replace H := H.tp 4
      refine Call_of (lShorten H hg hsho hlits hC) ?_
      clear H
      rintro _ w ⟨rfl, R2, M2, ⟨sb1, mb1, n3, ra3, rc3⟩, hsho2, hlean, hsb, hmb, H⟩
      simp only [] at hsb hmb
      have hsb := hsb.symm
      have hmb := hmb.symm
      subst hsb hmb
      have few := hsho2.ok.few hg
      rw [List.length_append] at few
      (repeat first | refine go ?_ | ((try conv => whnf); (first | (refine St_gate ?_; refine xS ?_) | (refine StN_gate ?_; refine xN ?_)); clear H; intro w H))
      replace H : Vc.Sep w0 w (engR eb s :: stu ⟨sb, mb, n3, ra3, rc3⟩ eb s.E top [x] R2 (ownR (some ⟨ob, 0, none⟩) 1 1 29 1 [lV x] :: ownR ca out.length cc 29 1 (out.map lV) :: l)) := H
      have hR2 : ∀ y ∈ R2, lvE s.E (Trail.var y) ≤ 1000000 := fun y hy => by
        rcases hg.lv_range (Trail.var y) with ⟨h, _⟩ | ⟨e, he, _, h, _⟩
        · omega
        · have := hg.levs e he; omega
      refine Loop_intro (fun q : Nat × Int => [(80, .int .i64 (q.1 : Int)), (13, .int .i64 q.2)]) (fun q w => (q.1 ≤ R2.length ∧ TopI s.E (R2.take q.1) q.2 ∧ q.2 ≤ 1000000) ∧ Sep w0 w (engR eb s :: stu ⟨sb, mb, n3, ra3, rc3⟩ eb s.E top [x] R2 (ownR (some ⟨ob, 0, none⟩) 1 1 29 1 [lV x] :: ownR ca out.length cc 29 1 (out.map lV) :: l))) (fun q => R2.length - q.1)
        (0, 0) ⟨rfl, rfl, trivial⟩ ⟨⟨Nat.zero_le _, TopI.nil, by decide⟩, H⟩ ?_
      clear H
      rintro ⟨i, back⟩ w ⟨⟨hi, hb, hbm⟩, H⟩
      simp only [] at hi hb hbm H ⊢
      have hb0 := hb.b0
      refine Br_dec (fun k1 => ?_) (fun k1 => ?_)
      · have hlt : i < R2.length := by omega
        have hsrc := H.srcM (a := ra3) (n := R2.length) (cap := rc3) (el := 29) (sz := 1) (xs := R2.map lV) mm
        obtain ⟨yb, yo, rfl⟩ := hsrc.addr (by rw [List.length_map]; omega)
        have hyi : R2[i]? = some R2[i] := List.getElem?_eq_getElem hlt
        have hym := List.getElem_mem hlt
        have hnx : R2.take (i + 1) = R2.take i ++ [R2[i]] := by rw [List.take_add_one, hyi]; rfl
        generalize R2[i] = y at *
        have hnext := hb.next (y := y)
        have hlr := hR2 y hym
        rw [← hnx] at hnext
        refine Ix_in i rfl hlt ?_
        refine Ld_src (j := i) hsrc (v := lV y) (by rw [List.getElem?_map, hyi]; rfl) ?_
        clear hsrc
        (repeat first | refine go ?_ | ((try conv => whnf); (first | (refine St_gate ?_; refine xS ?_) | (refine StN_gate ?_; refine xN ?_)); clear H; intro w H))
        refine Draw_intro mixed [0, 1, 2, 3, 4, 5, 6, 7, 8, 9] (by decide +kernel) (fun w _ fd => ?_); replace H := H.fr fd; clear fd
        obtain ⟨r, hr, H⟩ := engOpen H
        (repeat first | refine go ?_ | ((try conv => whnf); (first | (refine St_gate ?_; refine xS ?_) | (refine StN_gate ?_; refine xN ?_)); clear H; intro w H))
        refine Call_of (fVar (x := y) _) ?_
        rintro _ _ ⟨rfl, rfl⟩
        rw [var_var]
        (try conv => whnf)
        (repeat (refine Kept_gate ?_; refine xK ?_))
        (try conv => whnf)
        refine Call_of (sTrailLevel H mm) ?_
        clear H
        rintro _ w ⟨rfl, H⟩
        rw [show (knownOf s.E (Trail.var y : Int)).2.1 = lvE s.E (Trail.var y) from rfl]
        (try conv => whnf)
        (repeat (refine Kept_gate ?_; refine xK ?_))
        replace H := engClose hr H
        (repeat first | refine go ?_ | ((try conv => whnf); (first | (refine St_gate ?_; refine xS ?_) | (refine StN_gate ?_; refine xN ?_)); clear H; intro w H))
        exact ⟨(i + 1, _), ⟨congrArg some (vint (by simp)), rfl, trivial⟩, ⟨⟨by omega, hnext, by simp only []; omega⟩, H⟩, by simp; omega⟩
      · obtain rfl : i = R2.length := by omega
        rw [List.take_length] at hb
        have hL := hsho2.learnt hg hd hc ho hf2 hlean ht hmem hb
        (repeat first | refine go ?_ | ((try conv => whnf); (first | (refine St_gate ?_; refine xS ?_) | (refine StN_gate ?_; refine xN ?_)); clear H; intro w H))
        refine DoN_gate ?_
        refine append_sep (n' := (x :: R2).length) (xs' := (x :: R2).map lV) tok H rfl rfl rfl rfl rfl (by decide) mm (H.srcM mm) lits_one (by omega) (by unfold maxLen; omega) (by simp; omega) (by simp) ?_
        clear H
        intro a2 c2 w H
        replace H := H _ (by repeat first | exact Upd.head | apply Upd.tail)
        replace H := ((H.drop 5 rfl rfl).drop 1 rfl rfl).drop 1 rfl rfl
        replace H := (H.drop 1 rfl rfl).top 1 rfl rfl
        (repeat first | refine go ?_ | ((try conv => whnf); (first | (refine St_gate ?_; refine xS ?_) | (refine StN_gate ?_; refine xN ?_)); clear H; intro w H))
        exact Ret_in (.inr ⟨top, x, R2, back, a2, c2, hf2, rfl, hL, H⟩)
end
end Go.Proofs.YtcibiidebknkgaaGreat
