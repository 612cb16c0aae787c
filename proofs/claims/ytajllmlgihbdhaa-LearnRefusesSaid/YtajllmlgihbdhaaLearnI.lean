/- Law: of any clauses, one conflict behind the other. -/
import Derived.Test.YtajllmlgihbdhaaLearnH
set_option linter.unusedVariables false
set_option linter.unusedSimpArgs false
namespace Go.Watch
open Go.Trail
/-- What Propagate answers. -/
def HitC (s : St) (id : Int) : Prop := ∃ (j : Nat) (c : Cls), id = (j : Int) ∧ j < 1000000 ∧ s.C[j]? = some c ∧ c.on = true ∧ c.idle = false ∧ ∀ y ∈ c.lits, tru s.E (-y)
def Hit (s : St) (id : Int) : Prop := (id = -1 ∧ s.F = [] ∧ s.h = s.E.length) ∨ HitC s id
end Go.Watch
namespace Go.Proofs.Ytajllmlgihbdhaa
open Go Go.Vc Go.Watch Go.Lit
open Go.Trail (Ent value find upto okLit litsV)
set_option maxHeartbeats 16000000
set_option maxRecDepth 100000
section
variable {w0 w W : World} {l : List Res} {eb pb : Nat} {s : St} {n k m : Nat} {C : List (List Int)} {S : Nat → Prop}

theorem tHit (H : Sep w0 w (engR eb s :: l)) (h : Tut s n C k m) (hn : n ≤ 20) (hk : k ≤ 130) (hm : m ≤ 100000000) :
    Does Try.prog 13 #[.pointer (some ⟨eb, 0, none⟩)] w fun v w' => ∃ s' id, v = .int .i64 id ∧ Tut s' n C k (m + 2800) ∧ Ext s s' ∧ Hit s' id ∧ Sep w0 w' (engR eb s' :: l) := by
  have hp : (n + 1) * (k + 1) ≤ 21 * 131 := Nat.mul_le_mul (by omega) (by omega)
  refine (tProp H h (by omega) (by omega)).mono ?_
  rintro v w' ⟨s', h', x, H, hv⟩
  have h' := h'.mono (Nat.le_refl k) (m' := m + 2800) (by omega)
  rcases hv with ⟨rfl, h1, h2⟩ | ⟨id, c, rfl, hid, h1, h2, h3, h4⟩
  · exact ⟨s', -1, rfl, h', x, .inl ⟨rfl, h1, h2⟩, H⟩
  · exact ⟨s', id, rfl, h', x, .inr ⟨id, c, rfl, by omega, h1, h2, h3, h4⟩, H⟩

variable {a xa : Option Addr} {c cx : Nat} {R0 : List Fl} {X : List Int} {z : Int}
theorem uRuns (hs : FSrc W a C R0) (hsm : ∀ x ∈ R0, x.2.2.length ≤ 35184372087808) (hcap : C.length ≤ c) (hCl : C.length ≤ 9223372036854775807) (hx : Src W xa X.length 1 (X.map lV)) (hX : X.length ≤ 9223372036854775807) :
    Does Try.prog 6 #[.agg #[.int .i64 z, .slice a C.length c], .slice xa X.length cx] W fun v w' => v = .bool true ∧ Sep W w' [] := by
  refine Does_intro tok (Try.call6 _ _) Try.func6 rfl (by rfl) ?_
  have H := Sep.nil W
  (repeat first | refine go ?_ | ((try conv => whnf); (first | (refine St_gate ?_; refine xS ?_) | (refine StN_gate ?_; refine xN ?_)); clear H; intro w H))
  (refine Nw_sep H ?_; clear H; intro fb w H; (try simp only [Value.cells, List.toList_toArray, List.append_nil, List.cons_append, List.nil_append] at H))
  (repeat first | refine go ?_ | ((try conv => whnf); (first | (refine St_gate ?_; refine xS ?_) | (refine StN_gate ?_; refine xN ?_)); clear H; intro w H))
  refine Call_of (qAlive w) ?_
  rintro _ w' ⟨rfl, HH⟩
  replace H := H.add HH
  clear HH
  (repeat first | refine go ?_ | ((try conv => whnf); (first | (refine St_gate ?_; refine xS ?_) | (refine StN_gate ?_; refine xN ?_)); clear H; intro w H))
  refine Call_of (qFresh H hs hcap hsm hCl) ?_
  clear H
  rintro _ w (⟨rfl, H⟩ | ⟨k, pb, eb, s, sa, sc, R, rfl, rfl, hk, hfr, H⟩)
  · (repeat first | refine go ?_ | ((try conv => whnf); (first | (refine St_gate ?_; refine xS ?_) | (refine StN_gate ?_; refine xN ?_)); clear H; intro w H))
    exact Ret_in ⟨rfl, H.all⟩
  by_cases hX40 : 40 < X.length
  · (repeat first | refine go ?_ | ((try conv => whnf); (first | (refine St_gate ?_; refine xS ?_) | (refine StN_gate ?_; refine xN ?_)); clear H; intro w H))
    exact Ret_in ⟨rfl, H.all⟩
  have hRf := hfr.few
  (repeat first | refine go ?_ | ((try conv => whnf); (first | (refine St_gate ?_; refine xS ?_) | (refine StN_gate ?_; refine xN ?_)); clear H; intro w H))
  refine Loop_intro (fun q : Nat × St × List Fl × Option Addr × Nat => [(33, .int .i64 (q.1 : Int))]) (fun q w => (q.1 ≤ X.length ∧ q.2.2.1.length ≤ 80 + q.1 ∧ Tut q.2.1 k (clsL q.2.2.1) (80 + q.1) (80 + 6000 * q.1)) ∧
      Sep W w (engR eb q.2.1 :: stuL pb eb q.2.2.2.1 q.2.2.2.2 q.2.2.1 [cellsR fb 34 [.int .i64 (k : Int), .slice a C.length c]])) (fun q => X.length - q.1)
    (0, s, R, sa, sc) ⟨rfl, trivial⟩ ⟨⟨Nat.zero_le _, hRf, hfr.tut⟩, H⟩ ?_
  clear H hfr hRf
  clear s R sa sc
  rintro ⟨i, s, R, sa, sc⟩ w ⟨⟨hi, hR, h⟩, H⟩
  simp only [] at hi hR h H ⊢
  unfold stuL at H
  refine Br_dec (fun k1 => ?_) (fun k1 => ?_)
  · have hlt : i < X.length := by omega
    have hsrc : Src w xa X.length 1 (X.map lV) := H.rd hx
    obtain ⟨yb, yo, rfl⟩ := hsrc.addr (by rw [List.length_map]; omega)
    have hyi : X[i]? = some X[i] := List.getElem?_eq_getElem hlt
    generalize X[i] = y at *
    refine Ix_in i rfl hlt ?_
    refine Ld_src (j := i) hsrc (v := lV y) (by rw [List.getElem?_map, hyi]; rfl) ?_
    clear hsrc
    (repeat first | refine go ?_ | ((try conv => whnf); (first | (refine St_gate ?_; refine xS ?_) | (refine StN_gate ?_; refine xN ?_)); clear H; intro w H))
    refine Call_of (tHit H h hk (by omega) (by omega)) ?_
    clear H
    rintro _ w ⟨s1, id1, rfl, h1, x1, hit1, H⟩
    rcases hit1 with ⟨rfl, hF1, hh1⟩ | ⟨j, cj, rfl, hj, hc1, ho1, hi1, hf1⟩
    · (repeat first | refine go ?_ | ((try conv => whnf); (first | (refine St_gate ?_; refine xS ?_) | (refine StN_gate ?_; refine xN ?_)); clear H; intro w H))
      refine Call_of (tDecide H h1 hh1 (x := y)) ?_
      clear H
      rintro _ w (⟨rfl, h2, H⟩ | ⟨⟨z, rfl, hz, hz1, hz2⟩, H⟩)
      · (repeat first | refine go ?_ | ((try conv => whnf); (first | (refine St_gate ?_; refine xS ?_) | (refine StN_gate ?_; refine xN ?_)); clear H; intro w H))
        exact ⟨(i + 1, _, R, sa, sc), ⟨congrArg some (vint (by simp)), trivial⟩, ⟨⟨by omega, by simp only []; omega, h2.mono (by omega) (by simp only []; omega)⟩, H⟩, by simp; omega⟩
      · (repeat first | refine go ?_ | ((try conv => whnf); (first | (refine St_gate ?_; refine xS ?_) | (refine StN_gate ?_; refine xN ?_)); clear H; intro w H))
        exact ⟨(i + 1, _, R, sa, sc), ⟨congrArg some (vint (by simp)), trivial⟩, ⟨⟨by omega, by simp only []; omega, h1.mono (by omega) (by simp only []; omega)⟩, H⟩, by simp; omega⟩
    · (repeat first | refine go ?_ | ((try conv => whnf); (first | (refine St_gate ?_; refine xS ?_) | (refine StN_gate ?_; refine xN ?_)); clear H; intro w H))
      refine Call_of (qTaught H h1 (by omega) (by omega) (by omega) hc1 ho1 hf1) ?_
      clear H
      rintro _ w (⟨rfl, H⟩ | ⟨top, x, Q, back, qa, qk, rfl, hL, H⟩)
      · (repeat first | refine go ?_ | ((try conv => whnf); (first | (refine St_gate ?_; refine xS ?_) | (refine StN_gate ?_; refine xN ?_)); clear H; intro w H))
        exact Ret_in ⟨rfl, H.all⟩
      have hg1 := h1.good
      have hlen := hL.few hg1
      have hvn := h1.vars
      have hb0 := hL.b0
      have hbt := hL.back_lt
      have htd := hL.top_le hg1
      have hent := hL.ent hg1
      have hdl := hg1.deepLe
      obtain ⟨b, rfl⟩ : ∃ b : Nat, back = b := ⟨back.toNat, by omega⟩
      have hl0 : (x :: Q).length = Q.length + 1 := rfl
      unfold stuL at H
      replace H := H.tp 1
      (repeat first | refine go ?_ | ((try conv => whnf); (first | (refine St_gate ?_; refine xS ?_) | (refine StN_gate ?_; refine xN ?_)); clear H; intro w H))
      refine Call_of (tBack H h1 (j := b) (by omega) (by omega) (by omega)) ?_
      clear H
      rintro _ w ⟨rfl, h2, H⟩
      have hE2 : (Watch.back s1 b).E = upto s1.E b := (h1.back (by omega)).2.1
      (repeat first | refine go ?_ | ((try conv => whnf); (first | (refine St_gate ?_; refine xS ?_) | (refine StN_gate ?_; refine xN ?_)); clear H; intro w H))
      refine Call_of (rClean (xs := x :: Q) H (fun h => h.srcM (a := qa) (n := (x :: Q).length) (cap := qk) (el := 27) (List.mem_append_right _ mm)) (by omega) (fun y hy => by rw [one_ok]; exact (hent y hy).2.1)) ?_
      clear H
      rintro _ w ⟨oa, oc, out, rfl, hcl, hol, H⟩
      (repeat first | refine go ?_ | ((try conv => whnf); (first | (refine St_gate ?_; refine xS ?_) | (refine StN_gate ?_; refine xN ?_)); clear H; intro w H))
      (refine Nw_sep H ?_; clear H; intro nb w H; (try simp only [Value.cells, List.toList_toArray, List.append_nil, List.cons_append, List.nil_append] at H))
      (repeat first | refine go ?_ | ((try conv => whnf); (first | (refine St_gate ?_; refine xS ?_) | (refine StN_gate ?_; refine xN ?_)); clear H; intro w H))
      (refine DoN_gate ?_; refine append_one tok H rfl rfl rfl rfl rfl (by decide) mm (m := 1) rfl (by simp [oneCell]) (by omega) (by unfold maxLen; omega) ?_; clear H; intro sa' sc' w H; replace H := H _ (by repeat first | exact Upd.head | apply Upd.tail))
      (repeat first | refine go ?_ | ((try conv => whnf); (first | (refine St_gate ?_; refine xS ?_) | (refine StN_gate ?_; refine xN ?_)); clear H; intro w H))
      have e1 : R.map flV ++ [.slice oa out.length oc] = (R ++ [(oa, oc, out)]).map flV := by rw [List.map_append]; rfl
      have e2 : R.length + 1 = (R ++ [(oa, oc, out)]).length := by simp
      have e3 : clsL R ++ [out] = clsL (R ++ [(oa, oc, out)]) := by unfold clsL; rw [List.map_append]; rfl
      rw [e1, e2] at H
      replace H := H.tp 1
      replace H := H.tp 5
      replace H := H.tp 2
      replace H := Sep.big_snoc (f := rowR) (y := (oa, oc, out)) H
      replace H := H.tp 1
      have hfitx : fitB k (x :: Q) = true := fitB_iff.2 fun y hy => ⟨by rw [one_ok]; exact (hent y hy).2.1, by rw [← hvn]; exact (hent y hy).2.2⟩
      refine Call_of (tAdd H h2 (xs := x :: Q) (fun h => h.srcM (a := qa) (n := (x :: Q).length) (cap := qk) (el := 27) (List.mem_append_right _ mm)) (by omega) (by omega) (by omega)) ?_
      clear H
      rintro _ w (⟨hno, _⟩ | ⟨_, id3, s3, rfl, h3, hE3, hD3, hh3, H⟩)
      · rw [hfitx] at hno; cases hno
      replace h3 := h3 out hcl
      rw [hL.both hg1, if_neg Bool.false_ne_true, e3] at h3
      (repeat first | refine go ?_ | ((try conv => whnf); (first | (refine St_gate ?_; refine xS ?_) | (refine StN_gate ?_; refine xN ?_)); clear H; intro w H))
      refine Call_of (tHit H h3 hk (by omega) (by omega)) ?_
      clear H
      rintro _ w ⟨s4, id4, rfl, h4, x4, hit4, H⟩
      rcases hit4 with ⟨rfl, hF4, hh4⟩ | ⟨j4, cj4, rfl, hj4, hc4, ho4, hi4, hf4⟩
      · have hval : value s4.E x = 1 := h1.leads hL (hE3.trans hE2) rfl (e3 ▸ h4) hcl x4 hF4 hh4
        (repeat first | refine go ?_ | ((try conv => whnf); (first | (refine St_gate ?_; refine xS ?_) | (refine StN_gate ?_; refine xN ?_)); clear H; intro w H))
        refine Draw_intro mixed [0, 1, 2, 3, 4, 5, 6, 7, 8, 9, 10, 11, 12, 13, 14, 15] (by decide +kernel) (fun w _ fd => ?_); replace H := H.fr fd; clear fd
        obtain ⟨qb, rfl⟩ := (H.ownM (a := qa) (n := (x :: Q).length) (cap := qk) (el := 27) (sz := 1) (xs := (x :: Q).map lV) mm).some (by omega)
        obtain ⟨r, hr, H⟩ := engOpen H
        (repeat first | refine go ?_ | ((try conv => whnf); (first | (refine St_gate ?_; refine xS ?_) | (refine StN_gate ?_; refine xN ?_)); clear H; intro w H))
        refine Ix_in 0 rfl (by omega) ?_
        (repeat first | refine go ?_ | ((try conv => whnf); (first | (refine St_gate ?_; refine xS ?_) | (refine StN_gate ?_; refine xN ?_)); clear H; intro w H))
        have hs0 := H.srcM (a := some ⟨qb, 0, none⟩) (n := (x :: Q).length) (cap := qk) (el := 27) (sz := 1) (xs := (x :: Q).map lV) mm
        refine Ld_src (j := 0) hs0 (v := lV x) rfl ?_
        clear hs0
        (repeat first | refine go ?_ | ((try conv => whnf); (first | (refine St_gate ?_; refine xS ?_) | (refine StN_gate ?_; refine xN ?_)); clear H; intro w H))
        refine Call_of (sTrailValue H mm) ?_
        rintro _ _ ⟨rfl, rfl⟩
        rw [hval]
        (try conv => whnf)
        (repeat (refine Kept_gate ?_; refine xK ?_))
        replace H := engClose hr H
        (repeat first | refine go ?_ | ((try conv => whnf); (first | (refine St_gate ?_; refine xS ?_) | (refine StN_gate ?_; refine xN ?_)); clear H; intro w H))
        refine Call_of (tDecide H h4 hh4 (x := y)) ?_
        clear H
        rintro _ w (⟨rfl, h5, H⟩ | ⟨⟨z, rfl, hz, hz1, hz2⟩, H⟩)
        · (repeat first | refine go ?_ | ((try conv => whnf); (first | (refine St_gate ?_; refine xS ?_) | (refine StN_gate ?_; refine xN ?_)); clear H; intro w H))
          replace H := H.drop 2 rfl rfl
          replace H := H.tp 1
          replace H := H.tp 3
          replace H := H.tp 3
          replace H := H.tp 3
          refine ⟨(i + 1, _, R ++ [(oa, oc, out)], sa', sc'), ⟨congrArg some (vint (by simp)), trivial⟩, ⟨⟨by omega, by simp; omega, h5.mono (by simp only []; omega) (by simp only []; omega)⟩, H⟩, by simp; omega⟩
        · (repeat first | refine go ?_ | ((try conv => whnf); (first | (refine St_gate ?_; refine xS ?_) | (refine StN_gate ?_; refine xN ?_)); clear H; intro w H))
          replace H := H.drop 2 rfl rfl
          replace H := H.tp 1
          replace H := H.tp 3
          replace H := H.tp 3
          replace H := H.tp 3
          exact ⟨(i + 1, _, R ++ [(oa, oc, out)], sa', sc'), ⟨congrArg some (vint (by simp)), trivial⟩, ⟨⟨by omega, by simp; omega, h4.mono (by simp only []; omega) (by simp only []; omega)⟩, H⟩, by simp; omega⟩
      · (repeat first | refine go ?_ | ((try conv => whnf); (first | (refine St_gate ?_; refine xS ?_) | (refine StN_gate ?_; refine xN ?_)); clear H; intro w H))
        refine Draw_intro mixed [0, 1, 2, 3, 4, 5, 6, 7, 8, 9, 10, 11, 12, 13, 14, 15] (by decide +kernel) (fun w _ fd => ?_); replace H := H.fr fd; clear fd
        (repeat first | refine go ?_ | ((try conv => whnf); (first | (refine St_gate ?_; refine xS ?_) | (refine StN_gate ?_; refine xN ?_)); clear H; intro w H))
        replace H := H.drop 2 rfl rfl
        replace H := H.tp 1
        replace H := H.tp 3
        replace H := H.tp 3
        replace H := H.tp 3
        refine Call_of (qTaught (R := R ++ [(oa, oc, out)]) (sa := sa') (sc := sc') H h4 (by omega) (by omega) (by simp; omega) hc4 ho4 hf4) ?_
        clear H
        rintro _ w (⟨rfl, H⟩ | ⟨top2, x2, Q2, back2, qa2, qk2, rfl, hL2, H⟩)
        · (repeat first | refine go ?_ | ((try conv => whnf); (first | (refine St_gate ?_; refine xS ?_) | (refine StN_gate ?_; refine xN ?_)); clear H; intro w H))
          exact Ret_in ⟨rfl, H.all⟩
        · (repeat first | refine go ?_ | ((try conv => whnf); (first | (refine St_gate ?_; refine xS ?_) | (refine StN_gate ?_; refine xN ?_)); clear H; intro w H))
          exact Ret_in ⟨rfl, H.all⟩
  · obtain rfl : i = X.length := by omega
    (repeat first | refine go ?_ | ((try conv => whnf); (first | (refine St_gate ?_; refine xS ?_) | (refine StN_gate ?_; refine xN ?_)); clear H; intro w H))
    exact Ret_in ⟨rfl, H.all⟩
end
end Go.Proofs.Ytajllmlgihbdhaa
