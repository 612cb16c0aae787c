/- Law: behind what is learnt one is led on. -/
import Derived.Test.YtajllmlgihbdhaaLearnI
set_option linter.unusedVariables false
set_option linter.unusedSimpArgs false
namespace Go.Proofs.Ytajllmlgihbdhaa
open Go Go.Vc Go.Watch Go.Lit
open Go.Trail (Ent value find upto okLit litsV)
set_option maxHeartbeats 16000000
set_option maxRecDepth 100000
section
variable {w0 w W : World} {l : List Res} {eb pb : Nat} {s : St} {n k m : Nat} {C : List (List Int)} {S : Nat → Prop}
theorem clean_ex {xs : List Int} (ho : ∀ x ∈ xs, Lit.one x = true) : ∃ own, Lit.Clean xs own := by
  refine ⟨_, Lit.squeeze_clean (l := xs.mergeSort fun x y => decide (Lit.place x ≤ Lit.place y)) ho ?_ fun x => List.mem_mergeSort⟩
  have := List.pairwise_mergeSort (le := fun x y => decide (Lit.place x ≤ Lit.place y)) (fun a b c h1 h2 => by simp at *; omega) (fun a b => by simp; omega) xs
  exact this.imp fun h => by simpa using h
theorem fNil (H : Sep w0 w l) (hn : n ≤ 262144) : Does Try.prog 23 #[.int .i64 n, .slice none 0 0, .slice none 0 0] w fun v w' => v = .bool false ∧ Sep w0 w' l := by
  have hs : ∀ {w' : World}, Src w' none 0 1 [] := ⟨rfl, fun _ _ h => by simp at h⟩
  refine (rFollows (C := []) (R := []) (ca := none) (cc := 0) (c := []) (a := none) (k := 0) (n := n) H hn (fun _ => ⟨⟨rfl, hs, fun x hx => (by cases hx)⟩, fun x hx => (by cases hx)⟩) (by decide) (fun k hk => (by cases hk)) (fun _ => hs) (by decide) (fun y hy => (by cases hy)) .nil).mono ?_
  rintro v w' ⟨b, rfl, hb, H⟩
  refine ⟨?_, H⟩
  cases b with
  | false => rfl
  | true => exact (no_conf_nil (hb.1 rfl)).elim

variable {a xa : Option Addr} {c cx : Nat} {R0 : List Fl} {X : List Int} {z : Int}
theorem uLeads (hs : FSrc W a C R0) (hsm : ∀ x ∈ R0, x.2.2.length ≤ 35184372087808) (hcap : C.length ≤ c) (hCl : C.length ≤ 9223372036854775807) (hx : Src W xa X.length 1 (X.map lV)) (hX : X.length ≤ 9223372036854775807) :
    Does Try.prog 7 #[.agg #[.int .i64 z, .slice a C.length c], .slice xa X.length cx] W fun v w' => v = .bool true ∧ Sep W w' [] := by
  refine Does_intro tok (Try.call7 _ _) Try.func7 rfl (by rfl) ?_
  have H := Sep.nil W
  (repeat first | refine go ?_ | ((try conv => whnf); (first | (refine St_gate ?_; refine xS ?_) | (refine StN_gate ?_; refine xN ?_)); clear H; intro w H))
  (refine Nw_sep H ?_; clear H; intro fb w H; (try simp only [Value.cells, List.toList_toArray, List.append_nil, List.cons_append, List.nil_append] at H))
  (repeat first | refine go ?_ | ((try conv => whnf); (first | (refine St_gate ?_; refine xS ?_) | (refine StN_gate ?_; refine xN ?_)); clear H; intro w H))
  refine Call_of (qAlive w) ?_
  rintro _ w' ⟨rfl, HH⟩
  replace H := H.add HH
  clear HH
  (repeat first | refine go ?_ | ((try conv => whnf); (first | (refine St_gate ?_; refine xS ?_) | (refine StN_gate ?_; refine xN ?_)); clear H; intro w H))
  refine Call_of (qFresh H hs hcap hsm hCl) ?_
  clear H
  rintro _ w (⟨rfl, H⟩ | ⟨k, pb, eb, s, sa, sc, R, rfl, rfl, hk, hfr, H⟩)
  · (repeat first | refine go ?_ | ((try conv => whnf); (first | (refine St_gate ?_; refine xS ?_) | (refine StN_gate ?_; refine xN ?_)); clear H; intro w H))
    exact Ret_in ⟨rfl, H.all⟩
  by_cases hk12 : 12 < k
  · unfold stuL at H
    (repeat first | refine go ?_ | ((try conv => whnf); (first | (refine St_gate ?_; refine xS ?_) | (refine StN_gate ?_; refine xN ?_)); clear H; intro w H))
    exact Ret_in ⟨rfl, H.all⟩
  by_cases hX40 : 40 < X.length
  · unfold stuL at H
    (repeat first | refine go ?_ | ((try conv => whnf); (first | (refine St_gate ?_; refine xS ?_) | (refine StN_gate ?_; refine xN ?_)); clear H; intro w H))
    exact Ret_in ⟨rfl, H.all⟩
  have hRf := hfr.few
  unfold stuL at H
  (repeat first | refine go ?_ | ((try conv => whnf); (first | (refine St_gate ?_; refine xS ?_) | (refine StN_gate ?_; refine xN ?_)); clear H; intro w H))
  refine Call_of (tHit H hfr.tut hk (by decide) (by decide)) ?_
  clear H
  rintro _ w ⟨s1, id1, rfl, h1, x1, hit1, H⟩
  (repeat first | refine go ?_ | ((try conv => whnf); (first | (refine St_gate ?_; refine xS ?_) | (refine StN_gate ?_; refine xN ?_)); clear H; intro w H))
  refine Loop_intro (fun q : Nat × St × Int => [(39, .int .i64 (q.1 : Int)), (6, .int .i64 q.2.2)]) (fun q w => (q.1 ≤ X.length ∧ Tut q.2.1 k (clsL R) 80 (80 + 2800 * (q.1 + 1)) ∧ Hit q.2.1 q.2.2) ∧ Sep W w (engR eb q.2.1 :: stuL pb eb sa sc R [cellsR fb 34 [.int .i64 (k : Int), .slice a C.length c]])) (fun q => X.length - q.1)
    (0, s1, id1) ⟨rfl, rfl, trivial⟩ ⟨⟨Nat.zero_le _, h1, hit1⟩, H⟩ ?_
  clear H h1 x1 hit1 hfr
  rintro ⟨i, s, id⟩ w ⟨⟨hi, h, hit⟩, H⟩
  simp only [] at hi h hit H ⊢
  unfold stuL at H
  refine Br_dec (fun k1 => ?_) (fun k1 => ?_)
  · have hlt : i < X.length := by omega
    have hsrc : Src w xa X.length 1 (X.map lV) := H.rd hx
    obtain ⟨yb, yo, rfl⟩ := hsrc.addr (by rw [List.length_map]; omega)
    have hyi : X[i]? = some X[i] := List.getElem?_eq_getElem hlt
    generalize X[i] = y at *
    refine Ix_in i rfl hlt ?_
    refine Ld_src (j := i) hsrc (v := lV y) (by rw [List.getElem?_map, hyi]; rfl) ?_
    clear hsrc
    (repeat first | refine go ?_ | ((try conv => whnf); (first | (refine St_gate ?_; refine xS ?_) | (refine StN_gate ?_; refine xN ?_)); clear H; intro w H))
    rcases hit with ⟨rfl, hF, hh⟩ | hit
    · (repeat first | refine go ?_ | ((try conv => whnf); (first | (refine St_gate ?_; refine xS ?_) | (refine StN_gate ?_; refine xN ?_)); clear H; intro w H))
      refine Call_of (tDecide H h hh (x := y)) ?_
      clear H
      rintro _ w (⟨rfl, h2, H⟩ | ⟨⟨z, rfl, hz, hz1, hz2⟩, H⟩)
      · (repeat first | refine go ?_ | ((try conv => whnf); (first | (refine St_gate ?_; refine xS ?_) | (refine StN_gate ?_; refine xN ?_)); clear H; intro w H))
        refine Call_of (tHit H h2 hk (by decide) (by omega)) ?_
        clear H
        rintro _ w ⟨s2, id2, rfl, h3, x2, hit2, H⟩
        (repeat first | refine go ?_ | ((try conv => whnf); (first | (refine St_gate ?_; refine xS ?_) | (refine StN_gate ?_; refine xN ?_)); clear H; intro w H))
        exact ⟨(i + 1, s2, id2), ⟨congrArg some (vint (by simp)), rfl, trivial⟩, ⟨⟨by omega, h3.mono (Nat.le_refl _) (by simp only []; omega), hit2⟩, H⟩, by simp; omega⟩
      · (repeat first | refine go ?_ | ((try conv => whnf); (first | (refine St_gate ?_; refine xS ?_) | (refine StN_gate ?_; refine xN ?_)); clear H; intro w H))
        exact ⟨(i + 1, s, -1), ⟨congrArg some (vint (by simp)), rfl, trivial⟩, ⟨⟨by omega, h.mono (Nat.le_refl _) (by simp only []; omega), .inl ⟨rfl, hF, hh⟩⟩, H⟩, by simp; omega⟩
    · obtain ⟨j, cj, rfl, hj⟩ := hit
      (repeat first | refine go ?_ | ((try conv => whnf); (first | (refine St_gate ?_; refine xS ?_) | (refine StN_gate ?_; refine xN ?_)); clear H; intro w H))
      exact ⟨(i + 1, s, (j : Int)), ⟨congrArg some (vint (by simp)), rfl, trivial⟩, ⟨⟨by omega, h.mono (Nat.le_refl _) (by simp only []; omega), .inr ⟨j, cj, rfl, hj⟩⟩, H⟩, by simp; omega⟩
  have hX40' : i ≤ 40 := by omega
  replace h := h.mono (Nat.le_refl _) (m' := 200000) (by omega)
  clear hX40' k1 hi

  (repeat first | refine go ?_ | ((try conv => whnf); (first | (refine St_gate ?_; refine xS ?_) | (refine StN_gate ?_; refine xN ?_)); clear H; intro w H))
  obtain ⟨r, hr, H⟩ := engOpen H
  (repeat first | refine go ?_ | ((try conv => whnf); (first | (refine St_gate ?_; refine xS ?_) | (refine StN_gate ?_; refine xN ?_)); clear H; intro w H))
  refine Call_of (sTrailDepth H mm) ?_
  rintro _ _ ⟨rfl, rfl⟩
  replace H := engClose hr H
  have hvn := h.vars
  have hdl := h.good.deepLe
  (repeat first | refine go ?_ | ((try conv => whnf); (first | (refine St_gate ?_; refine xS ?_) | (refine StN_gate ?_; refine xN ?_)); clear H; intro w H))
  refine Loop_intro (fun q : Nat × St × Int × List (List Int) => [(10, .int .i64 (q.1 : Int)), (6, .int .i64 q.2.2.1), (9, .int .i64 (q.2.1.D : Int))]) (fun q w => (q.1 + q.2.1.D ≤ 12 ∧ Tut q.2.1 k q.2.2.2 (80 + q.1) (200000 + 3000 * q.1) ∧ Hit q.2.1 q.2.2.1) ∧
      Sep W w (engR eb q.2.1 :: stuL pb eb sa sc R [cellsR fb 34 [.int .i64 (k : Int), .slice a C.length c]])) (fun q => 200 - q.1)
    (0, s, id, clsL R) ⟨rfl, rfl, rfl, trivial⟩ ⟨⟨by simp only []; omega, h, hit⟩, H⟩ ?_
  clear H h hit hvn hdl
  rintro ⟨turn, s, id, C1⟩ w ⟨⟨hi, h, hit⟩, H⟩
  simp only [] at hi h hit H ⊢
  unfold stuL at H
  refine Br_dec (fun k1 => ?_) (fun k1 => ?_)
  · rcases hit with ⟨rfl, hF, hh⟩ | ⟨j, cj, rfl, hj, hc1, ho1, hi1, hf1⟩
    · (repeat first | refine go ?_ | ((try conv => whnf); (first | (refine St_gate ?_; refine xS ?_) | (refine StN_gate ?_; refine xN ?_)); clear H; intro w H))
      exact Ret_in ⟨rfl, H.all⟩
    (repeat first | refine go ?_ | ((try conv => whnf); (first | (refine St_gate ?_; refine xS ?_) | (refine StN_gate ?_; refine xN ?_)); clear H; intro w H))
    have hg1 := h.good
    have hCf := h.few
    have hvn := h.vars
    have hdl := hg1.deepLe
    refine Call_of (lLearn H hg1 h.dp hc1 ho1 h.lits (by omega)) ?_
    clear H
    rintro _ w (⟨hno, rfl, H⟩ | ⟨top, x, Q, back, qa, qk, _, rfl, hL, H⟩)
    · (repeat first | refine go ?_ | ((try conv => whnf); (first | (refine St_gate ?_; refine xS ?_) | (refine StN_gate ?_; refine xN ?_)); clear H; intro w H))
      obtain ⟨r, hr, H⟩ := engOpen H
      (repeat first | refine go ?_ | ((try conv => whnf); (first | (refine St_gate ?_; refine xS ?_) | (refine StN_gate ?_; refine xN ?_)); clear H; intro w H))
      refine Call_of (sTrailVars H mm) ?_
      rintro _ _ ⟨rfl, rfl⟩
      replace H := engClose hr H
      (repeat first | refine go ?_ | ((try conv => whnf); (first | (refine St_gate ?_; refine xS ?_) | (refine StN_gate ?_; refine xN ?_)); clear H; intro w H))
      refine Call_of (fNil H (by omega)) ?_
      clear H
      rintro _ w ⟨rfl, H⟩
      (repeat first | refine go ?_ | ((try conv => whnf); (first | (refine St_gate ?_; refine xS ?_) | (refine StN_gate ?_; refine xN ?_)); clear H; intro w H))
      exact Ret_in ⟨rfl, H.all⟩
    have hlen := hL.few hg1
    have hb0 := hL.b0
    have hbt := hL.back_lt
    have htd := hL.top_le hg1
    have hent := hL.ent hg1
    obtain ⟨b, rfl⟩ : ∃ b : Nat, back = b := ⟨back.toNat, by omega⟩
    have hl0 : (x :: Q).length = Q.length + 1 := rfl
    replace H := H.tp 1
    (repeat first | refine go ?_ | ((try conv => whnf); (first | (refine St_gate ?_; refine xS ?_) | (refine StN_gate ?_; refine xN ?_)); clear H; intro w H))
    obtain ⟨r, hr, H⟩ := engOpen H
    (repeat first | refine go ?_ | ((try conv => whnf); (first | (refine St_gate ?_; refine xS ?_) | (refine StN_gate ?_; refine xN ?_)); clear H; intro w H))
    refine Call_of (sTrailDepth H mm) ?_
    rintro _ _ ⟨rfl, rfl⟩
    replace H := engClose hr H
    (repeat first | refine go ?_ | ((try conv => whnf); (first | (refine St_gate ?_; refine xS ?_) | (refine StN_gate ?_; refine xN ?_)); clear H; intro w H))
    refine Call_of (tBack H h (j := b) (by omega) (by omega) (by omega)) ?_
    clear H
    rintro _ w ⟨rfl, h2, H⟩
    have hE2 : (Watch.back s b).E = upto s.E b := (h.back (by omega)).2.1
    have hD2 : (Watch.back s b).D = b := rfl
    (repeat first | refine go ?_ | ((try conv => whnf); (first | (refine St_gate ?_; refine xS ?_) | (refine StN_gate ?_; refine xN ?_)); clear H; intro w H))
    have hfitx : fitB k (x :: Q) = true := fitB_iff.2 fun y hy => ⟨by rw [one_ok]; exact (hent y hy).2.1, by rw [← hvn]; exact (hent y hy).2.2⟩
    obtain ⟨own, hcl⟩ : ∃ own, Lit.Clean (x :: Q) own := clean_ex fun y hy => by rw [one_ok]; exact (hent y hy).2.1
    refine Call_of (tAdd H h2 (xs := x :: Q) (fun h => h.srcM (a := qa) (n := (x :: Q).length) (cap := qk) (el := 27) (List.mem_append_right _ (.head _))) (by omega) (by omega) (by omega)) ?_
    clear H
    rintro _ w (⟨hno, _⟩ | ⟨_, id3, s3, rfl, h3, hE3, hD3, hh3, H⟩)
    · rw [hfitx] at hno; cases hno
    replace h3 := h3 own hcl
    rw [hL.both hg1, if_neg Bool.false_ne_true] at h3
    (repeat first | refine go ?_ | ((try conv => whnf); (first | (refine St_gate ?_; refine xS ?_) | (refine StN_gate ?_; refine xN ?_)); clear H; intro w H))
    refine Call_of (tHit H h3 hk (by omega) (by omega)) ?_
    clear H
    rintro _ w ⟨s4, id4, rfl, h4, x4, hit4, H⟩
    have hD4 : s4.D = b := by rw [x4.D, hD3, hD2]
    by_cases h0 : id4 < 0
    · obtain ⟨hF4, hh4⟩ : s4.F = [] ∧ s4.h = s4.E.length := by
        rcases hit4 with ⟨_, h1, h2⟩ | ⟨j4, _, h1, _⟩
        · exact ⟨h1, h2⟩
        · omega
      have hval : value s4.E x = 1 := h.leads hL (hE3.trans hE2) rfl h4 hcl x4 hF4 hh4
      (repeat first | refine go ?_ | ((try conv => whnf); (first | (refine St_gate ?_; refine xS ?_) | (refine StN_gate ?_; refine xN ?_)); clear H; intro w H))
      refine Draw_intro mixed [0, 1, 2, 3, 4, 5, 6, 7, 8, 9, 10, 11, 12] (by decide +kernel) (fun w _ fd => ?_); replace H := H.fr fd; clear fd
      obtain ⟨qb, rfl⟩ := (H.ownM (a := qa) (n := (x :: Q).length) (cap := qk) (el := 27) (sz := 1) (xs := (x :: Q).map lV) mm).some (by omega)
      obtain ⟨r, hr, H⟩ := engOpen H
      (repeat first | refine go ?_ | ((try conv => whnf); (first | (refine St_gate ?_; refine xS ?_) | (refine StN_gate ?_; refine xN ?_)); clear H; intro w H))
      refine Ix_in 0 rfl (by omega) ?_
      (repeat first | refine go ?_ | ((try conv => whnf); (first | (refine St_gate ?_; refine xS ?_) | (refine StN_gate ?_; refine xN ?_)); clear H; intro w H))
      have hs0 := H.srcM (a := some ⟨qb, 0, none⟩) (n := (x :: Q).length) (cap := qk) (el := 27) (sz := 1) (xs := (x :: Q).map lV) mm
      refine Ld_src (j := 0) hs0 (v := lV x) rfl ?_
      clear hs0
      (repeat first | refine go ?_ | ((try conv => whnf); (first | (refine St_gate ?_; refine xS ?_) | (refine StN_gate ?_; refine xN ?_)); clear H; intro w H))
      refine Call_of (sTrailValue H mm) ?_
      rintro _ _ ⟨rfl, rfl⟩
      rw [hval]
      (try conv => whnf)
      (repeat (refine Kept_gate ?_; refine xK ?_))
      (repeat first | refine go ?_ | ((try conv => whnf); (first | (refine St_gate ?_; refine xS ?_) | (refine StN_gate ?_; refine xN ?_)); clear H; intro w H))
      exact Ret_in ⟨rfl, H.all⟩
    · (repeat first | refine go ?_ | ((try conv => whnf); (first | (refine St_gate ?_; refine xS ?_) | (refine StN_gate ?_; refine xN ?_)); clear H; intro w H))
      replace H := H.drop 1 rfl rfl
      refine ⟨(turn + 1, s4, id4, C1 ++ [own]), ⟨congrArg some (vint (by simp)), rfl, ?_, trivial⟩, ⟨⟨by simp only []; omega, h4.mono (by simp only []; omega) (by simp only []; omega), hit4⟩, H⟩, by simp; omega⟩
      exact congrArg some (vint (by simp only []; omega))
  · exfalso; omega
end
end Go.Proofs.Ytajllmlgihbdhaa
