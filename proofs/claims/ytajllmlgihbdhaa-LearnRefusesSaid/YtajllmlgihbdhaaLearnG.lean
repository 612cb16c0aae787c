/- What is learnt of a conflict is as it should be. -/
import Derived.Test.YtajllmlgihbdhaaLearnF
set_option linter.unusedVariables false
set_option linter.unusedSimpArgs false
namespace Go.Watch
open Go.Trail
section
variable {S : Nat → Prop} {s : St} {c0 R out : List Int} {x top back t : Int}
theorem Learnt.top_eq (h : Learnt s c0 top x R back) (ht : TopI s.E (x :: R) t) : t = top := by
  have h1 := ht.le x (.head _)
  have h2 := h.ok.tops x (by simp)
  have h3 := h.ok.pos
  rcases ht.at' with h4 | ⟨y, hy, h4⟩
  · omega
  · rcases List.mem_cons.1 hy with rfl | hy
    · omega
    · have := h.ok.low y hy; omega
theorem Learnt.cnt (h : Learnt s c0 top x R back) : cntE s.E (x :: R) top = 1 := by
  have h0 : cntE s.E R top = 0 := cnt_none fun y hy => (h.ok.low y hy).2
  unfold cntE at *
  rw [List.filter_cons, if_pos (by simpa using h.ok.tops x (by simp)), List.length_cons, h0]
theorem Learnt.back_eq (h : Learnt s c0 top x R back) (ht : TopI s.E R t) : t = back := by
  have h1 := h.b0
  have h2 := ht.b0
  rcases ht.at' with h4 | ⟨y, hy, h4⟩
  · rcases h.bat with h5 | ⟨z, hz, h5⟩
    · omega
    · have := ht.le z hz; omega
  · have h6 := h.bl y hy
    rcases h.bat with h5 | ⟨z, hz, h5⟩
    · omega
    · have := ht.le z hz; omega
theorem Learnt.c_eq (h : Learnt s c0 top x R back) (hm : ∀ y, y ∈ out ↔ y ∈ c0) (ht : TopI s.E out t) : t = top := by
  have h1 := h.ok.pos
  obtain ⟨y, hy, h2⟩ := h.at'
  have h3 := ht.le y ((hm y).2 hy)
  rcases ht.at' with h4 | ⟨z, hz, h4⟩
  · omega
  · have := h.le z ((hm z).1 hz); omega
theorem Learnt.ent (hg : Good S s) (h : Learnt s c0 top x R back) : ∀ y ∈ x :: R, tru s.E (-y) ∧ okLit y = true ∧ var y ≤ s.n := by
  intro y hy
  have ht := h.ok.fls y hy
  obtain ⟨e, he, hel⟩ := ht
  obtain ⟨h1, h2, _⟩ := hg.inv.ok e he
  rw [hel, okLit_neg] at h1
  rw [hel, var_neg] at h2
  exact ⟨⟨e, he, hel⟩, h1, h2⟩
theorem Learnt.fit (hg : Good S s) (h : Learnt s c0 top x R back) : ∀ y ∈ x :: R, FitV s.n y := by
  intro y hy
  obtain ⟨_, h1, h2⟩ := h.ent hg y hy
  rw [var_ok h1] at h2
  have := okLit_iff.1 h1
  exact ⟨by omega, h2⟩
theorem Learnt.wise (hg : Good S s) (h : Learnt s c0 top x R back) : (x :: R).Pairwise fun y z => y.natAbs ≠ z.natAbs := by
  refine List.Pairwise.imp_of_mem (R := fun y z => var y ≠ var z) ?_ h.ok.once
  intro y z hy hz hyz e
  exact hyz (by rw [var_ok (h.ent hg y hy).2.1, var_ok (h.ent hg z hz).2.1, e])
theorem Learnt.both (hg : Good S s) (h : Learnt s c0 top x R back) : Lit.bothB (x :: R) = false := by
  cases hb : Lit.bothB (x :: R) with
  | false => rfl
  | true =>
    obtain ⟨y, h1, h2⟩ := Lit.bothB_iff.1 hb
    have hf := (h.fit hg y h1).1
    obtain ⟨i, hi⟩ := List.getElem?_of_mem h1
    obtain ⟨j, hj⟩ := List.getElem?_of_mem h2
    obtain ⟨hi1, hi2⟩ := List.getElem?_eq_some_iff.1 hi
    obtain ⟨hj1, hj2⟩ := List.getElem?_eq_some_iff.1 hj
    have hw := h.wise hg
    rw [List.pairwise_iff_getElem] at hw
    rcases Nat.lt_trichotomy i j with hlt | heq | hgt
    · exact (hw i j hi1 hj1 hlt (by rw [hi2, hj2, Int.natAbs_neg])).elim
    · subst heq; rw [hi2] at hj2; omega
    · exact (hw j i hj1 hi1 hgt (by rw [hi2, hj2, Int.natAbs_neg])).elim
theorem Learnt.few (hg : Good S s) (h : Learnt s c0 top x R back) : (x :: R).length ≤ s.n := by
  have := pigeons s.n ((x :: R).map var) (by
    rw [List.pairwise_map]
    refine List.Pairwise.imp_of_mem ?_ h.ok.once
    intro y z hy hz hyz e
    exact hyz e) (by
    intro p hp
    obtain ⟨y, hy, rfl⟩ := List.mem_map.1 hp
    have h1 := var_pos.2 (h.ent hg y hy).2.1
    have h2 := (h.ent hg y hy).2.2
    omega)
  rwa [List.length_map] at this
theorem len_same {a b : List Int} (ha : a.Pairwise (· ≠ ·)) (hb : b.Pairwise (· ≠ ·)) (h : ∀ x, x ∈ a ↔ x ∈ b) : a.length = b.length := by
  have hp : a.Perm b := by
    rw [List.perm_iff_count]
    intro x
    have h1 := List.nodup_iff_count.1 ha x
    have h2 := List.nodup_iff_count.1 hb x
    by_cases hx : x ∈ a
    · have h3 := List.count_pos_iff.2 hx
      have h4 := List.count_pos_iff.2 ((h x).1 hx)
      omega
    · rw [List.count_eq_zero.2 hx, List.count_eq_zero.2 fun h' => hx ((h x).2 h')]
  exact hp.length_eq
theorem Learnt.clean (hg : Good S s) (h : Learnt s c0 top x R back) (hcl : Lit.Clean (x :: R) out) : out.length = (x :: R).length := by
  refine len_same (hcl.asc.imp fun h e => ?_) ((h.wise hg).imp fun h e => h (by rw [e])) hcl.mem
  subst e; omega
theorem conf_congr {C : List (List Int)} {Δ Δ' : Int → Prop} (h : ∀ x, Δ x ↔ Δ' x) : Conf (GamL C) Δ ↔ Conf (GamL C) Δ' := by
  have : Δ = Δ' := funext fun x => propext (h x)
  rw [this]
theorem Tut.conf_iff {n k m : Nat} {C : List (List Int)} (h : Tut s n C k m) {Δ Δ' : Int → Prop} (hd : ∀ x, Δ x ↔ Δ' x) : Conf (Gam s) Δ ↔ Conf (GamL C) Δ' := by
  have e1 : Gam s = GamL C := funext fun c => propext (h.gam c)
  rw [e1, conf_congr hd]
theorem Tut.fo_iff {n k m : Nat} {C : List (List Int)} (h : Tut s n C k m) {Δ Δ' : Int → Prop} (hd : ∀ x, Δ x ↔ Δ' x) (x : Int) : Fo (Gam s) Δ x ↔ Fo (GamL C) Δ' x := by
  have e1 : Gam s = GamL C := funext fun c => propext (h.gam c)
  have e2 : Δ = Δ' := funext fun x => propext (hd x)
  rw [e1, e2]
theorem Learnt.back_lt (h : Learnt s c0 top x R back) : back < top := by
  have h1 := h.ok.pos
  rcases h.bat with h2 | ⟨y, hy, h2⟩
  · omega
  · have := h.ok.low y hy; omega
theorem Learnt.top_le (hg : Good S s) (h : Learnt s c0 top x R back) : top ≤ s.D := by
  obtain ⟨y, hy, h1⟩ := h.at'
  have := hg.lv_small (var y)
  omega
end
end Go.Watch
namespace Go.Proofs.Ytajllmlgihbdhaa
open Go Go.Vc Go.Watch Go.Lit
open Go.Trail (Ent value find upto okLit litsV)
set_option maxHeartbeats 8000000
set_option maxRecDepth 100000
section
variable {w0 w : World} {l : List Res} {eb pb : Nat} {s : St} {n k m : Nat} {R : List Fl} {sa : Option Addr} {sc : Nat}

theorem qFollows {c : List Int} {a : Option Addr} {kc : Nat} (H : Sep w0 w l) (hm : ownR sa R.length sc 28 1 (R.map flV) ∈ l) (hb : bigR rowR R ∈ l) (hn : n ≤ 262144) (hR : R.length ≤ 1000000) (hC : FitC n (clsL R))
    (hc : ∀ {w' : World} {l' : List Res}, Sep w0 w' (l' ++ l) → Src w' a c.length 1 (c.map lV)) (hcm : c.length ≤ 9223372036854775807) (hf : ∀ y ∈ c, FitV n y) (hp : c.Pairwise fun x y => x.natAbs ≠ y.natAbs) :
    Does Try.prog 23 #[.int .i64 n, .slice sa R.length sc, .slice a c.length kc] w fun v w' => ∃ b, v = .bool b ∧ (b = true ↔ Conf (GamL (clsL R)) (fun z => ∃ y ∈ c, z = -y)) ∧ Sep w0 w' l := by
  have e : (clsL R).length = R.length := List.length_map ..
  have h := rFollows (C := clsL R) (R := R) (ca := sa) (cc := sc) (c := c) (a := a) (k := kc) (n := n) H hn (fun h => Sep.clauses h (List.mem_append_right _ hm) (List.mem_append_right _ hb)) (by omega) hC hc hcm hf hp
  rw [e] at h
  exact h

theorem qTaught (H : Sep w0 w (engR eb s :: stuL pb eb sa sc R l)) (h : Tut s n (clsL R) k m) (hk : k ≤ 1000000) (hn : n ≤ 262144) (hR : R.length ≤ 1000000) {id : Nat} {c : Cls} (hc : s.C[id]? = some c) (ho : c.on = true) (hf : ∀ y ∈ c.lits, tru s.E (-y)) :
    Does Try.prog 26 #[.pointer (some ⟨pb, 0, none⟩), idV id] w fun v w' =>
      (v = .tuple #[.slice none 0 0, .int .i64 0, .bool true] ∧ Sep w0 w' (engR eb s :: stuL pb eb sa sc R l)) ∨
      ∃ top x Q back a k, v = .tuple #[.slice a (x :: Q).length k, .int .i64 back, .bool true] ∧ Learnt s c.lits top x Q back ∧ Sep w0 w' (ownR a (x :: Q).length k 27 1 ((x :: Q).map lV) :: engR eb s :: stuL pb eb sa sc R l) := by
  have hg := h.good
  have hCk := h.few
  have hvn := h.vars
  have hlits := h.lits
  have hcl0 := hg.cl c (List.mem_of_getElem? hc)
  have hcm := hlits c (List.mem_of_getElem? hc)
  refine Does_intro tok (Try.call26 _ _) Try.func26 rfl (by rfl) ?_
  unfold stuL at H
  (repeat first | refine go ?_ | ((try conv => whnf); (first | (refine St_gate ?_; refine xS ?_) | (refine StN_gate ?_; refine xN ?_)); clear H; intro w H))
  refine Call_of (eClause H hc ho (fun x hx => by rw [one_ok]; exact (hcl0.1 x hx).1) (by omega) (by omega)) ?_
  clear H
  rintro _ w ⟨ca, cc, out, rfl, hcl, hol, H⟩
  have hmem := hcl.mem
  replace H := H.tp 1
  (repeat first | refine go ?_ | ((try conv => whnf); (first | (refine St_gate ?_; refine xS ?_) | (refine StN_gate ?_; refine xN ?_)); clear H; intro w H))
  refine Call_of (qLevel H hg (fun h => h.srcM (List.mem_append_right _ (.head _))) (by omega)) ?_
  clear H
  rintro _ w ⟨t0, rfl, ht0, H⟩
  (repeat first | refine go ?_ | ((try conv => whnf); (first | (refine St_gate ?_; refine xS ?_) | (refine StN_gate ?_; refine xN ?_)); clear H; intro w H))
  refine Call_of (lLearn H hg h.dp hc ho hlits (by omega)) ?_
  clear H
  rintro _ w (⟨hno, rfl, H⟩ | ⟨top, x, Q, back, a, kk, _, rfl, hL, H⟩)
  · have h0 : t0 = 0 := by
      have h1 := ht0.b0
      rcases ht0.at' with h2 | ⟨y, hy, h2⟩
      · exact h2
      · rcases hno with ⟨z, hz, h3⟩ | h3
        · exact (h3 (hf z hz)).elim
        · have := h3 y ((hmem y).1 hy); omega
    subst h0
    (repeat first | refine go ?_ | ((try conv => whnf); (first | (refine St_gate ?_; refine xS ?_) | (refine StN_gate ?_; refine xN ?_)); clear H; intro w H))
    refine Ret_in (.inl ⟨rfl, ?_⟩)
    exact H.drop 1 rfl rfl
  obtain rfl := hL.c_eq hmem ht0
  have htp := hL.ok.pos
  have hlen := hL.few hg
  have hl0 : (x :: Q).length = Q.length + 1 := rfl
  have hfit := hL.fit hg
  have hent := hL.ent hg
  have hcnt := hL.cnt
  have hkk := (H.ownM (a := a) (n := (x :: Q).length) (cap := kk) (hm := .head _)).2.1
  have hx0 : lvE s.E (Trail.var x) = t0 := hL.ok.tops x (by simp)
  replace H := H.tp 1
  (repeat first | refine go ?_ | ((try conv => whnf); (first | (refine St_gate ?_; refine xS ?_) | (refine StN_gate ?_; refine xN ?_)); clear H; intro w H))
  refine Call_of (qLevel H hg (ys := x :: Q) (fun h => h.srcM (List.mem_append_right _ (.head _))) (by omega)) ?_
  clear H
  rintro _ w ⟨t1, rfl, ht1, H⟩
  obtain rfl := hL.top_eq ht1
  rw [hcnt]
  (repeat first | refine go ?_ | ((try conv => whnf); (first | (refine St_gate ?_; refine xS ?_) | (refine StN_gate ?_; refine xN ?_)); clear H; intro w H))
  refine Draw_intro mixed [0, 1, 2, 3, 4, 5, 6, 7, 8, 9, 10, 11] (by decide +kernel) (fun w _ fd => ?_); replace H := H.fr fd; clear fd
  (repeat first | refine go ?_ | ((try conv => whnf); (first | (refine St_gate ?_; refine xS ?_) | (refine StN_gate ?_; refine xN ?_)); clear H; intro w H))
  have hdr : ∀ {w' : World} {l' l2 : List Res}, Vc.Sep w0 w' (l' ++ ownR a (x :: Q).length kk 27 1 ((x :: Q).map lV) :: l2) → Src w' (if kk = 1 then a else a.map (·.add (1 * 1))) Q.length 1 (Q.map lV) :=
    fun h => (h.srcM (a := a) (n := (x :: Q).length) (cap := kk) (el := 27) (sz := 1) (xs := (x :: Q).map lV) (List.mem_append_right _ (.head _))).drop (l := 1) (by omega) hkk
  refine DoS_slice tok rfl rfl 1 (x :: Q).length (.inr ⟨_, rfl⟩) (.inl ⟨rfl, rfl⟩) (by omega) hkk ?_
  rw [show (x :: Q).length - 1 = Q.length from rfl]
  generalize (if kk = 1 then a else a.map (·.add (1 * 1))) = a2 at hdr ⊢
  intro J hJ
  (repeat first | refine go ?_ | ((try conv => whnf); (first | (refine St_gate ?_; refine xS ?_) | (refine StN_gate ?_; refine xN ?_)); clear H; intro w H))
  refine Call_of (qLevel (ys := Q) H hg hdr (by omega)) ?_
  clear H
  rintro _ w ⟨t2, rfl, ht2, H⟩
  obtain rfl := hL.back_eq ht2
  (try conv => whnf)
  (repeat (refine Kept_gate ?_; first | refine Kept_in (hJ _) ?_ | refine Kept_in (Sep.cellAt H mm (by rfl)) ?_ | refine Kept_in (Sep.cellN H mm) ?_))
  (repeat first | refine go ?_ | ((try conv => whnf); (first | (refine St_gate ?_; refine xS ?_) | (refine StN_gate ?_; refine xN ?_)); clear H; intro w H))
  refine Draw_intro mixed [0, 1, 2, 3, 4, 5, 6, 7, 8, 9, 10, 11, 12, 13, 14, 15, 16, 17, 20, 18, 19, 21, 22, 23, 24, 25, 26, 27, 28, 29, 30, 31, 32, 33, 34, 35, 37, 38, 39, 40, 41, 36, 42, 43, 44] (by decide +kernel) (fun w _ fd => ?_); replace H := H.fr fd; clear fd
  (repeat first | refine go ?_ | ((try conv => whnf); (first | (refine St_gate ?_; refine xS ?_) | (refine StN_gate ?_; refine xN ?_)); clear H; intro w H))
  obtain ⟨ab, rfl⟩ := (H.ownM (a := a) (n := (x :: Q).length) (cap := kk) (hm := .tail _ (.head _))).some (by omega)
  obtain ⟨r, hr, H⟩ := engOpen H
  (repeat first | refine go ?_ | ((try conv => whnf); (first | (refine St_gate ?_; refine xS ?_) | (refine StN_gate ?_; refine xN ?_)); clear H; intro w H))
  refine Ix_in 0 rfl (by omega) ?_
  have hs0 := H.srcM (a := some ⟨ab, 0, none⟩) (n := (x :: Q).length) (cap := kk) (el := 27) (sz := 1) (xs := (x :: Q).map lV) mm
  (repeat first | refine go ?_ | ((try conv => whnf); (first | (refine St_gate ?_; refine xS ?_) | (refine StN_gate ?_; refine xN ?_)); clear H; intro w H))
  refine Ld_src (j := 0) hs0 (v := lV x) rfl ?_
  clear hs0
  (repeat first | refine go ?_ | ((try conv => whnf); (first | (refine St_gate ?_; refine xS ?_) | (refine StN_gate ?_; refine xN ?_)); clear H; intro w H))
  refine Call_of (rVar (x := x) _) ?_
  rintro _ _ ⟨rfl, rfl⟩
  rw [var_var]
  (try conv => whnf)
  (repeat (refine Kept_gate ?_; refine xK ?_))
  (repeat first | refine go ?_ | ((try conv => whnf); (first | (refine St_gate ?_; refine xS ?_) | (refine StN_gate ?_; refine xN ?_)); clear H; intro w H))
  refine Call_of (sTrailLevel H mm) ?_
  clear H
  rintro _ w ⟨rfl, H⟩
  rw [show (knownOf s.E (Trail.var x : Int)).2.1 = lvE s.E (Trail.var x) from rfl, hx0]
  (try conv => whnf)
  (repeat (refine Kept_gate ?_; refine xK ?_))
  (repeat first | refine go ?_ | ((try conv => whnf); (first | (refine St_gate ?_; refine xS ?_) | (refine StN_gate ?_; refine xN ?_)); clear H; intro w H))
  refine Call_of (sTrailVars H mm) ?_
  rintro _ _ ⟨rfl, rfl⟩
  replace H := engClose hr H
  rw [hvn]
  (try conv => whnf)
  (repeat (refine Kept_gate ?_; refine xK ?_))
  (repeat first | refine go ?_ | ((try conv => whnf); (first | (refine St_gate ?_; refine xS ?_) | (refine StN_gate ?_; refine xN ?_)); clear H; intro w H))
  refine Call_of (qFollows (c := x :: Q) (R := R) (sa := sa) (sc := sc) H (.tail _ (.tail _ (.tail _ (.tail _ (.head _))))) (.tail _ (.tail _ (.tail _ (.tail _ (.tail _ (.head _)))))) hn hR h.fit (fun h => h.srcM (List.mem_append_right _ (.tail _ (.head _)))) (by omega) (by rw [← hvn]; exact hfit) (hL.wise hg)) ?_
  clear H
  rintro _ w ⟨b, rfl, hb, H⟩
  have hbt : b = true := hb.2 ((h.conf_iff (fun y => by unfold Watch.Neg; simp)).1 hL.conf)
  subst hbt
  (try conv => whnf)
  (repeat (refine Kept_gate ?_; refine xK ?_))
  (repeat first | refine go ?_ | ((try conv => whnf); (first | (refine St_gate ?_; refine xS ?_) | (refine StN_gate ?_; refine xN ?_)); clear H; intro w H))
  refine Call_of (rClean (xs := x :: Q) H (fun h => h.srcM (a := some ⟨ab, 0, none⟩) (n := (x :: Q).length) (cap := kk) (el := 27) (List.mem_append_right _ mm)) (by omega) (fun y hy => by rw [one_ok]; exact (hent y hy).2.1)) ?_
  clear H
  rintro _ w ⟨oa, oc, out2, rfl, hcl2, _, H⟩
  rw [hL.both hg, hL.clean hg hcl2] at *
  (repeat first | refine go ?_ | ((try conv => whnf); (first | (refine St_gate ?_; refine xS ?_) | (refine StN_gate ?_; refine xN ?_)); clear H; intro w H))
  replace H := H.tail
  replace H := H.drop 2 rfl rfl
  replace H := H.tp 2
  replace H := H.tp 1
  have hlv1 : ∀ y ∈ x :: Q, 1 ≤ lvE s.E (Trail.var y) := by
    intro y hy
    rcases List.mem_cons.1 hy with rfl | hy
    · omega
    · exact (hL.ok.low y hy).1
  refine Loop_intro (fun i : Nat => [(147, .int .i64 (i : Int))]) (fun i w => i ≤ (x :: Q).length ∧ Vc.Sep w0 w (engR eb s :: cellsR pb 38 [.pointer (some ⟨eb, 0, none⟩), .slice sa R.length sc] :: ownR (some ⟨ab, 0, none⟩) (x :: Q).length kk 27 1 ((x :: Q).map lV) :: ownR sa R.length sc 28 1 (R.map flV) :: bigR rowR R :: l)) (fun i => (x :: Q).length - i)
    0 ⟨rfl, trivial⟩ ⟨Nat.zero_le _, H⟩ ?_
  clear H
  intro i w ⟨hi, H⟩
  refine Br_dec (fun k1 => ?_) (fun k1 => ?_)
  · have hlt : i < (x :: Q).length := by omega
    have hyi : (x :: Q)[i]? = some (x :: Q)[i] := List.getElem?_eq_getElem hlt
    have hym := List.getElem_mem hlt
    have hyq : 0 < i → (x :: Q)[i] ∈ Q := by
      intro h0
      obtain ⟨j, rfl⟩ : ∃ j, i = j + 1 := ⟨i - 1, by omega⟩
      rw [List.getElem_cons_succ]
      exact List.getElem_mem _
    generalize (x :: Q)[i] = y at *
    have hy1 := hlv1 y hym
    obtain ⟨hyt, hyo, _⟩ := hent y hym
    have hyv : value s.E y = -1 := (hg.valn hyo).2 hyt
    have hsrc := H.srcM (a := some ⟨ab, 0, none⟩) (n := (x :: Q).length) (cap := kk) (el := 27) (sz := 1) (xs := (x :: Q).map lV) mm
    (repeat first | refine go ?_ | ((try conv => whnf); (first | (refine St_gate ?_; refine xS ?_) | (refine StN_gate ?_; refine xN ?_)); clear H; intro w H))
    refine Ix_in i rfl hlt ?_
    refine Ld_src (j := i) hsrc (v := lV y) (by rw [List.getElem?_map, hyi]; rfl) ?_
    clear hsrc
    (repeat first | refine go ?_ | ((try conv => whnf); (first | (refine St_gate ?_; refine xS ?_) | (refine StN_gate ?_; refine xN ?_)); clear H; intro w H))
    refine Draw_intro mixed [0, 1, 2, 3, 4, 5, 6, 7, 8, 9, 10, 11, 12, 13, 14, 15, 16, 17, 18, 19, 20, 21, 22, 23, 24, 25, 26, 27, 28, 29, 30, 31, 32] (by decide +kernel) (fun w _ fd => ?_); replace H := H.fr fd; clear fd
    obtain ⟨r, hr, H⟩ := engOpen H
    (repeat first | refine go ?_ | ((try conv => whnf); (first | (refine St_gate ?_; refine xS ?_) | (refine StN_gate ?_; refine xN ?_)); clear H; intro w H))
    refine Call_of (sTrailValue H mm) ?_
    rintro _ _ ⟨rfl, rfl⟩
    rw [hyv]
    (try conv => whnf)
    (repeat (refine Kept_gate ?_; refine xK ?_))
    (repeat first | refine go ?_ | ((try conv => whnf); (first | (refine St_gate ?_; refine xS ?_) | (refine StN_gate ?_; refine xN ?_)); clear H; intro w H))
    refine Call_of (rVar (x := y) _) ?_
    rintro _ _ ⟨rfl, rfl⟩
    rw [var_var]
    (try conv => whnf)
    (repeat (refine Kept_gate ?_; refine xK ?_))
    (repeat first | refine go ?_ | ((try conv => whnf); (first | (refine St_gate ?_; refine xS ?_) | (refine StN_gate ?_; refine xN ?_)); clear H; intro w H))
    refine Call_of (sTrailLevel H mm) ?_
    clear H
    rintro _ w ⟨rfl, H⟩
    rw [show (knownOf s.E (Trail.var y : Int)).2.1 = lvE s.E (Trail.var y) from rfl]
    (try conv => whnf)
    (repeat (refine Kept_gate ?_; refine xK ?_))
    replace H := engClose hr H
    by_cases h0 : 0 < i
    · (repeat first | refine go ?_ | ((try conv => whnf); (first | (refine St_gate ?_; refine xS ?_) | (refine StN_gate ?_; refine xN ?_)); clear H; intro w H))
      refine Call_of (qNeedless H hg hlits (by omega) (x0 := x) (R := Q) (fun h => h.srcM (a := some ⟨ab, 0, none⟩) (cap := kk) (el := 27) (List.mem_append_right _ (.head _))) (by omega) (fun z hz => (hent z hz).2.1) hyt) ?_
      clear H
      rintro _ w ⟨rfl, H⟩
      rw [hL.lean y (hyq h0)]
      (try conv => whnf)
      (repeat (refine Kept_gate ?_; refine xK ?_))
      (repeat first | refine go ?_ | ((try conv => whnf); (first | (refine St_gate ?_; refine xS ?_) | (refine StN_gate ?_; refine xN ?_)); clear H; intro w H))
      exact ⟨i + 1, ⟨congrArg some (vint (by omega)), trivial⟩, ⟨by omega, H⟩, by omega⟩
    · (repeat first | refine go ?_ | ((try conv => whnf); (first | (refine St_gate ?_; refine xS ?_) | (refine StN_gate ?_; refine xN ?_)); clear H; intro w H))
      exact ⟨i + 1, ⟨congrArg some (vint (by omega)), trivial⟩, ⟨by omega, H⟩, by omega⟩
  · (repeat first | refine go ?_ | ((try conv => whnf); (first | (refine St_gate ?_; refine xS ?_) | (refine StN_gate ?_; refine xN ?_)); clear H; intro w H))
    refine Ret_in (.inr ⟨_, x, Q, _, _, kk, rfl, hL, ?_⟩)
    replace H := H.tp 2
    exact H
end
end Go.Proofs.Ytajllmlgihbdhaa
