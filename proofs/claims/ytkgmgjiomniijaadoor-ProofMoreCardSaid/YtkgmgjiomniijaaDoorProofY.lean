/- A bench in memory: does a clause follow? -/
import Derived.Test.YtkgmgjiomniijaaDoorProofX
set_option linter.unusedVariables false
set_option linter.unusedSimpArgs false
namespace Go.Watch
open Go.Trail
theorem fo_but {G : List Int → Prop} {D : Int → Prop} {e : Int} (h : ∀ c, G c → ∀ y ∈ c, -y ≠ e) {x : Int} (hx : Fo G (fun z => z = e ∨ D z) x) : x = e ∨ Fo G D x := by
  induction hx with
  | dec h => exact h.imp id fun h => .dec h
  | @cls c x hc hx _ ih => exact .inr (.cls hc hx fun y hy hne => (ih y hy hne).resolve_left (h c hc y hy))
theorem conf_but {G : List Int → Prop} {D : Int → Prop} {e : Int} (h : ∀ c, G c → ∀ y ∈ c, -y ≠ e) : Conf G (fun z => z = e ∨ D z) ↔ Conf G D := by
  constructor
  · rintro ⟨c, hc, hy⟩
    exact ⟨c, hc, fun y hyc => (fo_but h (hy y hyc)).resolve_left (h c hc y hyc)⟩
  · exact fun hc => hc.mono (fun _ h => h) fun x hx => .dec (.inr hx)
theorem neg_same {k k' : List Int} (h : ∀ x, x ∈ k ↔ x ∈ k') (z : Int) : NegC k z ↔ NegC k' z := ⟨fun ⟨y, h1, h2⟩ => ⟨y, (h y).1 h1, h2⟩, fun ⟨y, h1, h2⟩ => ⟨y, (h y).2 h1, h2⟩⟩
end Go.Watch
namespace Go.Proofs.YtkgmgjiomniijaaDoor
open Go Go.Vc Go.Watch Go.Lit
open Go.Trail (Ent value find upto okLit litsV)
set_option maxHeartbeats 4000000
set_option maxRecDepth 100000
section
variable {w0 w : World} {l : List Res} {pb eb mb n m : Nat} {s : St} {R : List Ids} {A : List (List Int × Bool)} {fr : Int}
theorem free_yes {k : Nat} {E : List Ent} {x : Int} (h1 : okLit x = true) (h2 : Trail.var x ≤ k) (h3 : find E (Trail.var x) = none) : freeNo k E x = 0 := by
  unfold freeNo
  rw [if_pos ⟨Trail.var_pos.2 h1, h2⟩, if_pos h3]

/-- What was decided: the extra one, and the others' other signs. -/
structure Dcd (s : St) (n i : Nat) (A : List (List Int × Bool)) (m : Nat) (xs : List Int) : Prop where
  bn : Bn s (n + 1) A m
  h : s.h = 0
  D : s.D ≤ i + 1
  D0 : s.D ≠ 0
  rea : ∀ e ∈ s.E, e.rea = -1
  dec : ∀ z, (∃ e ∈ s.E, e.lit = z) ↔ z = (n : Int) + 1 ∨ NegC (xs.take i) z

theorem bConflict (H : Sep w0 w (ben pb eb mb s R n fr l)) (hb : BOk s R n A m) {xs : List Int} {a : Option Addr} {c : Nat} (hs : ∀ {w' : World} {l' : List Res}, Sep w0 w' (l' ++ l) → Src w' a xs.length 1 (xs.map lV)) (hx : xs.length ≤ 900000) (hf : fitB n xs = true)
    (hno : Lit.bothB xs = false) (hn : n ≤ 262000) (hm : m + (n + 2) * (A.length + 1) ≤ 400000000) (hA : A.length ≤ 1000000) :
    Does Tryd.prog 23 #[.pointer (some ⟨pb, 0, none⟩), .slice a xs.length c] w fun v w' => ∃ s' z, v = .int .i64 z ∧ (0 ≤ z ↔ Conf (GamL (hand A)) (NegC xs)) ∧ Bn s' (n + 1) A (m + (n + 2) * (A.length + 1)) ∧ s'.D ≤ xs.length + 1 ∧ Sep w0 w' (ben pb eb mb s' R n fr l) := by
  have hfit := fitB_iff.1 hf
  have hg := hb.bn.good
  have hsn := hb.bn.n
  have hex : okLit ((n : Int) + 1) = true := Trail.okLit_iff.2 (by omega)
  have hexv : Trail.var ((n : Int) + 1) = n + 1 := by rw [Trail.var_ok hex]; omega
  unfold ben at H
  refine Does_intro tok (Tryd.call23 _ _) Tryd.func23 rfl (by rfl) ?_
  (repeat first | refine go ?_ | ((try conv => whnf); (first | (refine St_gate ?_; refine xS ?_) | (refine StN_gate ?_; refine xN ?_)); clear H; intro w H))
  refine Draw_intro mixed [0, 1, 2, 3, 4, 5, 6, 7, 8] (by decide +kernel) (fun w _ fd => ?_); replace H := H.fr fd; clear fd
  (repeat first | refine go ?_ | ((try conv => whnf); (first | (refine St_gate ?_; refine xS ?_) | (refine StN_gate ?_; refine xN ?_)); clear H; intro w H))
  replace H := H.tp 1
  have hfr : freeNo s.n s.E ((n : Int) + 1) = 0 := free_yes hex (by omega) (by rw [hb.E]; rfl)
  refine Call_of (eDecide H (x := (n : Int) + 1) (by rw [hb.D]; decide)) ?_
  clear H
  rintro _ w ⟨rfl, H⟩
  rw [hfr, if_pos rfl] at H
  rw [hfr]
  have hd0 : Dcd (Watch.decide' s ((n : Int) + 1)) n 0 A m xs := by
    have hE : (Watch.decide' s ((n : Int) + 1)).E = [⟨(n : Int) + 1, 1, -1⟩] := by
      show s.E ++ [(⟨(n : Int) + 1, s.D + 1, -1⟩ : Ent)] = _
      rw [hb.E, hb.D]; rfl
    refine ⟨hb.bn.dec hex (by omega) (by rw [hb.E]; rfl), hb.h, by show s.D + 1 ≤ 1; rw [hb.D]; decide, by show s.D + 1 ≠ 0; omega, ?_, ?_⟩
    · rw [hE]; simp
    · intro z
      rw [hE]
      simp [NegC]
      exact eq_comm
  (repeat first | refine go ?_ | ((try conv => whnf); (first | (refine St_gate ?_; refine xS ?_) | (refine StN_gate ?_; refine xN ?_)); clear H; intro w H))
  refine Loop_intro (fun q : Nat × St => [(18, .int .i64 (q.1 : Int))]) (fun q w => (q.1 ≤ xs.length ∧ Dcd q.2 n q.1 A m xs) ∧ Sep w0 w (engR eb q.2 :: cellsR pb 51 [.pointer (some ⟨eb, 0, none⟩), .int .i32 ((n : Int) + 1), .map (some mb), .int .i64 fr] :: mapD mb keyV (mOf R) R.length :: bigR rowI R :: l)) (fun q => xs.length - q.1)
    (0, Watch.decide' s ((n : Int) + 1)) ⟨rfl, trivial⟩ ⟨⟨Nat.zero_le _, hd0⟩, H⟩ ?_
  have hfitA := hb.fit
  clear H hd0 hfr hg hsn hb
  rintro ⟨i, s⟩ w ⟨⟨hi, hd⟩, H⟩
  simp only [] at hi hd H ⊢
  have hg := hd.bn.good
  have hsn := hd.bn.n
  refine Br_dec (fun k1 => ?_) (fun k1 => ?_)
  · have hlt : i < xs.length := by omega
    have hsrc : Src w a xs.length 1 (xs.map lV) := hs (l' := [_, _, _, _]) H
    obtain ⟨yb, yo, rfl⟩ := hsrc.addr (by rw [List.length_map]; omega)
    have hyi : xs[i]? = some xs[i] := List.getElem?_eq_getElem hlt
    have hym := List.getElem_mem hlt
    have hnx : xs.take (i + 1) = xs.take i ++ [xs[i]] := by rw [List.take_add_one, hyi]; rfl
    generalize xs[i] = y at *
    obtain ⟨hy1, hy2⟩ := hfit y hym
    have hyo : okLit y = true := by rw [← one_ok]; exact hy1
    have hnyo : okLit (-y) = true := by rw [Trail.okLit_neg]; exact hyo
    have hyb := Trail.okLit_iff.1 hyo
    have hval : value s.E y ≠ 1 := by
      intro hv
      have ht := (hg.val1 hyo).1 hv
      rcases (hd.dec y).1 ht with h | ⟨z, hz, h⟩
      · rw [Trail.var_ok hyo] at hy2
        omega
      · have : Lit.bothB xs = true := Lit.bothB_iff.2 ⟨y, hym, by rw [h, Int.neg_neg]; exact List.mem_of_mem_take hz⟩
        rw [hno] at this; cases this
    refine Ix_in i rfl hlt ?_
    refine Ld_src (j := i) hsrc (v := lV y) (by rw [List.getElem?_map, hyi]; rfl) ?_
    clear hsrc
    (repeat first | refine go ?_ | ((try conv => whnf); (first | (refine St_gate ?_; refine xS ?_) | (refine StN_gate ?_; refine xN ?_)); clear H; intro w H))
    obtain ⟨r, hr, H⟩ := engOpen H
    (repeat first | refine go ?_ | ((try conv => whnf); (first | (refine St_gate ?_; refine xS ?_) | (refine StN_gate ?_; refine xN ?_)); clear H; intro w H))
    refine Call_of (sTrailValue H mm) ?_
    rintro _ _ ⟨rfl, rfl⟩
    replace H := engClose hr H
    by_cases h0 : value s.E y = 0
    · have hfind : find s.E (Trail.var (-y)) = none := by rw [Trail.var_neg]; exact val_zero hg.inv hyo h0
      have hfr : freeNo s.n s.E (-y) = 0 := free_yes hnyo (by rw [Trail.var_neg]; omega) hfind
      (repeat first | refine go ?_ | ((try conv => whnf); (first | (refine St_gate ?_; refine xS ?_) | (refine StN_gate ?_; refine xN ?_)); clear H; intro w H))
      rw [show (0 - y : Int) = -y by omega]
      refine Call_of (eDecide H (x := -y) (by have := hg.deepLe; omega)) ?_
      clear H
      rintro _ w ⟨rfl, H⟩
      rw [hfr, if_pos rfl] at H
      rw [hfr]
      (repeat first | refine go ?_ | ((try conv => whnf); (first | (refine St_gate ?_; refine xS ?_) | (refine StN_gate ?_; refine xN ?_)); clear H; intro w H))
      refine ⟨(i + 1, Watch.decide' s (-y)), ⟨congrArg some (vint (by simp)), trivial⟩, ⟨⟨by simp only []; omega, ?_⟩, H⟩, by simp; omega⟩
      have hE : (Watch.decide' s (-y)).E = s.E ++ [⟨-y, s.D + 1, -1⟩] := rfl
      refine ⟨hd.bn.dec hnyo (by rw [Trail.var_neg]; omega) (Trail.value_none hg.inv hnyo hfind), hd.h, by show s.D + 1 ≤ i + 1 + 1; have := hd.D; omega, by show s.D + 1 ≠ 0; omega, ?_, ?_⟩
      · intro e he
        rw [hE, List.mem_append, List.mem_singleton] at he
        rcases he with he | rfl
        · exact hd.rea e he
        · rfl
      · intro z
        rw [hE, hnx]
        constructor
        · rintro ⟨e, he, rfl⟩
          rw [List.mem_append, List.mem_singleton] at he
          rcases he with he | rfl
          · rcases (hd.dec _).1 ⟨e, he, rfl⟩ with h | ⟨q, hq, h⟩
            · exact .inl h
            · exact .inr ⟨q, List.mem_append_left _ hq, h⟩
          · exact .inr ⟨y, by simp, rfl⟩
        · rintro (h | ⟨q, hq, h⟩)
          · obtain ⟨e, he, hl⟩ := (hd.dec z).2 (.inl h)
            exact ⟨e, List.mem_append_left _ he, hl⟩
          · rw [List.mem_append, List.mem_singleton] at hq
            rcases hq with hq | rfl
            · obtain ⟨e, he, hl⟩ := (hd.dec z).2 (.inr ⟨q, hq, h⟩)
              exact ⟨e, List.mem_append_left _ he, hl⟩
            · exact ⟨_, List.mem_append_right _ (List.mem_singleton.2 rfl), h.symm⟩
    · (repeat first | refine go ?_ | ((try conv => whnf); (first | (refine St_gate ?_; refine xS ?_) | (refine StN_gate ?_; refine xN ?_)); clear H; intro w H))
      refine ⟨(i + 1, s), ⟨congrArg some (vint (by simp)), trivial⟩, ⟨⟨by simp only []; omega, ?_⟩, H⟩, by simp; omega⟩
      have hm1 : value s.E y = -1 := by
        rcases Watch.val_cases s.E y with h | h | h
        · exact (hval h).elim
        · exact (h0 h).elim
        · exact h
      have ht := (hg.valn hyo).1 hm1
      refine ⟨hd.bn, hd.h, by have := hd.D; simp only []; omega, hd.D0, hd.rea, fun z => ?_⟩
      rw [hd.dec z, hnx]
      constructor
      · rintro (h | ⟨q, hq, h⟩)
        · exact .inl h
        · exact .inr ⟨q, List.mem_append_left _ hq, h⟩
      · rintro (h | ⟨q, hq, h⟩)
        · exact .inl h
        · rw [List.mem_append, List.mem_singleton] at hq
          rcases hq with hq | rfl
          · exact .inr ⟨q, hq, h⟩
          · rw [h]
            exact (hd.dec _).1 ht
  · obtain rfl : i = xs.length := by omega
    have hdec := hd.dec
    rw [List.take_length] at hdec
    have hfew := hd.bn.few
    have hlen := hd.bn.len
    have hload : loadS s + s.C.length ≤ m + (n + 2) * (A.length + 1) := by
      unfold loadS
      rw [hlen, hsn, hd.h, show n + 1 - 0 = n + 1 from rfl, show n + 2 = (n + 1) + 1 from rfl, Nat.succ_mul (n + 1)]
      omega
    (repeat first | refine go ?_ | ((try conv => whnf); (first | (refine St_gate ?_; refine xS ?_) | (refine StN_gate ?_; refine xN ?_)); clear H; intro w H))
    refine Call_of (ePropagate H hg (by omega) (by omega)) ?_
    clear H
    rintro v w ⟨s', g, x, lo, H, hv⟩
    have hb' : Bn s' (n + 1) A (m + (n + 2) * (A.length + 1)) := hd.bn.ext g x (.inl hd.D0) (by unfold loadS at lo hload; omega)
    have hD : ∀ z, Dec s' z ↔ z = (n : Int) + 1 ∨ NegC xs z := by
      intro z
      rw [x.dec z, ← hdec z]
      exact ⟨fun ⟨e, h1, _, h2⟩ => ⟨e, h1, h2⟩, fun ⟨e, h1, h2⟩ => ⟨e, h1, hd.rea e h1, h2⟩⟩
    have hcf : Conf (Gam s') (Dec s') ↔ Conf (GamL (hand A)) (NegC xs) := by
      rw [Conf.iff hb'.gam hD]
      refine conf_but fun c hc y hy e => ?_
      obtain ⟨k, hk, _, hm2⟩ := hc
      rw [mem_hand] at hk
      have h1 := hfitA k true hk y ((hm2 y).1 hy)
      rw [← Trail.var_neg, e, hexv] at h1
      omega
    have hfin : ∀ z : Int, v = .int .i64 z → (0 ≤ z ↔ Conf (GamL (hand A)) (NegC xs)) → Ret v w (fun v w' => ∃ s' z, v = .int .i64 z ∧ (0 ≤ z ↔ Conf (GamL (hand A)) (NegC xs)) ∧ Bn s' (n + 1) A (m + (n + 2) * (A.length + 1)) ∧ s'.D ≤ xs.length + 1 ∧ Sep w0 w' (ben pb eb mb s' R n fr l)) := by
      intro z hz hzc
      refine Ret_in ⟨s', z, hz, hzc, hb', by rw [x.D]; exact hd.D, ?_⟩
      replace H := H.tp 1
      exact H
    rcases hv with ⟨rfl, hF, hh⟩ | ⟨id, cl, rfl, hc, h1, h2, h3⟩
    · have hnc := (g.complete hF hh).2
      (repeat first | refine go ?_ | ((try conv => whnf); (first | (refine St_gate ?_; refine xS ?_) | (refine StN_gate ?_; refine xN ?_)); clear H; intro w H))
      exact hfin _ rfl ⟨fun h => by omega, fun h => (hnc (hcf.2 h)).elim⟩
    · (repeat first | refine go ?_ | ((try conv => whnf); (first | (refine St_gate ?_; refine xS ?_) | (refine StN_gate ?_; refine xN ?_)); clear H; intro w H))
      exact hfin _ rfl ⟨fun _ => hcf.1 (g.conf hc h1 h2 h3), fun _ => by omega⟩
theorem both_own {xs own : List Int} (h : Lit.Clean xs own) : Lit.bothB own = Lit.bothB xs := by
  rw [Bool.eq_iff_iff, Lit.bothB_iff, Lit.bothB_iff]
  exact ⟨fun ⟨x, a, b⟩ => ⟨x, (h.mem x).1 a, (h.mem _).1 b⟩, fun ⟨x, a, b⟩ => ⟨x, (h.mem x).2 a, (h.mem _).2 b⟩⟩

theorem bFollows (H : Sep w0 w (benR pb n A m :: l)) {xs : List Int} {a : Option Addr} {c : Nat} (hs : ∀ {w' : World} {l' : List Res}, Sep w0 w' (l' ++ l) → Src w' a xs.length 1 (xs.map lV)) (hx : xs.length ≤ 900000) (hf : fitB n xs = true)
    (hn : n ≤ 262000) (hm : m + (n + 2) * (A.length + 1) ≤ 400000000) (hA : A.length ≤ 1000000) :
    Does Tryd.prog 11 #[.pointer (some ⟨pb, 0, none⟩), .slice a xs.length c] w fun v w' => ∃ own b, Lit.Clean xs own ∧ v = .bool b ∧ (b = true ↔ Foll A own) ∧ Sep w0 w' (benR pb n A (m + (n + 2) * (A.length + 1)) :: l) := by
  obtain ⟨eb, mb, s, R, fr, hb, H⟩ := benOpen H
  have hfit := fitB_iff.1 hf
  refine Does_intro tok (Tryd.call11 _ _) Tryd.func11 rfl (by rfl) ?_
  (repeat first | refine go ?_ | ((try conv => whnf); (first | (refine St_gate ?_; refine xS ?_) | (refine StN_gate ?_; refine xN ?_)); clear H; intro w H))
  refine Call_of (fClean H (hs (l' := [_, _, _, _]) H) (by omega) fun x hx => (hfit x hx).1) ?_
  clear H
  rintro _ w ⟨oa, oc, own, rfl, hcl, _, H⟩
  replace H := H.tail
  have hbo := both_own hcl
  cases hbt : Lit.bothB xs with
  | true =>
    rw [hbt] at hbo
    (repeat first | refine go ?_ | ((try conv => whnf); (first | (refine St_gate ?_; refine xS ?_) | (refine StN_gate ?_; refine xN ?_)); clear H; intro w H))
    exact Ret_in ⟨own, true, hcl, rfl, ⟨fun _ => .inl hbo, fun _ => rfl⟩, benClose { hb with bn := hb.bn.mono (Nat.le_add_right _ _) } H⟩
  | false =>
    rw [hbt] at hbo
    (repeat first | refine go ?_ | ((try conv => whnf); (first | (refine St_gate ?_; refine xS ?_) | (refine StN_gate ?_; refine xN ?_)); clear H; intro w H))
    refine Call_of (bConflict H hb hs hx hf hbt hn hm hA) ?_
    clear H
    rintro _ w ⟨s', z, rfl, hz, hb', hD, H⟩
    have hg := hb'.good
    have hdl := hg.deepLe
    have hfew := hb'.few
    have hlen := hb'.len
    unfold ben at H
    (repeat first | refine go ?_ | ((try conv => whnf); (first | (refine St_gate ?_; refine xS ?_) | (refine StN_gate ?_; refine xN ?_)); clear H; intro w H))
    replace H := H.tp 1
    refine Call_of (eBack H (k := 0) (Nat.zero_le _) (by omega) (by omega) hg.hd (by omega) fun p hp => ?_) ?_
    · obtain ⟨h1, c', h2, _⟩ := hg.yo p hp
      have := (List.getElem?_eq_some_iff.1 h2).1
      omega
    clear H
    rintro _ w ⟨rfl, H⟩
    obtain ⟨b1, b2, b3, b4⟩ := hb'.back
    (repeat first | refine go ?_ | ((try conv => whnf); (first | (refine St_gate ?_; refine xS ?_) | (refine StN_gate ?_; refine xN ?_)); clear H; intro w H))
    replace H := H.tp 1
    have hcf : Foll A own ↔ 0 ≤ z := by
      rw [hz]
      unfold Foll
      rw [hbo]
      constructor
      · rintro (h | h)
        · cases h
        · exact (Conf.iff (fun _ => Iff.rfl) (neg_same hcl.mem)).1 h
      · exact fun h => .inr ((Conf.iff (fun _ => Iff.rfl) (neg_same hcl.mem)).2 h)
    exact Ret_in ⟨own, _, hcl, rfl, by rw [hcf]; exact decide_eq_true_iff, benClose ⟨b1, b2, b3, b4, hb.ids, hb.fit⟩ H⟩
end
end Go.Proofs.YtkgmgjiomniijaaDoor
