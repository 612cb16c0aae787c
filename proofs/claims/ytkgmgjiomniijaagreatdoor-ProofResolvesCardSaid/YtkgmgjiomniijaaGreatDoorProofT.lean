/- Resolution and proofs: the plain law, and the law's function. -/
import Derived.Test.YtkgmgjiomniijaaGreatDoorProofN
import Derived.Test.YtkgmgjiomniijaaGreatDoorProofS
import Derived.Test.YtkgmgjiomniijaaGreatDoorLitF
set_option linter.unusedVariables false
set_option linter.unusedSimpArgs false
namespace Go.Watch
open Go.Trail
section
variable {A : List (List Int × Bool)} {k k1 k2 own : List Int} {v : Int}
/-- What holds a clause's literals follows from it. -/
theorem foll_sub (hk : (k, true) ∈ A) (hb : Lit.bothB k = false) (hs : ∀ y ∈ k, y ∈ own) : Foll A own :=
  .inr ⟨k, ⟨k, mem_hand.2 hk, hb, fun x => Iff.rfl⟩, fun y hy => .dec ⟨y, hs y hy, rfl⟩⟩
/-- The resolvent follows. -/
theorem foll_res (h1 : (k1, true) ∈ A) (h2 : (k2, true) ∈ A) (b1 : Lit.bothB k1 = false) (b2 : Lit.bothB k2 = false) (hv : v ∈ k1) (hs1 : ∀ y ∈ k1, y ≠ v → y ∈ own) (hs2 : ∀ y ∈ k2, y ≠ -v → y ∈ own) : Foll A own := by
  refine .inr ⟨k2, ⟨k2, mem_hand.2 h2, b2, fun x => Iff.rfl⟩, fun y hy => ?_⟩
  by_cases e : y = -v
  · subst e
    rw [Int.neg_neg]
    exact .cls (c := k1) ⟨k1, mem_hand.2 h1, b1, fun x => Iff.rfl⟩ hv fun z hz hne => .dec ⟨z, hs1 z hz hne, rfl⟩
  · exact .dec ⟨y, hs2 y hy e, rfl⟩
end
end Go.Watch
namespace Go.Proofs.YtkgmgjiomniijaaGreatDoor
open Go Go.Vc Go.Watch Go.Lit
open Go.Trail (Ent value find upto okLit litsV)
set_option maxHeartbeats 4000000
set_option maxRecDepth 100000
section
variable {w0 w : World} {l : List Res} {z : Int}
theorem rKnown {xs : List Int} {a : Option Addr} {c : Nat} (hs : Src w a xs.length 1 (xs.map lV)) (hm : xs.length ≤ 35184372087808) :
    Does Tryz.prog 24 #[.int .i64 z, .slice a xs.length c] w fun v w' => v = .bool (fitZ z xs) ∧ w = w' := by
  refine Does_intro tok (Tryz.call24 _ _) Tryz.func24 rfl (by rfl) ?_
  refine Loop_intro (fun k : Nat => [(9, .int .i64 (k : Int))]) (fun k w' => (k ≤ xs.length ∧ fitZ z (xs.take k) = true) ∧ w = w') (fun k => xs.length - k)
    0 ⟨rfl, trivial⟩ ⟨⟨Nat.zero_le _, rfl⟩, rfl⟩ ?_
  rintro k _ ⟨⟨hk, hfk⟩, rfl⟩
  refine Br_dec (fun k2 => ?_) (fun k2 => ?_)
  · have hlk : k < xs.length := by omega
    obtain ⟨yb, yo, rfl⟩ := hs.addr (by rw [List.length_map]; omega)
    have hxi : xs[k]? = some xs[k] := List.getElem?_eq_getElem hlk
    have hxm := List.getElem_mem hlk
    have htx : xs.take (k + 1) = xs.take k ++ [xs[k]] := by rw [List.take_add_one, hxi]; rfl
    generalize xs[k] = x at *
    have hf1 := fit1b x z
    have hbad : fitZ z [x] = false → fitZ z xs = false := fun h => by
      unfold fitZ at h ⊢
      rw [List.all_eq_false]
      simp at h
      exact ⟨x, hxm, by simpa using h⟩
    refine Ix_in k rfl hlk ?_
    refine Ld_src (j := k) hs (v := lV x) (by rw [List.getElem?_map, hxi]; rfl) ?_
    (repeat first | refine go ?_ | ((try conv => whnf); (first | (refine St_gate ?_; refine xS ?_) | (refine StN_gate ?_; refine xN ?_)); clear H; intro w H))
    refine Call_of (rOne (x := x) _) ?_
    rintro _ _ ⟨rfl, rfl⟩
    cases ho : Lit.one x with
    | false =>
      (repeat first | refine go ?_ | ((try conv => whnf); (first | (refine St_gate ?_; refine xS ?_) | (refine StN_gate ?_; refine xN ?_)); clear H; intro w H))
      exact Ret_in ⟨by rw [hbad (by unfold fitZ; simp [ho])]; rfl, rfl⟩
    | true =>
      (repeat first | refine go ?_ | ((try conv => whnf); (first | (refine St_gate ?_; refine xS ?_) | (refine StN_gate ?_; refine xN ?_)); clear H; intro w H))
      refine Call_of (rVar (x := x) _) ?_
      rintro _ _ ⟨rfl, rfl⟩
      by_cases hv : z < Lit.var x
      · (repeat first | refine go ?_ | ((try conv => whnf); (first | (refine St_gate ?_; refine xS ?_) | (refine StN_gate ?_; refine xN ?_)); clear H; intro w H))
        exact Ret_in ⟨by rw [hbad (by unfold fitZ; simp [ho]; rw [var_var] at hv; omega)]; rfl, rfl⟩
      · (repeat first | refine go ?_ | ((try conv => whnf); (first | (refine St_gate ?_; refine xS ?_) | (refine StN_gate ?_; refine xN ?_)); clear H; intro w H))
        refine ⟨k + 1, ⟨congrArg some (vint (by omega)), trivial⟩, ⟨⟨by omega, ?_⟩, rfl⟩, by omega⟩
        rw [htx]
        unfold fitZ at hfk ⊢
        rw [List.all_append, hfk]
        simp [ho]
        rw [var_var] at hv
        omega
  · obtain rfl : k = xs.length := by omega
    rw [List.take_length] at hfk
    (repeat first | refine go ?_ | ((try conv => whnf); (first | (refine St_gate ?_; refine xS ?_) | (refine StN_gate ?_; refine xN ?_)); clear H; intro w H))
    exact Ret_in ⟨by rw [hfk]; rfl, rfl⟩
variable {C L : List (List Int)} {R RL : List Fl} {ca la : Option Addr} {cc lc fb : Nat}
theorem rFits (H : Sep w0 w l) (hs : ∀ {w' : World} {l' : List Res}, Sep w0 w' (l' ++ l) → FSrc w' ca C R) (hsm : ∀ x ∈ R, x.2.2.length ≤ 35184372087808) (hC : C.length ≤ 1000)
    (hl : ∀ {w' : World} {l' : List Res}, Sep w0 w' (l' ++ l) → FSrc w' la L RL) (hlm : ∀ x ∈ RL, x.2.2.length ≤ 35184372087808) (hL : L.length ≤ 1000) :
    Does Tryz.prog 12 #[.agg #[.int .i64 z, .slice ca C.length cc], .slice la L.length lc] w fun v w' => v = .bool ((rightZ z C && decide (z < 262144)) && L.all (fitZ z)) ∧ Sep w0 w' l := by
  refine Does_intro tok (Tryz.call12 _ _) Tryz.func12 rfl (by rfl) ?_
  (repeat first | refine go ?_ | ((try conv => whnf); (first | (refine St_gate ?_; refine xS ?_) | (refine StN_gate ?_; refine xN ?_)); clear H; intro w H))
  (refine Nw_sep H ?_; clear H; intro fb w H; (try simp only [Value.cells, List.toList_toArray, List.append_nil, List.cons_append, List.nil_append] at H))
  (repeat first | refine go ?_ | ((try conv => whnf); (first | (refine St_gate ?_; refine xS ?_) | (refine StN_gate ?_; refine xN ?_)); clear H; intro w H))
  refine Call_of (rRight2 H (fun {w'} {l'} h => hs (l' := l' ++ [_]) (by simpa using h)) hsm (by omega)) ?_
  clear H
  rintro _ w ⟨rfl, H⟩
  cases hr : rightZ z C with
  | false =>
    (repeat first | refine go ?_ | ((try conv => whnf); (first | (refine St_gate ?_; refine xS ?_) | (refine StN_gate ?_; refine xN ?_)); clear H; intro w H))
    exact Ret_in ⟨rfl, H.tail⟩
  | true =>
    by_cases hz : 262144 ≤ z
    · (repeat first | refine go ?_ | ((try conv => whnf); (first | (refine St_gate ?_; refine xS ?_) | (refine StN_gate ?_; refine xN ?_)); clear H; intro w H))
      exact Ret_in ⟨by rw [decide_eq_false (by omega : ¬ z < 262144)]; rfl, H.tail⟩
    (repeat first | refine go ?_ | ((try conv => whnf); (first | (refine St_gate ?_; refine xS ?_) | (refine StN_gate ?_; refine xN ?_)); clear H; intro w H))
    refine Loop_intro (fun i : Nat => [(17, .int .i64 (i : Int))]) (fun i w => (i ≤ L.length ∧ (L.take i).all (fitZ z) = true) ∧ Sep w0 w (cellsR fb 24 [.int .i64 z, .slice ca C.length cc] :: l)) (fun i => L.length - i)
      0 ⟨rfl, trivial⟩ ⟨⟨Nat.zero_le _, rfl⟩, H⟩ ?_
    clear H
    rintro i w ⟨⟨hi, hall⟩, H⟩
    refine Br_dec (fun k1 => ?_) (fun k1 => ?_)
    · have hlt : i < L.length := by omega
      have hf := hl (l' := [_]) H
      obtain ⟨⟨ya, yc, ys⟩, hy, hyC, hys, hyl⟩ := hf.at hlt
      have hysm := hlm _ (List.mem_of_getElem? hy)
      simp only [] at hyC hys hyl hysm
      have htk : L.take (i + 1) = L.take i ++ [ys] := by rw [List.take_add_one, hyC]; rfl
      obtain ⟨rb, ro, rfl⟩ := hf.rows.addr (by rw [List.length_map, hf.len]; omega)
      refine Ix_in i rfl hlt ?_
      refine Ld_src (j := i) hf.rows (v := .slice ya ys.length yc) (by rw [List.getElem?_map, hy]; rfl) ?_
      clear hf
      (repeat first | refine go ?_ | ((try conv => whnf); (first | (refine St_gate ?_; refine xS ?_) | (refine StN_gate ?_; refine xN ?_)); clear H; intro w H))
      refine Call_of (rKnown hys hysm) ?_
      rintro _ _ ⟨rfl, rfl⟩
      cases hk : fitZ z ys with
      | false =>
        (repeat first | refine go ?_ | ((try conv => whnf); (first | (refine St_gate ?_; refine xS ?_) | (refine StN_gate ?_; refine xN ?_)); clear H; intro w H))
        have e : L.all (fitZ z) = false := List.all_eq_false.2 ⟨ys, List.mem_of_getElem? hyC, by rw [hk]; decide⟩
        exact Ret_in ⟨by rw [e, Bool.and_false]; rfl, H.tail⟩
      | true =>
        (repeat first | refine go ?_ | ((try conv => whnf); (first | (refine St_gate ?_; refine xS ?_) | (refine StN_gate ?_; refine xN ?_)); clear H; intro w H))
        exact ⟨i + 1, ⟨congrArg some (vint (by omega)), trivial⟩, ⟨⟨by omega, by rw [htk, List.all_append, hall]; simp [hk]⟩, H⟩, by omega⟩
    · obtain rfl : i = L.length := by omega
      rw [List.take_length] at hall
      (repeat first | refine go ?_ | ((try conv => whnf); (first | (refine St_gate ?_; refine xS ?_) | (refine StN_gate ?_; refine xN ?_)); clear H; intro w H))
      exact Ret_in ⟨by rw [hall, decide_eq_true (by omega : z < 262144)]; rfl, H.tail⟩
end
end Go.Proofs.YtkgmgjiomniijaaGreatDoor
namespace Go.Watch
section
variable {xs ys cs own : List Int} {v : Int} {K : List (List Int)}
theorem open_res (h : openZ 12 [xs, ys] [] cs = true) : fitZ 12 xs = true ∧ fitZ 12 ys = true ∧ fitZ 12 cs = true := by
  unfold openZ rightZ at h
  simp only [Bool.and_eq_true, List.all_cons, List.all_nil, Bool.and_true] at h
  exact ⟨h.1.1.2.1, h.1.1.2.2, h.2.2⟩
theorem open_res2 (h1 : fitZ 12 xs = true) (h2 : fitZ 12 ys = true) (h3 : fitZ 12 cs = true) (hx : xs.length ≤ 10) (hy : ys.length ≤ 10) : openZ 12 [xs, ys] [] cs = true := by
  unfold openZ rightZ
  simp only [Bool.and_eq_true, List.all_cons, List.all_nil, Bool.and_true, decide_eq_true_eq]
  exact ⟨⟨⟨⟨⟨⟨by decide, by decide⟩, show 2 ≤ _ by decide⟩, by simp [sumL]; omega⟩, h1, h2⟩, by decide⟩, trivial, h3⟩
theorem fits_res (h : ((rightZ 12 [xs, ys] && decide ((12 : Int) < 262144)) && [xs, ys].all (fitZ 12)) = true) : fitZ 12 xs = true ∧ fitZ 12 ys = true := by
  simp only [Bool.and_eq_true, List.all_cons, List.all_nil, Bool.and_true] at h
  exact h.2
theorem two_K (hK : K.length = [xs, ys].length) (hc : ∀ (i : Nat) c k, [xs, ys][i]? = some c → K[i]? = some k → Lit.Clean c k) : ∃ k1 k2, K = [k1, k2] ∧ Lit.Clean xs k1 ∧ Lit.Clean ys k2 := by
  match K, hK with
  | [k1, k2], _ => exact ⟨k1, k2, rfl, hc 0 _ _ rfl rfl, hc 1 _ _ rfl rfl⟩
theorem more_foll (hK : K.length = [xs, ys].length) (hc : ∀ (i : Nat) c k, [xs, ys][i]? = some c → K[i]? = some k → Lit.Clean c k) (ho : Lit.Clean (xs ++ [11, -12]) own) (hb : Lit.bothB xs = false) : Foll (K.map fun k => (k, true)) own := by
  obtain ⟨k1, k2, rfl, h1, h2⟩ := two_K hK hc
  refine foll_sub (k := k1) (by simp) ?_ fun y hy => (ho.mem y).2 (List.mem_append_left _ ((h1.mem y).1 hy))
  rw [Lit.bothB_congr h1.mem]; exact hb
end
end Go.Watch
namespace Go.Proofs.YtkgmgjiomniijaaGreatDoor
open Go Go.Vc Go.Watch Go.Lit
open Go.Trail (Ent value find upto okLit litsV)
set_option maxHeartbeats 4000000
set_option maxRecDepth 100000
section
variable {xs ys cs own : List Int} {v : Int} {K : List (List Int)}
theorem res_foll (hK : K.length = [xs, ys].length) (hc : ∀ (i : Nat) c k, [xs, ys][i]? = some c → K[i]? = some k → Lit.Clean c k) (hr : resOk xs ys v = true) (h0 : Lit.Clean (resL xs ys v) cs) (ho : Lit.Clean cs own)
    (h1 : Lit.bothB xs = false) (h2 : Lit.bothB ys = false) : Foll (K.map fun k => (k, true)) own := by
  obtain ⟨k1, k2, rfl, c1, c2⟩ := two_K hK hc
  unfold resOk at hr
  simp only [Bool.and_eq_true, decide_eq_true_eq] at hr
  have hm : ∀ y, y ∈ own ↔ y ∈ resL xs ys v := fun y => (ho.mem y).trans (h0.mem y)
  refine foll_res (k1 := k1) (k2 := k2) (v := v) (by simp) (by simp) (by rw [Lit.bothB_congr c1.mem]; exact h1) (by rw [Lit.bothB_congr c2.mem]; exact h2) ((c1.mem v).2 hr.2.2.2.1) (fun y hy hne => ?_) (fun y hy hne => ?_)
  · refine (hm y).2 (List.mem_append_left _ (List.mem_filter.2 ⟨(c1.mem y).1 hy, by simp [hne]⟩))
  · refine (hm y).2 (List.mem_append_right _ (List.mem_filter.2 ⟨(c2.mem y).1 hy, by simp [hne]⟩))
theorem res_fit (h1 : fitZ 12 xs = true) (h2 : fitZ 12 ys = true) (h0 : Lit.Clean (resL xs ys v) cs) : fitZ 12 cs = true := by
  unfold fitZ at h1 h2 ⊢
  rw [List.all_eq_true] at h1 h2 ⊢
  intro y hy
  rcases List.mem_append.1 ((h0.mem y).1 hy) with h | h
  · exact h1 y (List.mem_filter.1 h).1
  · exact h2 y (List.mem_filter.1 h).1
end
section
variable {w0 w : World} {l : List Res} {xs ys : List Int} {a b : Option Addr} {ac bc : Nat} {v : Int}
theorem rResAny (H : Sep w0 w l) (hs : ∀ {w' : World} {l' : List Res}, Sep w0 w' (l' ++ l) → Src w' a xs.length 1 (xs.map lV)) (ht : ∀ {w' : World} {l' : List Res}, Sep w0 w' (l' ++ l) → Src w' b ys.length 1 (ys.map lV))
    (hm : xs.length ≤ 10) (hn : ys.length ≤ 10) (hv1 : -9223372036854775808 ≤ v) (hv2 : v ≤ 9223372036854775807) :
    Does Tryz.prog 10 #[.slice a xs.length ac, .slice b ys.length bc, .int .i64 v] w fun r w' =>
      ∃ ca cc cs e, r = .tuple #[.slice ca cs.length cc, .int .i64 e] ∧ cs.length ≤ 20 ∧ (e = 11 ∧ cs = [] ∨ e = 0 ∧ resOk xs ys v = true ∧ Lit.Clean (resL xs ys v) cs) ∧ Sep w0 w' (ownR ca cs.length cc 41 1 (cs.map lV) :: l) := by
  refine Does.mono (rResolve H hs ht (by omega) (by omega) hv1 hv2) ?_
  rintro r w' (⟨_, rfl, H⟩ | ⟨hr, a', c', out, rfl, hc, hl, H⟩)
  · exact ⟨none, 0, [], 11, rfl, by decide, .inl ⟨rfl, rfl⟩, Own.nilR H _ _⟩
  · exact ⟨a', c', out, 0, rfl, by omega, .inr ⟨rfl, hr, hc⟩, H⟩
theorem pResolves (H : Sep w0 w l) (hp : Pow w0) (hs : ∀ {w' : World} {l' : List Res}, Sep w0 w' (l' ++ l) → Src w' a xs.length 1 (xs.map lV)) (ht : ∀ {w' : World} {l' : List Res}, Sep w0 w' (l' ++ l) → Src w' b ys.length 1 (ys.map lV))
    (hv1 : -9223372036854775808 ≤ v) (hv2 : v ≤ 9223372036854775807) :
    Does Tryz.prog 4 #[.slice a xs.length ac, .slice b ys.length bc, .int .i64 v] w fun v w' => v = .bool true ∧ Sep w0 w' l := by
  refine Does_intro tok (Tryz.call4 _ _) Tryz.func4 rfl (by rfl) ?_
  (repeat first | refine go ?_ | ((try conv => whnf); (first | (refine St_gate ?_; refine xS ?_) | (refine StN_gate ?_; refine xN ?_)); clear H; intro w H))
  refine Call_of (pAlive H hp) ?_
  clear H
  rintro _ w ⟨rfl, H⟩
  by_cases h1 : 10 < xs.length
  · (repeat first | refine go ?_ | ((try conv => whnf); (first | (refine St_gate ?_; refine xS ?_) | (refine StN_gate ?_; refine xN ?_)); clear H; intro w H))
    exact Ret_in ⟨rfl, H⟩
  by_cases h2 : 10 < ys.length
  · (repeat first | refine go ?_ | ((try conv => whnf); (first | (refine St_gate ?_; refine xS ?_) | (refine StN_gate ?_; refine xN ?_)); clear H; intro w H))
    exact Ret_in ⟨rfl, H⟩
  (repeat first | refine go ?_ | ((try conv => whnf); (first | (refine St_gate ?_; refine xS ?_) | (refine StN_gate ?_; refine xN ?_)); clear H; intro w H))
  refine Call_of (rResAny H hs ht (by omega) (by omega) hv1 hv2) ?_
  clear H
  rintro _ w ⟨ca, cc, cs, e, rfl, hcs, hfact, H⟩
  (repeat first | refine go ?_ | ((try conv => whnf); (first | (refine St_gate ?_; refine xS ?_) | (refine StN_gate ?_; refine xN ?_)); clear H; intro w H))
  (refine Nw_sep H ?_; clear H; intro rb w H; (try simp only [Value.cells, List.toList_toArray, List.append_nil, List.cons_append, List.nil_append] at H))
  (repeat first | refine go ?_ | ((try conv => whnf); (first | (refine St_gate ?_; refine xS ?_) | (refine StN_gate ?_; refine xN ?_)); clear H; intro w H))
  (refine Nw_sep H ?_; clear H; intro fb w H; (try simp only [Value.cells, List.toList_toArray, List.append_nil, List.cons_append, List.nil_append] at H))
  (repeat first | refine go ?_ | ((try conv => whnf); (first | (refine St_gate ?_; refine xS ?_) | (refine StN_gate ?_; refine xN ?_)); clear H; intro w H))
  refine Nw_sep H ?_; clear H; intro ob w H
  (repeat first | refine go ?_ | ((try conv => whnf); (first | (refine St_gate ?_; refine xS ?_) | (refine StN_gate ?_; refine xN ?_)); clear H; intro w H))
  have hxr := hs (l' := [_, _, _, _]) H
  refine DoN_gate ?_
  refine append_new tok H rfl rfl rfl rfl rfl (by decide) (.head _) hxr (fun u hu => by obtain ⟨x, _, rfl⟩ := List.mem_map.1 hu; rfl) (by omega) (by unfold maxLen; omega) ?_
  clear H hxr
  intro a1 c1 w H
  replace H := H _ .head
  (repeat first | refine go ?_ | ((try conv => whnf); (first | (refine St_gate ?_; refine xS ?_) | (refine StN_gate ?_; refine xN ?_)); clear H; intro w H))
  refine Nw_sep H ?_; clear H; intro mb w H
  (repeat first | refine go ?_ | ((try conv => whnf); (first | (refine St_gate ?_; refine xS ?_) | (refine StN_gate ?_; refine xN ?_)); clear H; intro w H))
  have hms : Src w (some ⟨mb, 0, none⟩) 2 1 ([11, -12].map lV) := H.srcCM 2 1 (.head _) rfl (by decide)
  refine DoN_gate ?_
  refine append_sep (n' := (xs ++ [11, -12]).length) (xs' := (xs ++ [11, -12]).map lV) tok H rfl rfl rfl rfl rfl (by decide) (.tail _ (.head _)) hms (fun u hu => by obtain ⟨x, _, rfl⟩ := List.mem_map.1 hu; rfl) (by omega) (by unfold maxLen; omega) (by simp) (by simp) ?_
  clear H hms
  intro a2 c2 w H
  replace H := (H _ (.tail .head)).tail
  (repeat first | refine go ?_ | ((try conv => whnf); (first | (refine St_gate ?_; refine xS ?_) | (refine StN_gate ?_; refine xN ?_)); clear H; intro w H))
  generalize hmo : xs ++ [11, -12] = mo at *
  have hml : mo.length ≤ 12 := by rw [← hmo]; simp; omega
  have hF : ∀ {w' : World} {l' : List Res}, Sep w0 w' (l' ++ (cellsR rb 35 [.slice a xs.length ac, .slice b ys.length bc] :: ownR ca cs.length cc 41 1 (cs.map lV) :: l)) → FSrc w' (some ⟨rb, 0, none⟩) [xs, ys] [(a, ac, xs), (b, bc, ys)] :=
    fun {w'} {l'} h => ⟨rfl, h.srcCM 2 1 (List.mem_append_right _ (.head _)) rfl (by decide), fun x hx => by
      simp only [List.mem_cons, List.not_mem_nil, or_false] at hx
      rcases hx with rfl | rfl
      · exact ⟨hs (l' := l' ++ [_, _]) (by simpa using h), by show xs.length ≤ _; omega⟩
      · exact ⟨ht (l' := l' ++ [_, _]) (by simpa using h), by show ys.length ≤ _; omega⟩⟩
  have hsm : ∀ x ∈ ([(a, ac, xs), (b, bc, ys)] : List Fl), x.2.2.length ≤ 35184372087808 := fun x hx => by
    simp only [List.mem_cons, List.not_mem_nil, or_false] at hx
    rcases hx with rfl | rfl
    · show xs.length ≤ _; omega
    · show ys.length ≤ _; omega
  replace H : Sep w0 w (ownR a2 mo.length c2 41 1 (mo.map lV) :: cellsR fb 24 [.int .i64 12, .slice (some ⟨rb, 0, none⟩) 2 2] :: cellsR rb 35 [.slice a xs.length ac, .slice b ys.length bc] :: ownR ca cs.length cc 41 1 (cs.map lV) :: l) := H
  refine Call_of (pFollows (C := [xs, ys]) (z := 12) (xs := cs) H hp (fun {w'} {l'} h => hF (l' := l' ++ [_, _]) (by simpa using h)) hsm (show 2 ≤ _ by decide) (fun h => h.srcM (List.mem_append_right _ (.tail _ (.tail _ (.tail _ (.head _)))))) (by omega) (by decide)) ?_
  clear H
  rintro v1 w ⟨hv, H⟩
  obtain ⟨xb, g, rfl, hg⟩ : ∃ (xb : Bool) (g : Int), v1 = .tuple #[.bool xb, .int .i64 g] ∧ (openZ 12 [xs, ys] [] cs = false ∧ g = 91 ∨ openZ 12 [xs, ys] [] cs = true ∧ g = 0 ∧ ∃ (K : List (List Int)) (own : List Int), K.length = [xs, ys].length ∧ (∀ (i : Nat) c k, [xs, ys][i]? = some c → K[i]? = some k → Lit.Clean c k) ∧ Lit.Clean cs own ∧ (xb = true ↔ Foll (K.map fun k => (k, true)) own)) := by
    rcases hv with ⟨ho, rfl⟩ | ⟨ho, K, own, b', rfl, h1, h2, h3, h4⟩
    · exact ⟨_, _, rfl, .inl ⟨ho, rfl⟩⟩
    · exact ⟨_, _, rfl, .inr ⟨ho, rfl, K, own, h1, h2, h3, h4⟩⟩
  clear hv
  (repeat first | refine go ?_ | ((try conv => whnf); (first | (refine St_gate ?_; refine xS ?_) | (refine StN_gate ?_; refine xN ?_)); clear H; intro w H))
  refine Call_of (pFollows (C := [xs, ys]) (z := 12) (xs := mo) H hp (fun {w'} {l'} h => hF (l' := l' ++ [_, _]) (by simpa using h)) hsm (show 2 ≤ _ by decide) (fun h => h.srcM (List.mem_append_right _ (.head _))) (by omega) (by decide)) ?_
  clear H
  rintro v1 w ⟨hv, H⟩
  obtain ⟨yb, h, rfl, hh⟩ : ∃ (yb : Bool) (h : Int), v1 = .tuple #[.bool yb, .int .i64 h] ∧ (openZ 12 [xs, ys] [] mo = false ∧ h = 91 ∨ openZ 12 [xs, ys] [] mo = true ∧ h = 0 ∧ ∃ (K : List (List Int)) (own : List Int), K.length = [xs, ys].length ∧ (∀ (i : Nat) c k, [xs, ys][i]? = some c → K[i]? = some k → Lit.Clean c k) ∧ Lit.Clean mo own ∧ (yb = true ↔ Foll (K.map fun k => (k, true)) own)) := by
    rcases hv with ⟨ho, rfl⟩ | ⟨ho, K, own, b', rfl, h1, h2, h3, h4⟩
    · exact ⟨_, _, rfl, .inl ⟨ho, rfl⟩⟩
    · exact ⟨_, _, rfl, .inr ⟨ho, rfl, K, own, h1, h2, h3, h4⟩⟩
  clear hv
  (repeat first | refine go ?_ | ((try conv => whnf); (first | (refine St_gate ?_; refine xS ?_) | (refine StN_gate ?_; refine xN ?_)); clear H; intro w H))
  (refine Nw_sep H ?_; clear H; intro qb w H; (try simp only [Value.cells, List.toList_toArray, List.append_nil, List.cons_append, List.nil_append] at H))
  (repeat first | refine go ?_ | ((try conv => whnf); (first | (refine St_gate ?_; refine xS ?_) | (refine StN_gate ?_; refine xN ?_)); clear H; intro w H))
  have hQ : ∀ {w' : World} {l' : List Res}, Sep w0 w' (l' ++ (cellsR qb 35 [.slice a xs.length ac, .slice b ys.length bc] :: ownR a2 mo.length c2 41 1 (mo.map lV) :: cellsR fb 24 [.int .i64 12, .slice (some ⟨rb, 0, none⟩) 2 2] :: cellsR rb 35 [.slice a xs.length ac, .slice b ys.length bc] :: ownR ca cs.length cc 41 1 (cs.map lV) :: l)) → FSrc w' (some ⟨qb, 0, none⟩) [xs, ys] [(a, ac, xs), (b, bc, ys)] :=
    fun {w'} {l'} h => ⟨rfl, h.srcCM 2 1 (List.mem_append_right _ (.head _)) rfl (by decide), (hF (l' := l' ++ [_, _, _]) (by simpa using h)).cls⟩
  refine Call_of (rFits (C := [xs, ys]) (L := [xs, ys]) (z := 12) H (fun {w'} {l'} h => hF (l' := l' ++ [_, _, _]) (by simpa using h)) hsm (show 2 ≤ _ by decide) hQ hsm (show 2 ≤ _ by decide)) ?_
  clear H
  rintro _ w ⟨rfl, H⟩
  cases hfit : ((rightZ 12 [xs, ys] && decide ((12 : Int) < 262144)) && [xs, ys].all (fitZ 12)) with
  | false =>
    obtain rfl : g = 91 := by
      rcases hg with ⟨_, hg⟩ | ⟨ho, _⟩
      · exact hg
      · obtain ⟨f1, f2, _⟩ := open_res ho
        have ho := open_res2 f1 f2 (cs := []) (by rfl) (by omega) (by omega)
        unfold openZ at ho
        simp only [Bool.and_eq_true, decide_eq_true_eq] at ho
        rw [ho.1.1] at hfit
        simp [f1, f2] at hfit
    (repeat first | refine go ?_ | ((try conv => whnf); (first | (refine St_gate ?_; refine xS ?_) | (refine StN_gate ?_; refine xN ?_)); clear H; intro w H))
    exact Ret_in ⟨rfl, H.tail.tail.tail.tail.tail⟩
  | true =>
    obtain ⟨f1, f2⟩ := fits_res hfit
    have hmf : fitZ 12 mo = true := by
      rw [← hmo]
      unfold fitZ at f1 ⊢
      rw [List.all_append, f1]
      decide
    obtain ⟨rfl, hy⟩ : h = 0 ∧ (yb = false → Lit.bothB xs = true) := by
      rcases hh with ⟨ho, _⟩ | ⟨_, rfl, K, own, hK, hc, hown, hiff⟩
      · rw [open_res2 f1 f2 hmf (by omega) (by omega)] at ho
        cases ho
      · refine ⟨rfl, fun hyb => ?_⟩
        cases hb : Lit.bothB xs with
        | true => rfl
        | false =>
          rw [← hmo] at hown
          have := hiff.2 (more_foll hK hc hown hb)
          rw [hyb] at this; cases this
    have hx : e = 0 → g = 0 ∧ (xb = false → Lit.bothB xs = true ∨ Lit.bothB ys = true) := by
      intro he
      rcases hfact with ⟨he', _⟩ | ⟨_, hr, hcl⟩
      · omega
      · rcases hg with ⟨ho, _⟩ | ⟨_, hg0, K, own, hK, hc, hown, hiff⟩
        · rw [open_res2 f1 f2 (res_fit f1 f2 hcl) (by omega) (by omega)] at ho
          cases ho
        · refine ⟨hg0, fun hxb => ?_⟩
          cases hb : Lit.bothB xs with
          | true => exact .inl rfl
          | false =>
            cases hb2 : Lit.bothB ys with
            | true => exact .inr rfl
            | false =>
              have := hiff.2 (res_foll hK hc hr hcl hown hb hb2)
              rw [hxb] at this; cases this
    have he : e = 11 ∨ e = 0 := by rcases hfact with ⟨he, _⟩ | ⟨he, _⟩ <;> simp [he]
    clear hg hh hfact hfit
    (repeat first | refine go ?_ | ((try conv => whnf); (first | (refine St_gate ?_; refine xS ?_) | (refine StN_gate ?_; refine xN ?_)); clear H; intro w H))
    refine Call_of (rClean H (fun {w'} {l'} h => hs (l' := l' ++ [_, _, _, _, _]) (by simpa using h)) (by omega) fun y hy => (fit_bound f1 y hy).1) ?_
    clear H
    rintro _ w ⟨p1, q1, o1, rfl, _, _, H⟩
    (repeat first | refine go ?_ | ((try conv => whnf); (first | (refine St_gate ?_; refine xS ?_) | (refine StN_gate ?_; refine xN ?_)); clear H; intro w H))
    refine Call_of (rClean H (fun {w'} {l'} h => ht (l' := l' ++ [_, _, _, _, _, _]) (by simpa using h)) (by omega) fun y hy => (fit_bound f2 y hy).1) ?_
    clear H
    rintro _ w ⟨p2, q2, o2, rfl, _, _, H⟩
    replace H := H.tail.tail.tail.tail.tail.tail.tail
    generalize Lit.bothB xs = t1 at *
    generalize Lit.bothB ys = t2 at *
    rcases he with rfl | rfl
    case' inl => clear hx
    case' inr => obtain ⟨rfl, hx⟩ := hx rfl
    case inl =>
      cases yb <;> cases t1
      all_goals first
        | (exfalso; revert hy; decide)
        | ((repeat first | refine go ?_ | ((try conv => whnf); (first | (refine St_gate ?_; refine xS ?_) | (refine StN_gate ?_; refine xN ?_)); clear H; intro w H))
           exact Ret_in ⟨rfl, H⟩)
    case inr =>
      cases yb <;> cases xb <;> cases t1 <;> cases t2
      all_goals first
        | (exfalso; revert hy hx; decide)
        | ((repeat first | refine go ?_ | ((try conv => whnf); (first | (refine St_gate ?_; refine xS ?_) | (refine StN_gate ?_; refine xN ?_)); clear H; intro w H))
           exact Ret_in ⟨rfl, H⟩)
end
end Go.Proofs.YtkgmgjiomniijaaGreatDoor
