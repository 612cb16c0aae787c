/- Law: what is learnt holds wherever all clauses hold. -/
import Derived.Test.YtajllmlgihbdhaaLearnI
set_option linter.unusedVariables false
set_option linter.unusedSimpArgs false
namespace Go.Watch
section
variable {n : Nat} {V : List Int}
theorem VOk.put (h : VOk n V) {i : Nat} {z : Int} (hz : z = -1 ∨ z = 1) : VOk n (V.set i z) := by
  refine ⟨by rw [List.length_set]; exact h.len, fun v hv => ?_⟩
  rcases List.mem_or_eq_of_mem_set hv with hv | rfl
  · exact h.rng v hv
  · omega
theorem getD_put {i j : Nat} {z : Int} (hi : i < V.length) : (V.set i z).getD j 0 = if i = j then z else V.getD j 0 := by
  rw [List.getD_eq_getElem?_getD, List.getD_eq_getElem?_getD, List.getElem?_set]
  by_cases h : i = j
  · rw [if_pos h, if_pos h, if_pos hi]; rfl
  · rw [if_neg h, if_neg h]
theorem whole_or (hnz : ∀ j, 1 ≤ j → j < n + 1 → V.getD j 0 ≠ 0) (hok : VOk n V) {y : Int} (hy : FitV n y) (h : ofV V y ≠ 1) : ofV V (-y) = 1 := by
  have h0 := hy.1
  have h1 := hnz y.natAbs (by omega) (by have := hy.2; omega)
  have h2 := hok.of y
  rw [ofV_neg h0]
  have : ofV V y ≠ 0 := by
    unfold ofV
    split <;> omega
  omega
end
end Go.Watch
namespace Go.Proofs.Ytajllmlgihbdhaa
open Go Go.Vc Go.Watch Go.Lit
open Go.Trail (Ent value find upto okLit litsV)
set_option maxHeartbeats 16000000
set_option maxRecDepth 100000
theorem Eqv_shrAny {n : Nat} {x : Int} {b : Nat} {K : Int → Prop} (hk : ∀ m : Nat, K (m : Int)) : Eqv ((n : Int).fdiv (2 ^ min x.toNat b)) K := by
  refine Eqv_is ((n / 2 ^ min x.toNat b : Nat) : Int) ?_ (hk _)
  rw [Int.fdiv_eq_ediv_of_nonneg _ (by exact Int.le_of_lt (Int.pow_pos (by decide)))]
  rw [Int.natCast_ediv, Int.natCast_pow]; rfl
theorem Eqv_rem2 {m : Nat} {K : Int → Prop} (hk : ∀ r : Nat, r ≤ 1 → K (r : Int)) : Eqv ((m : Int).tmod 2) K :=
  Eqv_is ((m % 2 : Nat) : Int) rfl (hk _ (by omega))
theorem Ar_shlP {r P : Nat} {K : Int → Prop} (hP : 2 ^ r = P) (h : r ≤ 12) (hk : K (P : Int)) : Ar .i64 (1 * 2 ^ min ((r : Int).toNat) IntKind.i64.bits) K := by
  have h1 : (2 ^ r : Nat) ≤ 2 ^ 12 := Nat.pow_le_pow_right (by decide) h
  have e : (1 * 2 ^ min ((r : Int).toNat) IntKind.i64.bits : Int) = ((2 ^ r : Nat) : Int) := by
    rw [Int.toNat_natCast, Int.one_mul, show IntKind.i64.bits = 64 from rfl, Nat.min_eq_left (by omega), Int.natCast_pow]; rfl
  refine Ar_is _ ?_ hk
  rw [e, hP]
  exact wrap_i64 (by omega) (by omega)
section
variable {w0 w W : World} {l : List Res} {eb pb : Nat} {s : St} {n k m : Nat} {C : List (List Int)} {S : Nat → Prop} {V : List Int} {va : Option Addr} {vc : Nat}

theorem qSome (hV : Src w va (n + 1) 1 (V.map nV)) (hok : VOk n V) (hn : n ≤ 262144) {ys : List Int} {a : Option Addr} {cc : Nat} (hs : Src w a ys.length 1 (ys.map lV)) (hf : ∀ y ∈ ys, FitV n y) (hm : ys.length ≤ 9223372036854775807) :
    Does Try.prog 25 #[.slice va (n + 1) vc, .slice a ys.length cc] w fun v w' => v = .bool (ys.any fun y => decide (ofV V y = 1)) ∧ w = w' := by
  refine Does_intro tok (Try.call25 _ _) Try.func25 rfl (by rfl) ?_
  have hl := hok.len
  (repeat first | refine goN ?_ | ((try conv => whnf); first | (refine Ar_gate ?_; first | (with_reducible refine Ar_shlP hP (by omega) ?_) | refine xA ?_) | (first | with_reducible refine Eqv_shrAny (fun mm => ?_) | with_reducible refine Eqv_rem2 (fun rr hrr => ?_) | refine Eqv_in ?_)) | ((try conv => whnf); (first | (refine St_gate ?_; refine xS ?_) | (refine StN_gate ?_; refine xN ?_)); clear H; intro w H))
  refine Loop_intro (fun i : Nat => [(9, .int .i64 (i : Int))]) (fun i w' => w = w' ∧ i ≤ ys.length ∧ ∀ y ∈ ys.take i, ofV V y ≠ 1) (fun i => ys.length - i) 0 ⟨rfl, trivial⟩ ⟨rfl, Nat.zero_le _, by simp⟩ ?_
  rintro i _ ⟨rfl, hi, hno⟩
  refine Br_dec (fun k1 => ?_) (fun k1 => ?_)
  · have hlt : i < ys.length := by omega
    obtain ⟨yb, yo, rfl⟩ := hs.addr (by rw [List.length_map]; omega)
    have hyi : ys[i]? = some ys[i] := List.getElem?_eq_getElem hlt
    have hym := List.getElem_mem hlt
    have hnx : ys.take (i + 1) = ys.take i ++ [ys[i]] := by rw [List.take_add_one, hyi]; rfl
    generalize ys[i] = y at *
    refine Ix_in i rfl hlt ?_
    refine Ld_src (j := i) hs (v := lV y) (by rw [List.getElem?_map, hyi]; rfl) ?_
    (repeat first | refine goN ?_ | ((try conv => whnf); first | (refine Ar_gate ?_; first | (with_reducible refine Ar_shlP hP (by omega) ?_) | refine xA ?_) | (first | with_reducible refine Eqv_shrAny (fun mm => ?_) | with_reducible refine Eqv_rem2 (fun rr hrr => ?_) | refine Eqv_in ?_)) | ((try conv => whnf); (first | (refine St_gate ?_; refine xS ?_) | (refine StN_gate ?_; refine xN ?_)); clear H; intro w H))
    have hrof := rOf (V := V) (va := va) (vc := vc) (by rw [hl]; exact hV) hok hn (hf y hym)
    rw [hl] at hrof
    refine Call_of hrof ?_
    rintro _ _ ⟨rfl, rfl⟩
    by_cases h1 : ofV V y = 1
    · (repeat first | refine goN ?_ | ((try conv => whnf); first | (refine Ar_gate ?_; first | (with_reducible refine Ar_shlP hP (by omega) ?_) | refine xA ?_) | (first | with_reducible refine Eqv_shrAny (fun mm => ?_) | with_reducible refine Eqv_rem2 (fun rr hrr => ?_) | refine Eqv_in ?_)) | ((try conv => whnf); (first | (refine St_gate ?_; refine xS ?_) | (refine StN_gate ?_; refine xN ?_)); clear H; intro w H))
      refine Ret_in ⟨?_, rfl⟩
      rw [List.any_eq_true.2 ⟨y, hym, decide_eq_true h1⟩]; rfl
    · (repeat first | refine goN ?_ | ((try conv => whnf); first | (refine Ar_gate ?_; first | (with_reducible refine Ar_shlP hP (by omega) ?_) | refine xA ?_) | (first | with_reducible refine Eqv_shrAny (fun mm => ?_) | with_reducible refine Eqv_rem2 (fun rr hrr => ?_) | refine Eqv_in ?_)) | ((try conv => whnf); (first | (refine St_gate ?_; refine xS ?_) | (refine StN_gate ?_; refine xN ?_)); clear H; intro w H))
      refine ⟨i + 1, ⟨congrArg some (vint (by omega)), trivial⟩, ⟨rfl, by omega, fun z hz => ?_⟩, by omega⟩
      rw [hnx, List.mem_append, List.mem_singleton] at hz
      rcases hz with hz | rfl
      · exact hno z hz
      · exact h1
  · obtain rfl : i = ys.length := by omega
    rw [List.take_length] at hno
    (repeat first | refine goN ?_ | ((try conv => whnf); first | (refine Ar_gate ?_; first | (with_reducible refine Ar_shlP hP (by omega) ?_) | refine xA ?_) | (first | with_reducible refine Eqv_shrAny (fun mm => ?_) | with_reducible refine Eqv_rem2 (fun rr hrr => ?_) | refine Eqv_in ?_)) | ((try conv => whnf); (first | (refine St_gate ?_; refine xS ?_) | (refine StN_gate ?_; refine xN ?_)); clear H; intro w H))
    refine Ret_in ⟨?_, rfl⟩
    rw [List.any_eq_false.2 fun y hy => by simpa using hno y hy]; rfl

variable {a xa : Option Addr} {c cx : Nat} {R0 : List Fl} {X : List Int} {z : Int}
theorem uFollows (hs : FSrc W a C R0) (hsm : ∀ x ∈ R0, x.2.2.length ≤ 35184372087808) (hcap : C.length ≤ c) (hCl : C.length ≤ 9223372036854775807) (hx : Src W xa X.length 1 (X.map lV)) (hX : X.length ≤ 9223372036854775807) :
    Does Try.prog 5 #[.agg #[.int .i64 z, .slice a C.length c], .slice xa X.length cx] W fun v w' => v = .bool true ∧ Sep W w' [] := by
  refine Does_intro tok (Try.call5 _ _) Try.func5 rfl (by rfl) ?_
  have H := Sep.nil W
  have hP : 2 ^ 0 = 1 := rfl
  (repeat first | refine goN ?_ | ((try conv => whnf); first | (refine Ar_gate ?_; first | (with_reducible refine Ar_shlP hP (by omega) ?_) | refine xA ?_) | (first | with_reducible refine Eqv_shrAny (fun mm => ?_) | with_reducible refine Eqv_rem2 (fun rr hrr => ?_) | refine Eqv_in ?_)) | ((try conv => whnf); (first | (refine St_gate ?_; refine xS ?_) | (refine StN_gate ?_; refine xN ?_)); clear H; intro w H))
  (refine Nw_sep H ?_; clear H; intro fb w H; (try simp only [Value.cells, List.toList_toArray, List.append_nil, List.cons_append, List.nil_append] at H))
  (repeat first | refine goN ?_ | ((try conv => whnf); first | (refine Ar_gate ?_; first | (with_reducible refine Ar_shlP hP (by omega) ?_) | refine xA ?_) | (first | with_reducible refine Eqv_shrAny (fun mm => ?_) | with_reducible refine Eqv_rem2 (fun rr hrr => ?_) | refine Eqv_in ?_)) | ((try conv => whnf); (first | (refine St_gate ?_; refine xS ?_) | (refine StN_gate ?_; refine xN ?_)); clear H; intro w H))
  refine Call_of (qAlive w) ?_
  rintro _ w' ⟨rfl, HH⟩
  replace H := H.add HH
  clear HH
  (repeat first | refine goN ?_ | ((try conv => whnf); first | (refine Ar_gate ?_; first | (with_reducible refine Ar_shlP hP (by omega) ?_) | refine xA ?_) | (first | with_reducible refine Eqv_shrAny (fun mm => ?_) | with_reducible refine Eqv_rem2 (fun rr hrr => ?_) | refine Eqv_in ?_)) | ((try conv => whnf); (first | (refine St_gate ?_; refine xS ?_) | (refine StN_gate ?_; refine xN ?_)); clear H; intro w H))
  refine Call_of (qFresh H hs hcap hsm hCl) ?_
  clear H
  rintro _ w (⟨rfl, H⟩ | ⟨k, pb, eb, s, sa, sc, R, rfl, rfl, hk, hfr, H⟩)
  · (repeat first | refine goN ?_ | ((try conv => whnf); first | (refine Ar_gate ?_; first | (with_reducible refine Ar_shlP hP (by omega) ?_) | refine xA ?_) | (first | with_reducible refine Eqv_shrAny (fun mm => ?_) | with_reducible refine Eqv_rem2 (fun rr hrr => ?_) | refine Eqv_in ?_)) | ((try conv => whnf); (first | (refine St_gate ?_; refine xS ?_) | (refine StN_gate ?_; refine xN ?_)); clear H; intro w H))
    exact Ret_in ⟨rfl, H.all⟩
  by_cases hX40 : 40 < X.length
  · unfold stuL at H
    (repeat first | refine goN ?_ | ((try conv => whnf); first | (refine Ar_gate ?_; first | (with_reducible refine Ar_shlP hP (by omega) ?_) | refine xA ?_) | (first | with_reducible refine Eqv_shrAny (fun mm => ?_) | with_reducible refine Eqv_rem2 (fun rr hrr => ?_) | refine Eqv_in ?_)) | ((try conv => whnf); (first | (refine St_gate ?_; refine xS ?_) | (refine StN_gate ?_; refine xN ?_)); clear H; intro w H))
    exact Ret_in ⟨rfl, H.all⟩
  by_cases hk12 : 12 < k
  · unfold stuL at H
    (repeat first | refine goN ?_ | ((try conv => whnf); first | (refine Ar_gate ?_; first | (with_reducible refine Ar_shlP hP (by omega) ?_) | refine xA ?_) | (first | with_reducible refine Eqv_shrAny (fun mm => ?_) | with_reducible refine Eqv_rem2 (fun rr hrr => ?_) | refine Eqv_in ?_)) | ((try conv => whnf); (first | (refine St_gate ?_; refine xS ?_) | (refine StN_gate ?_; refine xN ?_)); clear H; intro w H))
    exact Ret_in ⟨rfl, H.all⟩
  have hRf := hfr.few
  clear hP
  obtain ⟨P, hP⟩ : ∃ P, 2 ^ k = P := ⟨_, rfl⟩
  have hP2 : P ≤ 4096 := by rw [← hP]; exact Nat.pow_le_pow_right (by decide) (Nat.le_of_not_lt hk12)
  unfold stuL at H
  (repeat first | refine goN ?_ | ((try conv => whnf); first | (refine Ar_gate ?_; first | (with_reducible refine Ar_shlP hP (by omega) ?_) | refine xA ?_) | (first | with_reducible refine Eqv_shrAny (fun mm => ?_) | with_reducible refine Eqv_rem2 (fun rr hrr => ?_) | refine Eqv_in ?_)) | ((try conv => whnf); (first | (refine St_gate ?_; refine xS ?_) | (refine StN_gate ?_; refine xN ?_)); clear H; intro w H))
  refine Call_of (tHit H hfr.tut hk (by decide) (by decide)) ?_
  clear H
  rintro _ w ⟨s1, id1, rfl, h1, x1, hit1, H⟩
  (repeat first | refine goN ?_ | ((try conv => whnf); first | (refine Ar_gate ?_; first | (with_reducible refine Ar_shlP hP (by omega) ?_) | refine xA ?_) | (first | with_reducible refine Eqv_shrAny (fun mm => ?_) | with_reducible refine Eqv_rem2 (fun rr hrr => ?_) | refine Eqv_in ?_)) | ((try conv => whnf); (first | (refine St_gate ?_; refine xS ?_) | (refine StN_gate ?_; refine xN ?_)); clear H; intro w H))
  refine Loop_intro (fun q : Nat × St × Int => [(41, .int .i64 (q.1 : Int)), (6, .int .i64 q.2.2)]) (fun q w => (q.1 ≤ X.length ∧ Tut q.2.1 k (clsL R) 80 (80 + 2800 * (q.1 + 1)) ∧ Hit q.2.1 q.2.2) ∧ Sep W w (engR eb q.2.1 :: stuL pb eb sa sc R [cellsR fb 34 [.int .i64 (k : Int), .slice a C.length c]])) (fun q => X.length - q.1)
    (0, s1, id1) ⟨rfl, rfl, trivial⟩ ⟨⟨Nat.zero_le _, h1, hit1⟩, H⟩ ?_
  clear H h1 x1 hit1 hfr
  rintro ⟨i, s, id⟩ w ⟨⟨hi, h, hit⟩, H⟩
  simp only [] at hi h hit H ⊢
  unfold stuL at H
  refine Br_dec (fun k1 => ?_) (fun k1 => ?_)
  · have hlt : i < X.length := by omega
    have hsrc : Src w xa X.length 1 (X.map lV) := H.rd hx
    obtain ⟨yb, yo, rfl⟩ := hsrc.addr (by rw [List.length_map]; omega)
    have hyi : X[i]? = some X[i] := List.getElem?_eq_getElem hlt
    generalize X[i] = y at *
    refine Ix_in i rfl hlt ?_
    refine Ld_src (j := i) hsrc (v := lV y) (by rw [List.getElem?_map, hyi]; rfl) ?_
    clear hsrc
    (repeat first | refine goN ?_ | ((try conv => whnf); first | (refine Ar_gate ?_; first | (with_reducible refine Ar_shlP hP (by omega) ?_) | refine xA ?_) | (first | with_reducible refine Eqv_shrAny (fun mm => ?_) | with_reducible refine Eqv_rem2 (fun rr hrr => ?_) | refine Eqv_in ?_)) | ((try conv => whnf); (first | (refine St_gate ?_; refine xS ?_) | (refine StN_gate ?_; refine xN ?_)); clear H; intro w H))
    rcases hit with ⟨rfl, hF, hh⟩ | hit
    · (repeat first | refine goN ?_ | ((try conv => whnf); first | (refine Ar_gate ?_; first | (with_reducible refine Ar_shlP hP (by omega) ?_) | refine xA ?_) | (first | with_reducible refine Eqv_shrAny (fun mm => ?_) | with_reducible refine Eqv_rem2 (fun rr hrr => ?_) | refine Eqv_in ?_)) | ((try conv => whnf); (first | (refine St_gate ?_; refine xS ?_) | (refine StN_gate ?_; refine xN ?_)); clear H; intro w H))
      refine Call_of (tDecide H h hh (x := y)) ?_
      clear H
      rintro _ w (⟨rfl, h2, H⟩ | ⟨⟨z, rfl, hz, hz1, hz2⟩, H⟩)
      · (repeat first | refine goN ?_ | ((try conv => whnf); first | (refine Ar_gate ?_; first | (with_reducible refine Ar_shlP hP (by omega) ?_) | refine xA ?_) | (first | with_reducible refine Eqv_shrAny (fun mm => ?_) | with_reducible refine Eqv_rem2 (fun rr hrr => ?_) | refine Eqv_in ?_)) | ((try conv => whnf); (first | (refine St_gate ?_; refine xS ?_) | (refine StN_gate ?_; refine xN ?_)); clear H; intro w H))
        refine Call_of (tHit H h2 hk (by decide) (by omega)) ?_
        clear H
        rintro _ w ⟨s2, id2, rfl, h3, x2, hit2, H⟩
        (repeat first | refine goN ?_ | ((try conv => whnf); first | (refine Ar_gate ?_; first | (with_reducible refine Ar_shlP hP (by omega) ?_) | refine xA ?_) | (first | with_reducible refine Eqv_shrAny (fun mm => ?_) | with_reducible refine Eqv_rem2 (fun rr hrr => ?_) | refine Eqv_in ?_)) | ((try conv => whnf); (first | (refine St_gate ?_; refine xS ?_) | (refine StN_gate ?_; refine xN ?_)); clear H; intro w H))
        exact ⟨(i + 1, s2, id2), ⟨congrArg some (vint (by simp)), rfl, trivial⟩, ⟨⟨by omega, h3.mono (Nat.le_refl _) (by simp only []; omega), hit2⟩, H⟩, by simp; omega⟩
      · (repeat first | refine goN ?_ | ((try conv => whnf); first | (refine Ar_gate ?_; first | (with_reducible refine Ar_shlP hP (by omega) ?_) | refine xA ?_) | (first | with_reducible refine Eqv_shrAny (fun mm => ?_) | with_reducible refine Eqv_rem2 (fun rr hrr => ?_) | refine Eqv_in ?_)) | ((try conv => whnf); (first | (refine St_gate ?_; refine xS ?_) | (refine StN_gate ?_; refine xN ?_)); clear H; intro w H))
        exact ⟨(i + 1, s, -1), ⟨congrArg some (vint (by simp)), rfl, trivial⟩, ⟨⟨by omega, h.mono (Nat.le_refl _) (by simp only []; omega), .inl ⟨rfl, hF, hh⟩⟩, H⟩, by simp; omega⟩
    · obtain ⟨j, cj, rfl, hj⟩ := hit
      (repeat first | refine goN ?_ | ((try conv => whnf); first | (refine Ar_gate ?_; first | (with_reducible refine Ar_shlP hP (by omega) ?_) | refine xA ?_) | (first | with_reducible refine Eqv_shrAny (fun mm => ?_) | with_reducible refine Eqv_rem2 (fun rr hrr => ?_) | refine Eqv_in ?_)) | ((try conv => whnf); (first | (refine St_gate ?_; refine xS ?_) | (refine StN_gate ?_; refine xN ?_)); clear H; intro w H))
      exact ⟨(i + 1, s, (j : Int)), ⟨congrArg some (vint (by simp)), rfl, trivial⟩, ⟨⟨by omega, h.mono (Nat.le_refl _) (by simp only []; omega), .inr ⟨j, cj, rfl, hj⟩⟩, H⟩, by simp; omega⟩
  have hX40' : i ≤ 40 := by omega
  replace h := h.mono (Nat.le_refl _) (m' := 200000) (by omega)
  clear hX40' k1 hi

  rcases hit with ⟨rfl, hF, hh⟩ | ⟨j, cj, rfl, hj, hc1, ho1, hi1, hf1⟩
  · (repeat first | refine goN ?_ | ((try conv => whnf); first | (refine Ar_gate ?_; first | (with_reducible refine Ar_shlP hP (by omega) ?_) | refine xA ?_) | (first | with_reducible refine Eqv_shrAny (fun mm => ?_) | with_reducible refine Eqv_rem2 (fun rr hrr => ?_) | refine Eqv_in ?_)) | ((try conv => whnf); (first | (refine St_gate ?_; refine xS ?_) | (refine StN_gate ?_; refine xN ?_)); clear H; intro w H))
    exact Ret_in ⟨rfl, H.all⟩
  (repeat first | refine goN ?_ | ((try conv => whnf); first | (refine Ar_gate ?_; first | (with_reducible refine Ar_shlP hP (by omega) ?_) | refine xA ?_) | (first | with_reducible refine Eqv_shrAny (fun mm => ?_) | with_reducible refine Eqv_rem2 (fun rr hrr => ?_) | refine Eqv_in ?_)) | ((try conv => whnf); (first | (refine St_gate ?_; refine xS ?_) | (refine StN_gate ?_; refine xN ?_)); clear H; intro w H))
  have hg1 := h.good
  have hCf := h.few
  have hvn := h.vars
  refine Call_of (lLearn H hg1 h.dp hc1 ho1 h.lits (by omega)) ?_
  clear H
  rintro _ w (⟨hno, rfl, H⟩ | ⟨top, x, Q, back, qa, qk, _, rfl, hL, H⟩)
  · (repeat first | refine goN ?_ | ((try conv => whnf); first | (refine Ar_gate ?_; first | (with_reducible refine Ar_shlP hP (by omega) ?_) | refine xA ?_) | (first | with_reducible refine Eqv_shrAny (fun mm => ?_) | with_reducible refine Eqv_rem2 (fun rr hrr => ?_) | refine Eqv_in ?_)) | ((try conv => whnf); (first | (refine St_gate ?_; refine xS ?_) | (refine StN_gate ?_; refine xN ?_)); clear H; intro w H))
    exact Ret_in ⟨rfl, H.all⟩
  have hlen := hL.few hg1
  have hfit := hL.fit hg1
  rw [hvn] at hfit
  have hcf := (h.conf_iff (Δ' := fun z => ∃ y ∈ x :: Q, z = -y) (fun y => by unfold Watch.Neg; simp)).1 hL.conf
  replace hcf : Conf (GamL (clsL R)) (fun z => ∃ y ∈ x :: Q, z = -y) := hcf
  have hfc := h.fit
  (repeat first | refine goN ?_ | ((try conv => whnf); first | (refine Ar_gate ?_; first | (with_reducible refine Ar_shlP hP (by omega) ?_) | refine xA ?_) | (first | with_reducible refine Eqv_shrAny (fun mm => ?_) | with_reducible refine Eqv_rem2 (fun rr hrr => ?_) | refine Eqv_in ?_)) | ((try conv => whnf); (first | (refine St_gate ?_; refine xS ?_) | (refine StN_gate ?_; refine xN ?_)); clear H; intro w H))
  refine Loop_intro (fun i : Nat => [(12, .int .i64 (i : Int))]) (fun i w => i ≤ P ∧ Sep W w (ownR qa (x :: Q).length qk 27 1 ((x :: Q).map lV) :: engR eb s :: stuL pb eb sa sc R [cellsR fb 34 [.int .i64 (k : Int), .slice a C.length c]])) (fun i => P - i)
    0 ⟨rfl, trivial⟩ ⟨Nat.zero_le _, H⟩ ?_
  clear H
  intro ni w ⟨hni, H⟩
  unfold stuL at H
  (repeat first | refine goN ?_ | ((try conv => whnf); first | (refine Ar_gate ?_; first | (with_reducible refine Ar_shlP hP (by omega) ?_) | refine xA ?_) | (first | with_reducible refine Eqv_shrAny (fun mm => ?_) | with_reducible refine Eqv_rem2 (fun rr hrr => ?_) | refine Eqv_in ?_)) | ((try conv => whnf); (first | (refine St_gate ?_; refine xS ?_) | (refine StN_gate ?_; refine xN ?_)); clear H; intro w H))
  refine Br_dec (fun k1 => ?_) (fun k1 => ?_)
  · (repeat first | refine goN ?_ | ((try conv => whnf); first | (refine Ar_gate ?_; first | (with_reducible refine Ar_shlP hP (by omega) ?_) | refine xA ?_) | (first | with_reducible refine Eqv_shrAny (fun mm => ?_) | with_reducible refine Eqv_rem2 (fun rr hrr => ?_) | refine Eqv_in ?_)) | ((try conv => whnf); (first | (refine St_gate ?_; refine xS ?_) | (refine StN_gate ?_; refine xN ?_)); clear H; intro w H))
    refine make_sep tok H rfl rfl rfl rfl rfl (by decide) (k + 1) (k + 1) (by omega) (by omega) (by omega) (by omega) (by unfold maxLen; omega) ?_
    clear H
    intro b0 w H
    rw [zN] at H
    (repeat first | refine goN ?_ | ((try conv => whnf); first | (refine Ar_gate ?_; first | (with_reducible refine Ar_shlP hP (by omega) ?_) | refine xA ?_) | (first | with_reducible refine Eqv_shrAny (fun mm => ?_) | with_reducible refine Eqv_rem2 (fun rr hrr => ?_) | refine Eqv_in ?_)) | ((try conv => whnf); (first | (refine St_gate ?_; refine xS ?_) | (refine StN_gate ?_; refine xN ?_)); clear H; intro w H))
    refine Loop_intro (fun q : Nat × List Int => [(14, .int .i64 (q.1 : Int))]) (fun q w => (1 ≤ q.1 ∧ q.1 ≤ k + 1 ∧ VOk k q.2 ∧ ∀ j, 1 ≤ j → j < q.1 → q.2.getD j 0 ≠ 0) ∧
        Sep W w (ownR (some ⟨b0, 0, none⟩) (k + 1) (k + 1) 3 1 (q.2.map nV) :: ownR qa (x :: Q).length qk 27 1 ((x :: Q).map lV) :: engR eb s :: stuL pb eb sa sc R [cellsR fb 34 [.int .i64 (k : Int), .slice a C.length c]])) (fun q => k + 1 - q.1)
      (1, List.replicate (k + 1) 0) ⟨rfl, trivial⟩ ⟨⟨Nat.le_refl _, by simp, VOk.zero k, fun j h1 h2 => by simp only [] at h2; omega⟩, H⟩ ?_
    clear H
    rintro ⟨i, V⟩ w ⟨⟨hi1', hi2, hok, hnz⟩, H⟩
    simp only [] at hi1' hi2 hok hnz H ⊢
    unfold stuL at H
    have hVl := hok.len
    (repeat first | refine goN ?_ | ((try conv => whnf); first | (refine Ar_gate ?_; first | (with_reducible refine Ar_shlP hP (by omega) ?_) | refine xA ?_) | (first | with_reducible refine Eqv_shrAny (fun mm => ?_) | with_reducible refine Eqv_rem2 (fun rr hrr => ?_) | refine Eqv_in ?_)) | ((try conv => whnf); (first | (refine St_gate ?_; refine xS ?_) | (refine StN_gate ?_; refine xN ?_)); clear H; intro w H))
    refine Br_dec (fun k2 => ?_) (fun k2 => ?_)
    · (repeat first | refine goN ?_ | ((try conv => whnf); first | (refine Ar_gate ?_; first | (with_reducible refine Ar_shlP hP (by omega) ?_) | refine xA ?_) | (first | with_reducible refine Eqv_shrAny (fun mm => ?_) | with_reducible refine Eqv_rem2 (fun rr hrr => ?_) | refine Eqv_in ?_)) | ((try conv => whnf); (first | (refine St_gate ?_; refine xS ?_) | (refine StN_gate ?_; refine xN ?_)); clear H; intro w H))
      refine Ix_in i rfl (by omega) ?_
      (repeat first | refine goN ?_ | ((try conv => whnf); first | (refine Ar_gate ?_; first | (with_reducible refine Ar_shlP hP (by omega) ?_) | refine xA ?_) | (first | with_reducible refine Eqv_shrAny (fun mm => ?_) | with_reducible refine Eqv_rem2 (fun rr hrr => ?_) | refine Eqv_in ?_)) | ((try conv => whnf); (first | (refine St_gate ?_; refine xS ?_) | (refine StN_gate ?_; refine xN ?_)); clear H; intro w H))
      refine St_uO H .head rfl (by rw [List.length_map]; omega) rfl ?_
      clear H; intro w H
      have hset : ∀ z : Int, (V.map nV).set i (nV z) = (V.set i z).map nV := fun z => by rw [List.map_set]
      rw [hset] at H
      (repeat first | refine goN ?_ | ((try conv => whnf); first | (refine Ar_gate ?_; first | (with_reducible refine Ar_shlP hP (by omega) ?_) | refine xA ?_) | (first | with_reducible refine Eqv_shrAny (fun mm => ?_) | with_reducible refine Eqv_rem2 (fun rr hrr => ?_) | refine Eqv_in ?_)) | ((try conv => whnf); (first | (refine St_gate ?_; refine xS ?_) | (refine StN_gate ?_; refine xN ?_)); clear H; intro w H))
      refine ⟨(i + 1, V.set i (2 * (rr : Int) - 1)), ⟨congrArg some (vint (by simp)), trivial⟩, ⟨⟨by simp, by simp only []; omega, hok.put (by omega), fun j h1 h2 => ?_⟩, H⟩, by simp; omega⟩
      simp only [] at h2 ⊢
      rw [Watch.getD_put (by omega)]
      split
      · omega
      · exact hnz j h1 (by omega)
    · obtain rfl : i = k + 1 := by omega
      clear hi1' hi2 k2
      (repeat first | refine goN ?_ | ((try conv => whnf); first | (refine Ar_gate ?_; first | (with_reducible refine Ar_shlP hP (by omega) ?_) | refine xA ?_) | (first | with_reducible refine Eqv_shrAny (fun mm => ?_) | with_reducible refine Eqv_rem2 (fun rr hrr => ?_) | refine Eqv_in ?_)) | ((try conv => whnf); (first | (refine St_gate ?_; refine xS ?_) | (refine StN_gate ?_; refine xN ?_)); clear H; intro w H))
      have hRl : (clsL R).length = R.length := List.length_map ..
      refine Loop_intro (fun q : Nat × Bool => [(108, .int .i64 (q.1 : Int)), (15, .bool q.2)]) (fun q w => (q.1 ≤ R.length ∧ (q.2 = true ↔ ∀ y ∈ (clsL R).take q.1, ∃ z ∈ y, ofV V z = 1)) ∧
          Sep W w (ownR (some ⟨b0, 0, none⟩) (k + 1) (k + 1) 3 1 (V.map nV) :: ownR qa (x :: Q).length qk 27 1 ((x :: Q).map lV) :: engR eb s :: stuL pb eb sa sc R [cellsR fb 34 [.int .i64 (k : Int), .slice a C.length c]])) (fun q => R.length - q.1)
        (0, true) ⟨rfl, rfl, trivial⟩ ⟨⟨Nat.zero_le _, by simp⟩, H⟩ ?_
      clear H
      rintro ⟨i, al⟩ w ⟨⟨hi, hal⟩, H⟩
      simp only [] at hi hal H ⊢
      unfold stuL at H
      (repeat first | refine goN ?_ | ((try conv => whnf); first | (refine Ar_gate ?_; first | (with_reducible refine Ar_shlP hP (by omega) ?_) | refine xA ?_) | (first | with_reducible refine Eqv_shrAny (fun mm => ?_) | with_reducible refine Eqv_rem2 (fun rr hrr => ?_) | refine Eqv_in ?_)) | ((try conv => whnf); (first | (refine St_gate ?_; refine xS ?_) | (refine StN_gate ?_; refine xN ?_)); clear H; intro w H))
      refine Br_dec (fun k2 => ?_) (fun k2 => ?_)
      · have hlt : i < (clsL R).length := by omega
        have hsrc : CSrc w sa (clsL R) R := Sep.clauses H mm mm
        obtain ⟨⟨ya, yc, ys⟩, hy, hyC, hys, hyl⟩ := hsrc.at hlt
        have hroom := hsrc.room _ (List.mem_of_getElem? hy)
        simp only [] at hyC hys hyl hroom
        obtain ⟨rb, ro, rfl⟩ := hsrc.rows.addr (by rw [List.length_map]; omega)
        have hym := List.mem_of_getElem? hyC
        have hnx : (clsL R).take (i + 1) = (clsL R).take i ++ [ys] := by rw [List.take_add_one, hyC]; rfl
        have hyfit := (hfc ys hym).2
        (repeat first | refine goN ?_ | ((try conv => whnf); first | (refine Ar_gate ?_; first | (with_reducible refine Ar_shlP hP (by omega) ?_) | refine xA ?_) | (first | with_reducible refine Eqv_shrAny (fun mm => ?_) | with_reducible refine Eqv_rem2 (fun rr hrr => ?_) | refine Eqv_in ?_)) | ((try conv => whnf); (first | (refine St_gate ?_; refine xS ?_) | (refine StN_gate ?_; refine xN ?_)); clear H; intro w H))
        refine Ix_in i rfl (by omega) ?_
        refine Ld_src (j := i) hsrc.rows (v := .slice ya ys.length yc) (by rw [List.getElem?_map, hy]; rfl) ?_
        cases al with
        | false =>
          (repeat first | refine goN ?_ | ((try conv => whnf); first | (refine Ar_gate ?_; first | (with_reducible refine Ar_shlP hP (by omega) ?_) | refine xA ?_) | (first | with_reducible refine Eqv_shrAny (fun mm => ?_) | with_reducible refine Eqv_rem2 (fun rr hrr => ?_) | refine Eqv_in ?_)) | ((try conv => whnf); (first | (refine St_gate ?_; refine xS ?_) | (refine StN_gate ?_; refine xN ?_)); clear H; intro w H))
          refine ⟨(i + 1, false), ⟨congrArg some (vint (by simp)), rfl, trivial⟩, ⟨⟨by simp only []; omega, ?_⟩, H⟩, by simp; omega⟩
          simp only []
          refine ⟨fun h => (by cases h), fun h => hal.2 fun y hy => h y ?_⟩
          rw [hnx]; exact List.mem_append_left _ hy
        | true =>
          (repeat first | refine goN ?_ | ((try conv => whnf); first | (refine Ar_gate ?_; first | (with_reducible refine Ar_shlP hP (by omega) ?_) | refine xA ?_) | (first | with_reducible refine Eqv_shrAny (fun mm => ?_) | with_reducible refine Eqv_rem2 (fun rr hrr => ?_) | refine Eqv_in ?_)) | ((try conv => whnf); (first | (refine St_gate ?_; refine xS ?_) | (refine StN_gate ?_; refine xN ?_)); clear H; intro w H))
          refine Call_of (qSome (H.srcM (.head _)) hok (by omega) hys hyfit (by have := hroom.2; unfold maxLen at this; omega)) ?_
          rintro _ _ ⟨rfl, rfl⟩
          (repeat first | refine goN ?_ | ((try conv => whnf); first | (refine Ar_gate ?_; first | (with_reducible refine Ar_shlP hP (by omega) ?_) | refine xA ?_) | (first | with_reducible refine Eqv_shrAny (fun mm => ?_) | with_reducible refine Eqv_rem2 (fun rr hrr => ?_) | refine Eqv_in ?_)) | ((try conv => whnf); (first | (refine St_gate ?_; refine xS ?_) | (refine StN_gate ?_; refine xN ?_)); clear H; intro w H))
          refine ⟨(i + 1, _), ⟨congrArg some (vint (by simp)), rfl, trivial⟩, ⟨⟨by simp only []; omega, ?_⟩, H⟩, by simp; omega⟩
          simp only []
          rw [hnx, List.any_eq_true]
          have h1 := hal.1 rfl
          constructor
          · rintro ⟨z, hz1, hz2⟩ y hy
            rw [List.mem_append, List.mem_singleton] at hy
            rcases hy with hy | rfl
            · exact h1 y hy
            · exact ⟨z, hz1, of_decide_eq_true hz2⟩
          · intro h
            obtain ⟨z, hz1, hz2⟩ := h ys (by simp)
            exact ⟨z, hz1, decide_eq_true hz2⟩
      · obtain rfl : i = R.length := by omega
        rw [← hRl, List.take_length] at hal
        cases al with
        | false =>
          (repeat first | refine goN ?_ | ((try conv => whnf); first | (refine Ar_gate ?_; first | (with_reducible refine Ar_shlP hP (by omega) ?_) | refine xA ?_) | (first | with_reducible refine Eqv_shrAny (fun mm => ?_) | with_reducible refine Eqv_rem2 (fun rr hrr => ?_) | refine Eqv_in ?_)) | ((try conv => whnf); (first | (refine St_gate ?_; refine xS ?_) | (refine StN_gate ?_; refine xN ?_)); clear H; intro w H))
          exact ⟨ni + 1, ⟨congrArg some (vint (by omega)), trivial⟩, ⟨by omega, H.tail⟩, by omega⟩
        | true =>
          have hsome : ((x :: Q).any fun y => decide (ofV V y = 1)) = true := by
            obtain ⟨y, hy, _, hy2⟩ := conf_holds (T := fun y => FitV k y ∧ ofV V y = 1) hcf (fun y hy => by
              obtain ⟨z, hz, h1⟩ := hal.1 rfl y hy
              exact ⟨z, hz, (hfc y hy).2 z hz, h1⟩) (fun y hy h2 => by
              have := ofV_neg (V := V) hy.1.1
              have h3 := hy.2
              have h4 := h2.2
              omega) (fun y hy h1 => ⟨(hfit y hy).neg, whole_or hnz hok (hfit y hy) fun e => h1 ⟨hfit y hy, e⟩⟩)
            exact List.any_eq_true.2 ⟨y, hy, decide_eq_true hy2⟩
          (repeat first | refine goN ?_ | ((try conv => whnf); first | (refine Ar_gate ?_; first | (with_reducible refine Ar_shlP hP (by omega) ?_) | refine xA ?_) | (first | with_reducible refine Eqv_shrAny (fun mm => ?_) | with_reducible refine Eqv_rem2 (fun rr hrr => ?_) | refine Eqv_in ?_)) | ((try conv => whnf); (first | (refine St_gate ?_; refine xS ?_) | (refine StN_gate ?_; refine xN ?_)); clear H; intro w H))
          refine Call_of (qSome (ys := x :: Q) (H.srcM (.head _)) hok (by omega) (H.srcM (.tail _ (.head _))) hfit (by omega)) ?_
          rintro _ _ ⟨rfl, rfl⟩
          rw [hsome]
          (repeat first | refine goN ?_ | ((try conv => whnf); first | (refine Ar_gate ?_; first | (with_reducible refine Ar_shlP hP (by omega) ?_) | refine xA ?_) | (first | with_reducible refine Eqv_shrAny (fun mm => ?_) | with_reducible refine Eqv_rem2 (fun rr hrr => ?_) | refine Eqv_in ?_)) | ((try conv => whnf); (first | (refine St_gate ?_; refine xS ?_) | (refine StN_gate ?_; refine xN ?_)); clear H; intro w H))
          exact ⟨ni + 1, ⟨congrArg some (vint (by omega)), trivial⟩, ⟨by omega, H.tail⟩, by omega⟩
  · (repeat first | refine goN ?_ | ((try conv => whnf); first | (refine Ar_gate ?_; first | (with_reducible refine Ar_shlP hP (by omega) ?_) | refine xA ?_) | (first | with_reducible refine Eqv_shrAny (fun mm => ?_) | with_reducible refine Eqv_rem2 (fun rr hrr => ?_) | refine Eqv_in ?_)) | ((try conv => whnf); (first | (refine St_gate ?_; refine xS ?_) | (refine StN_gate ?_; refine xN ?_)); clear H; intro w H))
    exact Ret_in ⟨rfl, H.all⟩
end
end Go.Proofs.Ytajllmlgihbdhaa
