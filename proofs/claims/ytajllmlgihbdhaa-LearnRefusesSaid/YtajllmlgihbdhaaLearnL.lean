/- Law: of any clause, at any time: nothing is learnt of one that is not false. -/
import Derived.Test.YtajllmlgihbdhaaLearnI
set_option linter.unusedVariables false
set_option linter.unusedSimpArgs false
namespace Go.Watch
open Go.Trail
section
variable {E : List Ent} {ys : List Int} {y : Int} {i : Nat}
/-- The levels under 40. -/
def lvStep4 (E : List Ent) (acc : List Int) (y : Int) : List Int := if (0 ≤ lvE E (var y) ∧ lvE E (var y) < 40) ∧ lvE E (var y) ∉ acc then acc ++ [lvE E (var y)] else acc
def lvs4 (E : List Ent) (ys : List Int) : List Int := ys.foldl (lvStep4 E) []
theorem lvs4_next (h : ys[i]? = some y) : lvs4 E (ys.take (i + 1)) = lvStep4 E (lvs4 E (ys.take i)) y := by
  unfold lvs4
  rw [List.take_add_one, h, List.foldl_append]; rfl
theorem lvs4_len : ∀ {ys : List Int} {i : Nat}, i ≤ ys.length → (lvs4 E (ys.take i)).length ≤ i
  | ys, 0, _ => by simp [lvs4]
  | ys, i + 1, h => by
    have hy : ys[i]? = some ys[i] := List.getElem?_eq_getElem (by omega)
    rw [lvs4_next hy]
    have := lvs4_len (ys := ys) (i := i) (by omega)
    unfold lvStep4
    split
    · simp; omega
    · omega
/-- Which of the forty levels are there. -/
def fl40 (acc : List Int) : List Go.Value := (List.range 40).map fun (j : Nat) => Go.Value.bool (decide ((j : Int) ∈ acc))
theorem fl40_len {acc : List Int} : (fl40 acc).length = 40 := by unfold fl40; rw [List.length_map, List.length_range]
theorem fl40_get {acc : List Int} {j : Nat} (h : j < 40) : (fl40 acc)[j]? = some (Go.Value.bool (decide ((j : Int) ∈ acc))) := by
  unfold fl40
  rw [List.getElem?_map, List.getElem?_range h]; rfl
theorem fl40_set {acc : List Int} {j : Nat} (h : j < 40) : (fl40 acc).set j (Go.Value.bool true) = fl40 (acc ++ [(j : Int)]) := by
  apply List.ext_getElem?
  intro k
  rw [List.getElem?_set, fl40_len]
  by_cases hk : k < 40
  · rw [fl40_get hk, fl40_get hk]
    by_cases e : j = k
    · subst e; rw [if_pos rfl, if_pos h, decide_eq_true (by simp)]
    · rw [if_neg e]
      congr 2
      rw [Bool.eq_iff_iff, decide_eq_true_iff, decide_eq_true_iff, List.mem_append, List.mem_singleton]
      exact ⟨.inl, fun h => h.elim id fun h => by omega⟩
  · rw [if_neg (by omega), List.getElem?_eq_none (by rw [fl40_len]; omega), List.getElem?_eq_none (by rw [fl40_len]; omega)]
end
end Go.Watch
namespace Go.Proofs.Ytajllmlgihbdhaa
open Go Go.Vc Go.Watch Go.Lit
open Go.Trail (Ent value find upto okLit litsV)
set_option maxHeartbeats 16000000
set_option maxRecDepth 100000
theorem lvs4_eq {E : List Ent} : ∀ (ys : List Int), (∀ y, lvE E (Trail.var y) < 40) → lvs4 E ys = lvs E ys := by
  intro ys h
  unfold lvs4 lvs
  have : lvStep4 E = lvStep E := by
    funext acc y
    unfold lvStep4 lvStep
    have := h y
    by_cases h1 : 0 ≤ lvE E (Trail.var y) ∧ lvE E (Trail.var y) ∉ acc
    · rw [if_pos ⟨⟨h1.1, this⟩, h1.2⟩, if_pos h1]
    · rw [if_neg (fun h2 => h1 ⟨h2.1.1, h2.2⟩), if_neg h1]
  rw [this]
theorem Ld_eq {w : World} {a a' : Addr} {K : Value → Prop} (e : a' = a) (h : Ld w a' K) : Ld w a K := e ▸ h
theorem St_eq {w : World} {a a' : Addr} {v : Value} {K : World → Prop} (e : a' = a) (h : St w a' v K) : St w a v K := e ▸ h
section
variable {w0 w W : World} {l : List Res} {eb pb : Nat} {s : St} {n k m : Nat} {C : List (List Int)} {S : Nat → Prop} {V : List Int} {va : Option Addr} {vc : Nat}

theorem eAny (H : Sep w0 w (engR eb s :: l)) (h : Tut s n C k m) (hk : k ≤ 1000000) (id : Int) :
    Does Try.prog 16 #[.pointer (some ⟨eb, 0, none⟩), .int .i64 id] w fun v w' => ∃ a kc out b, v = .tuple #[.slice a out.length kc, .bool b] ∧
      (b = true → ∃ (j : Nat) (c : Cls), id = j ∧ s.C[j]? = some c ∧ c.on = true ∧ ∀ x, x ∈ out ↔ x ∈ c.lits) ∧ (b = false → out = [] ∧ ∀ (j : Nat) (c : Cls), id = j → s.C[j]? = some c → c.on = true → False) ∧ (∀ x ∈ out, okLit x = true) ∧ out.length ≤ 1000000 ∧
      Sep w0 w' (ownR a out.length kc 27 1 (out.map lV) :: engR eb s :: l) := by
  have hCk := h.few
  have hg := h.good
  have hno : (id < 0 ∨ (s.C.length : Int) ≤ id ∨ ∃ c, s.C[id.toNat]? = some c ∧ c.on = false) → (∀ (j : Nat) (c : Cls), id = j → s.C[j]? = some c → c.on = true → False) → Does Try.prog 16 #[.pointer (some ⟨eb, 0, none⟩), .int .i64 id] w fun v w' => ∃ a kc out b, v = .tuple #[.slice a out.length kc, .bool b] ∧
      (b = true → ∃ (j : Nat) (c : Cls), id = j ∧ s.C[j]? = some c ∧ c.on = true ∧ ∀ x, x ∈ out ↔ x ∈ c.lits) ∧ (b = false → out = [] ∧ ∀ (j : Nat) (c : Cls), id = j → s.C[j]? = some c → c.on = true → False) ∧ (∀ x ∈ out, okLit x = true) ∧ out.length ≤ 1000000 ∧
      Sep w0 w' (ownR a out.length kc 27 1 (out.map lV) :: engR eb s :: l) := by
    intro h1 h2
    refine (eClause_no H h1 (by omega)).mono ?_
    rintro v w' ⟨rfl, H⟩
    exact ⟨none, 0, [], false, rfl, fun h => (by cases h), fun _ => ⟨rfl, h2⟩, fun x hx => (by cases hx), by decide, Own.nilR H 27 1⟩
  by_cases h0 : id < 0
  · exact hno (.inl h0) fun j c hj => by omega
  obtain ⟨j, rfl⟩ : ∃ j : Nat, id = j := ⟨id.toNat, by omega⟩
  cases hj : s.C[j]? with
  | none =>
    have := List.getElem?_eq_none_iff.1 hj
    refine hno (.inr (.inl (by omega))) fun j' c hj' hc => ?_
    obtain rfl : j = j' := by omega
    rw [hj] at hc; cases hc
  | some c =>
    cases ho : c.on with
    | false =>
      refine hno (.inr (.inr ⟨c, by rw [Int.toNat_natCast]; exact hj, ho⟩)) fun j' c' hj' hc ho' => ?_
      obtain rfl : j = j' := by omega
      rw [hj] at hc; cases hc
      rw [ho] at ho'; cases ho'
    | true =>
      have hcl := hg.cl c (List.mem_of_getElem? hj)
      have hlm := h.lits c (List.mem_of_getElem? hj)
      refine (eClause H hj ho (fun x hx => by rw [one_ok]; exact (hcl.1 x hx).1) (by omega) (by omega)).mono ?_
      rintro v w' ⟨a, kc, out, rfl, hco, hln, H⟩
      exact ⟨a, kc, out, true, rfl, fun _ => ⟨j, c, rfl, hj, ho, hco.mem⟩, fun h => (by cases h), fun y hy => (hcl.1 y ((hco.mem y).1 hy)).1, by omega, H⟩

theorem lAnyU (H : Sep w0 w (engR eb s :: l)) (h : Tut s n C k m) (hk : k ≤ 1000000) (id : Int) :
    Does Try.prog 10 #[.pointer (some ⟨eb, 0, none⟩), .int .i64 id] w fun v w' => ∃ qa qk Q back e, v = .tuple #[.slice qa (Q : List Int).length qk, .int .i64 back, .int .i64 e] ∧
      ((Q = [] ∧ back = 0 ∧ e = 61 ∧ ∀ (j : Nat) c, id = j → s.C[j]? = some c → c.on = true → noLearn s c.lits) ∨
        (e = 0 ∧ ∃ (j : Nat) (c : Cls), id = j ∧ s.C[j]? = some c ∧ c.on = true ∧ ∃ top x R, Q = x :: R ∧ (∀ y ∈ c.lits, tru s.E (-y)) ∧ Learnt s c.lits top x R back)) ∧
      Sep w0 w' (ownR qa Q.length qk 27 1 (Q.map lV) :: engR eb s :: l) := by
  refine (lAny H h hk id).mono ?_
  rintro v w' (⟨hno, rfl, H⟩ | ⟨j, c, h1, h2, h3, top, x, R, back, a, kk, hf, rfl, hL, H⟩)
  · exact ⟨none, 0, [], 0, 61, rfl, .inl ⟨rfl, rfl, rfl, hno⟩, Own.nilR H 27 1⟩
  · exact ⟨a, kk, x :: R, back, 0, rfl, .inr ⟨rfl, j, c, h1, h2, h3, top, x, R, rfl, hf, hL⟩, H⟩

variable {a xa : Option Addr} {c cx : Nat} {R0 : List Fl} {X : List Int} {z iq : Int}
theorem uRefuses (hs : FSrc W a C R0) (hsm : ∀ x ∈ R0, x.2.2.length ≤ 35184372087808) (hcap : C.length ≤ c) (hCl : C.length ≤ 9223372036854775807) (hx : Src W xa X.length 1 (X.map lV)) (hX : X.length ≤ 9223372036854775807) :
    Does Try.prog 4 #[.agg #[.int .i64 z, .slice a C.length c], .slice xa X.length cx, .int .i64 iq] W fun v w' => v = .bool true ∧ Sep W w' [] := by
  refine Does_intro tok (Try.call4 _ _) Try.func4 rfl (by rfl) ?_
  have H := Sep.nil W
  (repeat first | refine goN ?_ | ((try conv => whnf); first | (refine Ar_gate ?_; first | (fail_if_success skip) | refine xA ?_) | (refine Eqv_in ?_)) | ((try conv => whnf); (first | (refine St_gate ?_; refine xS ?_) | (refine StN_gate ?_; refine xN ?_)); clear H; intro w H))
  (refine Nw_sep H ?_; clear H; intro fb w H; (try simp only [Value.cells, List.toList_toArray, List.append_nil, List.cons_append, List.nil_append] at H))
  (repeat first | refine goN ?_ | ((try conv => whnf); first | (refine Ar_gate ?_; first | (fail_if_success skip) | refine xA ?_) | (refine Eqv_in ?_)) | ((try conv => whnf); (first | (refine St_gate ?_; refine xS ?_) | (refine StN_gate ?_; refine xN ?_)); clear H; intro w H))
  refine Call_of (qAlive w) ?_
  rintro _ w' ⟨rfl, HH⟩
  replace H := H.add HH
  clear HH
  (repeat first | refine goN ?_ | ((try conv => whnf); first | (refine Ar_gate ?_; first | (fail_if_success skip) | refine xA ?_) | (refine Eqv_in ?_)) | ((try conv => whnf); (first | (refine St_gate ?_; refine xS ?_) | (refine StN_gate ?_; refine xN ?_)); clear H; intro w H))
  refine Call_of (qFresh H hs hcap hsm hCl) ?_
  clear H
  rintro _ w (⟨rfl, H⟩ | ⟨k, pb, eb, s, sa, sc, R, rfl, rfl, hk, hfr, H⟩)
  · (repeat first | refine goN ?_ | ((try conv => whnf); first | (refine Ar_gate ?_; first | (fail_if_success skip) | refine xA ?_) | (refine Eqv_in ?_)) | ((try conv => whnf); (first | (refine St_gate ?_; refine xS ?_) | (refine StN_gate ?_; refine xN ?_)); clear H; intro w H))
    exact Ret_in ⟨rfl, H.all⟩
  by_cases hX40 : 40 < X.length
  · unfold stuL at H
    (repeat first | refine goN ?_ | ((try conv => whnf); first | (refine Ar_gate ?_; first | (fail_if_success skip) | refine xA ?_) | (refine Eqv_in ?_)) | ((try conv => whnf); (first | (refine St_gate ?_; refine xS ?_) | (refine StN_gate ?_; refine xN ?_)); clear H; intro w H))
    exact Ret_in ⟨rfl, H.all⟩
  have hRf := hfr.few
  unfold stuL at H
  (repeat first | refine goN ?_ | ((try conv => whnf); first | (refine Ar_gate ?_; first | (fail_if_success skip) | refine xA ?_) | (refine Eqv_in ?_)) | ((try conv => whnf); (first | (refine St_gate ?_; refine xS ?_) | (refine StN_gate ?_; refine xN ?_)); clear H; intro w H))
  refine Call_of (tHit H hfr.tut hk (by decide) (by decide)) ?_
  clear H
  rintro _ w ⟨s1, id1, rfl, h1, x1, hit1, H⟩
  (repeat first | refine goN ?_ | ((try conv => whnf); first | (refine Ar_gate ?_; first | (fail_if_success skip) | refine xA ?_) | (refine Eqv_in ?_)) | ((try conv => whnf); (first | (refine St_gate ?_; refine xS ?_) | (refine StN_gate ?_; refine xN ?_)); clear H; intro w H))
  refine Loop_intro (fun q : Nat × St × Int => [(44, .int .i64 (q.1 : Int)), (8, .int .i64 q.2.2)]) (fun q w => (q.1 ≤ X.length ∧ Tut q.2.1 k (clsL R) 80 (80 + 2800 * (q.1 + 1)) ∧ Hit q.2.1 q.2.2) ∧ Sep W w (engR eb q.2.1 :: stuL pb eb sa sc R [cellsR fb 34 [.int .i64 (k : Int), .slice a C.length c]])) (fun q => X.length - q.1)
    (0, s1, id1) ⟨rfl, rfl, trivial⟩ ⟨⟨Nat.zero_le _, h1, hit1⟩, H⟩ ?_
  clear H h1 x1 hit1 hfr
  rintro ⟨i, s, id⟩ w ⟨⟨hi, h, hit⟩, H⟩
  simp only [] at hi h hit H ⊢
  unfold stuL at H
  refine Br_dec (fun k1 => ?_) (fun k1 => ?_)
  · have hlt : i < X.length := by omega
    have hsrc : Src w xa X.length 1 (X.map lV) := H.rd hx
    obtain ⟨yb, yo, rfl⟩ := hsrc.addr (by rw [List.length_map]; omega)
    have hyi : X[i]? = some X[i] := List.getElem?_eq_getElem hlt
    generalize X[i] = y at *
    refine Ix_in i rfl hlt ?_
    refine Ld_src (j := i) hsrc (v := lV y) (by rw [List.getElem?_map, hyi]; rfl) ?_
    clear hsrc
    (repeat first | refine goN ?_ | ((try conv => whnf); first | (refine Ar_gate ?_; first | (fail_if_success skip) | refine xA ?_) | (refine Eqv_in ?_)) | ((try conv => whnf); (first | (refine St_gate ?_; refine xS ?_) | (refine StN_gate ?_; refine xN ?_)); clear H; intro w H))
    rcases hit with ⟨rfl, hF, hh⟩ | hit
    · (repeat first | refine goN ?_ | ((try conv => whnf); first | (refine Ar_gate ?_; first | (fail_if_success skip) | refine xA ?_) | (refine Eqv_in ?_)) | ((try conv => whnf); (first | (refine St_gate ?_; refine xS ?_) | (refine StN_gate ?_; refine xN ?_)); clear H; intro w H))
      refine Call_of (tDecide H h hh (x := y)) ?_
      clear H
      rintro _ w (⟨rfl, h2, H⟩ | ⟨⟨z, rfl, hz, hz1, hz2⟩, H⟩)
      · (repeat first | refine goN ?_ | ((try conv => whnf); first | (refine Ar_gate ?_; first | (fail_if_success skip) | refine xA ?_) | (refine Eqv_in ?_)) | ((try conv => whnf); (first | (refine St_gate ?_; refine xS ?_) | (refine StN_gate ?_; refine xN ?_)); clear H; intro w H))
        refine Call_of (tHit H h2 hk (by decide) (by omega)) ?_
        clear H
        rintro _ w ⟨s2, id2, rfl, h3, x2, hit2, H⟩
        (repeat first | refine goN ?_ | ((try conv => whnf); first | (refine Ar_gate ?_; first | (fail_if_success skip) | refine xA ?_) | (refine Eqv_in ?_)) | ((try conv => whnf); (first | (refine St_gate ?_; refine xS ?_) | (refine StN_gate ?_; refine xN ?_)); clear H; intro w H))
        exact ⟨(i + 1, s2, id2), ⟨congrArg some (vint (by simp)), rfl, trivial⟩, ⟨⟨by omega, h3.mono (Nat.le_refl _) (by simp only []; omega), hit2⟩, H⟩, by simp; omega⟩
      · (repeat first | refine goN ?_ | ((try conv => whnf); first | (refine Ar_gate ?_; first | (fail_if_success skip) | refine xA ?_) | (refine Eqv_in ?_)) | ((try conv => whnf); (first | (refine St_gate ?_; refine xS ?_) | (refine StN_gate ?_; refine xN ?_)); clear H; intro w H))
        exact ⟨(i + 1, s, -1), ⟨congrArg some (vint (by simp)), rfl, trivial⟩, ⟨⟨by omega, h.mono (Nat.le_refl _) (by simp only []; omega), .inl ⟨rfl, hF, hh⟩⟩, H⟩, by simp; omega⟩
    · obtain ⟨j, cj, rfl, hj⟩ := hit
      (repeat first | refine goN ?_ | ((try conv => whnf); first | (refine Ar_gate ?_; first | (fail_if_success skip) | refine xA ?_) | (refine Eqv_in ?_)) | ((try conv => whnf); (first | (refine St_gate ?_; refine xS ?_) | (refine StN_gate ?_; refine xN ?_)); clear H; intro w H))
      exact ⟨(i + 1, s, (j : Int)), ⟨congrArg some (vint (by simp)), rfl, trivial⟩, ⟨⟨by omega, h.mono (Nat.le_refl _) (by simp only []; omega), .inr ⟨j, cj, rfl, hj⟩⟩, H⟩, by simp; omega⟩
  have hX40' : i ≤ 40 := by omega
  replace h := h.mono (Nat.le_refl _) (m' := 200000) (by omega)
  clear hX40' k1 hi

  have hg := h.good
  have hCf := h.few
  have hvn := h.vars
  have hdl := hg.deepLe
  have hfc := h.fit
  clear hit
  (repeat first | refine goN ?_ | ((try conv => whnf); first | (refine Ar_gate ?_; first | (fail_if_success skip) | refine xA ?_) | (refine Eqv_in ?_)) | ((try conv => whnf); (first | (refine St_gate ?_; refine xS ?_) | (refine StN_gate ?_; refine xN ?_)); clear H; intro w H))
  refine Call_of (eTrue2 H (by omega)) ?_
  clear H
  rintro _ w ⟨ta, tc, rfl, H⟩
  replace H := H.tp 1
  (repeat first | refine goN ?_ | ((try conv => whnf); first | (refine Ar_gate ?_; first | (fail_if_success skip) | refine xA ?_) | (refine Eqv_in ?_)) | ((try conv => whnf); (first | (refine St_gate ?_; refine xS ?_) | (refine StN_gate ?_; refine xN ?_)); clear H; intro w H))
  refine Call_of (eAny H h (by omega) iq) ?_
  clear H
  rintro _ w ⟨ca, cc, out, b, rfl, hb1, hb0, hok, hol, H⟩
  replace H := H.tp 1
  (repeat first | refine goN ?_ | ((try conv => whnf); first | (refine Ar_gate ?_; first | (fail_if_success skip) | refine xA ?_) | (refine Eqv_in ?_)) | ((try conv => whnf); (first | (refine St_gate ?_; refine xS ?_) | (refine StN_gate ?_; refine xN ?_)); clear H; intro w H))
  refine Loop_intro (fun q : Nat × Bool × Int => [(83, .int .i64 (q.1 : Int)), (14, .bool q.2.1), (15, .int .i64 q.2.2)]) (fun q w => (q.1 ≤ out.length ∧ (q.2.1 = true ↔ b = false ∨ ∃ y ∈ out.take q.1, ¬ tru s.E (-y)) ∧ TopI s.E (out.take q.1) q.2.2 ∧ q.2.2 ≤ 1000000) ∧
      Sep W w (engR eb s :: ownR ca out.length cc 27 1 (out.map lV) :: ownR ta (litL s).length tc 27 1 ((litL s).map lV) :: stuL pb eb sa sc R [cellsR fb 34 [.int .i64 (k : Int), .slice a C.length c]])) (fun q => out.length - q.1)
    (0, !b, 0) ⟨rfl, rfl, rfl, trivial⟩ ⟨⟨Nat.zero_le _, by simp, TopI.nil, by show (0 : Int) ≤ 1000000; decide⟩, H⟩ ?_
  clear H
  rintro ⟨i, fl, top⟩ w ⟨⟨hi, hfl, ht, htm⟩, H⟩
  simp only [] at hi hfl ht htm H ⊢
  unfold stuL at H
  refine Br_dec (fun k1 => ?_) (fun k1 => ?_)
  · have hlt : i < out.length := by omega
    have hsrc := H.srcM (a := ca) (n := out.length) (cap := cc) (el := 27) (sz := 1) (xs := out.map lV) mm
    obtain ⟨yb, yo, rfl⟩ := hsrc.addr (by rw [List.length_map]; omega)
    have hyi : out[i]? = some out[i] := List.getElem?_eq_getElem hlt
    have hym := List.getElem_mem hlt
    have hnx : out.take (i + 1) = out.take i ++ [out[i]] := by rw [List.take_add_one, hyi]; rfl
    generalize out[i] = y at *
    have hyo := hok y hym
    have hnext := ht.next (y := y)
    have hlv := hg.lv_small (Trail.var y)
    rw [← hnx] at hnext
    have ht0 := ht.b0
    have hvn2 : (Trail.value s.E y != -1) = true ↔ ¬ tru s.E (-y) := by
      rw [← hg.valn hyo]; simp
    have hk2 : (fl || (Trail.value s.E y != -1)) = true ↔ b = false ∨ ∃ y ∈ out.take (i + 1), ¬ tru s.E (-y) := by
      rw [Bool.or_eq_true, hfl, hvn2, hnx]
      constructor
      · rintro ((h | ⟨z, hz, h⟩) | h)
        · exact .inl h
        · exact .inr ⟨z, List.mem_append_left _ hz, h⟩
        · exact .inr ⟨y, by simp, h⟩
      · rintro (h | ⟨z, hz, h⟩)
        · exact .inl (.inl h)
        · rw [List.mem_append, List.mem_singleton] at hz
          rcases hz with hz | rfl
          · exact .inl (.inr ⟨z, hz, h⟩)
          · exact .inr h
    refine Ix_in i rfl hlt ?_
    refine Ld_src (j := i) hsrc (v := lV y) (by rw [List.getElem?_map, hyi]; rfl) ?_
    clear hsrc
    (repeat first | refine goN ?_ | ((try conv => whnf); first | (refine Ar_gate ?_; first | (fail_if_success skip) | refine xA ?_) | (refine Eqv_in ?_)) | ((try conv => whnf); (first | (refine St_gate ?_; refine xS ?_) | (refine StN_gate ?_; refine xN ?_)); clear H; intro w H))
    cases fl with
    | true =>
      (repeat first | refine goN ?_ | ((try conv => whnf); first | (refine Ar_gate ?_; first | (fail_if_success skip) | refine xA ?_) | (refine Eqv_in ?_)) | ((try conv => whnf); (first | (refine St_gate ?_; refine xS ?_) | (refine StN_gate ?_; refine xN ?_)); clear H; intro w H))
      refine Draw_intro mixed [0, 1, 2, 3, 4, 5, 6, 7, 8, 9, 10, 11, 12] (by decide +kernel) (fun w _ fd => ?_); replace H := H.fr fd; clear fd
      obtain ⟨r, hr, H⟩ := engOpen H
      (repeat first | refine goN ?_ | ((try conv => whnf); first | (refine Ar_gate ?_; first | (fail_if_success skip) | refine xA ?_) | (refine Eqv_in ?_)) | ((try conv => whnf); (first | (refine St_gate ?_; refine xS ?_) | (refine StN_gate ?_; refine xN ?_)); clear H; intro w H))
      refine Call_of (rVar (x := y) _) ?_
      rintro _ _ ⟨rfl, rfl⟩
      rw [var_var]
      (try conv => whnf)
      (repeat (refine Kept_gate ?_; refine xK ?_))
      (try conv => whnf)
      refine Call_of (sTrailLevel H mm) ?_
      clear H
      rintro _ w ⟨rfl, H⟩
      rw [show (knownOf s.E (Trail.var y : Int)).2.1 = lvE s.E (Trail.var y) from rfl]
      (try conv => whnf)
      (repeat (refine Kept_gate ?_; refine xK ?_))
      replace H := engClose hr H
      (repeat first | refine goN ?_ | ((try conv => whnf); first | (refine Ar_gate ?_; first | (fail_if_success skip) | refine xA ?_) | (refine Eqv_in ?_)) | ((try conv => whnf); (first | (refine St_gate ?_; refine xS ?_) | (refine StN_gate ?_; refine xN ?_)); clear H; intro w H))
      exact ⟨(i + 1, true, _), ⟨congrArg some (vint (by simp)), rfl, rfl, trivial⟩, ⟨⟨by omega, hk2, hnext, by simp only []; omega⟩, H⟩, by simp; omega⟩
    | false =>
      (repeat first | refine goN ?_ | ((try conv => whnf); first | (refine Ar_gate ?_; first | (fail_if_success skip) | refine xA ?_) | (refine Eqv_in ?_)) | ((try conv => whnf); (first | (refine St_gate ?_; refine xS ?_) | (refine StN_gate ?_; refine xN ?_)); clear H; intro w H))
      obtain ⟨r, hr, H⟩ := engOpen H
      (repeat first | refine goN ?_ | ((try conv => whnf); first | (refine Ar_gate ?_; first | (fail_if_success skip) | refine xA ?_) | (refine Eqv_in ?_)) | ((try conv => whnf); (first | (refine St_gate ?_; refine xS ?_) | (refine StN_gate ?_; refine xN ?_)); clear H; intro w H))
      refine Call_of (sTrailValue H mm) ?_
      rintro _ _ ⟨rfl, rfl⟩
      replace H := engClose hr H
      (repeat first | refine goN ?_ | ((try conv => whnf); first | (refine Ar_gate ?_; first | (fail_if_success skip) | refine xA ?_) | (refine Eqv_in ?_)) | ((try conv => whnf); (first | (refine St_gate ?_; refine xS ?_) | (refine StN_gate ?_; refine xN ?_)); clear H; intro w H))
      refine Draw_intro mixed [0, 1, 2, 3, 4, 5, 6, 7, 8, 9, 10, 11, 12] (by decide +kernel) (fun w _ fd => ?_); replace H := H.fr fd; clear fd
      obtain ⟨r, hr, H⟩ := engOpen H
      (repeat first | refine goN ?_ | ((try conv => whnf); first | (refine Ar_gate ?_; first | (fail_if_success skip) | refine xA ?_) | (refine Eqv_in ?_)) | ((try conv => whnf); (first | (refine St_gate ?_; refine xS ?_) | (refine StN_gate ?_; refine xN ?_)); clear H; intro w H))
      refine Call_of (rVar (x := y) _) ?_
      rintro _ _ ⟨rfl, rfl⟩
      rw [var_var]
      (try conv => whnf)
      (repeat (refine Kept_gate ?_; refine xK ?_))
      (try conv => whnf)
      refine Call_of (sTrailLevel H mm) ?_
      clear H
      rintro _ w ⟨rfl, H⟩
      rw [show (knownOf s.E (Trail.var y : Int)).2.1 = lvE s.E (Trail.var y) from rfl]
      (try conv => whnf)
      (repeat (refine Kept_gate ?_; refine xK ?_))
      replace H := engClose hr H
      (repeat first | refine goN ?_ | ((try conv => whnf); first | (refine Ar_gate ?_; first | (fail_if_success skip) | refine xA ?_) | (refine Eqv_in ?_)) | ((try conv => whnf); (first | (refine St_gate ?_; refine xS ?_) | (refine StN_gate ?_; refine xN ?_)); clear H; intro w H))
      exact ⟨(i + 1, _, _), ⟨congrArg some (vint (by simp)), rfl, rfl, trivial⟩, ⟨⟨by omega, hk2, hnext, by simp only []; omega⟩, H⟩, by simp; omega⟩
  obtain rfl : i = out.length := by omega
  rw [List.take_length] at hfl ht
  clear hi k1
  (repeat first | refine goN ?_ | ((try conv => whnf); first | (refine Ar_gate ?_; first | (fail_if_success skip) | refine xA ?_) | (refine Eqv_in ?_)) | ((try conv => whnf); (first | (refine St_gate ?_; refine xS ?_) | (refine StN_gate ?_; refine xN ?_)); clear H; intro w H))
  refine Call_of (lAnyU H h (by omega) iq) ?_
  clear H
  rintro _ w ⟨qa, qk, Q, back, e, rfl, hres, H⟩
  replace H := H.tp 1
  (repeat first | refine goN ?_ | ((try conv => whnf); first | (refine Ar_gate ?_; first | (fail_if_success skip) | refine xA ?_) | (refine Eqv_in ?_)) | ((try conv => whnf); (first | (refine St_gate ?_; refine xS ?_) | (refine StN_gate ?_; refine xN ?_)); clear H; intro w H))
  (refine Nw_sep H ?_; clear H; intro lb w H; (try simp only [Value.cells, List.toList_toArray, List.append_nil, List.cons_append, List.nil_append] at H))
  (repeat first | refine goN ?_ | ((try conv => whnf); first | (refine Ar_gate ?_; first | (fail_if_success skip) | refine xA ?_) | (refine Eqv_in ?_)) | ((try conv => whnf); (first | (refine St_gate ?_; refine xS ?_) | (refine StN_gate ?_; refine xN ?_)); clear H; intro w H))
  replace H : Vc.Sep W w (cellsR lb 53 (fl40 (lvs4 s.E (out.take 0))) :: _) := H
  replace H := H.tp 1
  refine Loop_intro (fun q : Nat => [(126, .int .i64 (q : Int)), (22, .int .i64 (lvs4 s.E (out.take q)).length)]) (fun q w => q ≤ out.length ∧
      Sep W w (engR eb s :: cellsR lb 53 (fl40 (lvs4 s.E (out.take q))) :: ownR qa Q.length qk 27 1 (Q.map lV) :: ownR ca out.length cc 27 1 (out.map lV) :: ownR ta (litL s).length tc 27 1 ((litL s).map lV) :: stuL pb eb sa sc R [cellsR fb 34 [.int .i64 (k : Int), .slice a C.length c]])) (fun q => out.length - q)
    0 ⟨rfl, rfl, trivial⟩ ⟨Nat.zero_le _, H⟩ ?_
  clear H
  rintro i w ⟨hi, H⟩
  simp only [] at hi H ⊢
  unfold stuL at H
  refine Br_dec (fun k1 => ?_) (fun k1 => ?_)
  · have hlt : i < out.length := by omega
    have hsrc := H.srcM (a := ca) (n := out.length) (cap := cc) (el := 27) (sz := 1) (xs := out.map lV) mm
    obtain ⟨yb, yo, rfl⟩ := hsrc.addr (by rw [List.length_map]; omega)
    have hyi : out[i]? = some out[i] := List.getElem?_eq_getElem hlt
    have hnx := lvs4_next (E := s.E) hyi
    generalize out[i] = y at *
    have hll := lvs4_len (E := s.E) hi
    have hlv := hg.lv_small (Trail.var y)
    refine Ix_in i rfl hlt ?_
    refine Ld_src (j := i) hsrc (v := lV y) (by rw [List.getElem?_map, hyi]; rfl) ?_
    clear hsrc
    (repeat first | refine goN ?_ | ((try conv => whnf); first | (refine Ar_gate ?_; first | (fail_if_success skip) | refine xA ?_) | (refine Eqv_in ?_)) | ((try conv => whnf); (first | (refine St_gate ?_; refine xS ?_) | (refine StN_gate ?_; refine xN ?_)); clear H; intro w H))
    refine Draw_intro mixed [0, 1, 2, 3, 4, 5, 6, 7, 8, 9, 10] (by decide +kernel) (fun w _ fd => ?_); replace H := H.fr fd; clear fd
    obtain ⟨r, hr, H⟩ := engOpen H
    (repeat first | refine goN ?_ | ((try conv => whnf); first | (refine Ar_gate ?_; first | (fail_if_success skip) | refine xA ?_) | (refine Eqv_in ?_)) | ((try conv => whnf); (first | (refine St_gate ?_; refine xS ?_) | (refine StN_gate ?_; refine xN ?_)); clear H; intro w H))
    refine Call_of (rVar (x := y) _) ?_
    rintro _ _ ⟨rfl, rfl⟩
    rw [var_var]
    (try conv => whnf)
    (repeat (refine Kept_gate ?_; refine xK ?_))
    (try conv => whnf)
    refine Call_of (sTrailLevel H mm) ?_
    clear H
    rintro _ w ⟨rfl, H⟩
    rw [show (knownOf s.E (Trail.var y : Int)).2.1 = lvE s.E (Trail.var y) from rfl]
    (try conv => whnf)
    (repeat (refine Kept_gate ?_; refine xK ?_))
    replace H := engClose hr H
    generalize lvs4 s.E (out.take i) = acc at *
    unfold lvStep4 at hnx
    generalize lvE s.E (Trail.var y) = lv at *
    by_cases h0 : 0 ≤ lv ∧ lv < 40
    · obtain ⟨j, rfl⟩ : ∃ j : Nat, lv = j := ⟨lv.toNat, by omega⟩
      have hj : j < 40 := by omega
      (repeat first | refine goN ?_ | ((try conv => whnf); first | (refine Ar_gate ?_; first | (fail_if_success skip) | refine xA ?_) | (refine Eqv_in ?_)) | ((try conv => whnf); (first | (refine St_gate ?_; refine xS ?_) | (refine StN_gate ?_; refine xN ?_)); clear H; intro w H))
      refine Ix_in j rfl hj ?_
      (repeat first | refine goN ?_ | ((try conv => whnf); first | (refine Ar_gate ?_; first | (fail_if_success skip) | refine xA ?_) | (refine Eqv_in ?_)) | ((try conv => whnf); (first | (refine St_gate ?_; refine xS ?_) | (refine StN_gate ?_; refine xN ?_)); clear H; intro w H))
      refine Ld_eq (a' := ⟨lb, j, none⟩) ?_ ?_
      · rw [Nat.zero_add]
      refine Ld_m H mm (fl40_get hj) ?_
      (repeat first | refine goN ?_ | ((try conv => whnf); first | (refine Ar_gate ?_; first | (fail_if_success skip) | refine xA ?_) | (refine Eqv_in ?_)) | ((try conv => whnf); (first | (refine St_gate ?_; refine xS ?_) | (refine StN_gate ?_; refine xN ?_)); clear H; intro w H))
      by_cases hin : (j : Int) ∈ acc
      · rw [if_neg (fun h => h.2 hin)] at hnx
        rw [decide_eq_true hin]
        (repeat first | refine goN ?_ | ((try conv => whnf); first | (refine Ar_gate ?_; first | (fail_if_success skip) | refine xA ?_) | (refine Eqv_in ?_)) | ((try conv => whnf); (first | (refine St_gate ?_; refine xS ?_) | (refine StN_gate ?_; refine xN ?_)); clear H; intro w H))
        exact ⟨i + 1, ⟨congrArg some (vint (by simp)), congrArg some (vint (by rw [hnx])), trivial⟩, ⟨by omega, by rw [hnx]; exact H⟩, by omega⟩
      · rw [if_pos ⟨h0, hin⟩] at hnx
        rw [decide_eq_false hin]
        (repeat first | refine goN ?_ | ((try conv => whnf); first | (refine Ar_gate ?_; first | (fail_if_success skip) | refine xA ?_) | (refine Eqv_in ?_)) | ((try conv => whnf); (first | (refine St_gate ?_; refine xS ?_) | (refine StN_gate ?_; refine xN ?_)); clear H; intro w H))
        refine Ix_in j rfl hj ?_
        (try conv => whnf)
        refine St_eq (a' := ⟨lb, j, none⟩) ?_ ?_
        · rw [Nat.zero_add]
        refine St_u H (Upd.tail .head) rfl (by rw [fl40_len]; omega) (fl40_set hj) ?_
        clear H; intro w H
        (repeat first | refine goN ?_ | ((try conv => whnf); first | (refine Ar_gate ?_; first | (fail_if_success skip) | refine xA ?_) | (refine Eqv_in ?_)) | ((try conv => whnf); (first | (refine St_gate ?_; refine xS ?_) | (refine StN_gate ?_; refine xN ?_)); clear H; intro w H))
        exact ⟨i + 1, ⟨congrArg some (vint (by simp)), congrArg some (vint (by rw [hnx, List.length_append]; simp)), trivial⟩, ⟨by omega, by rw [hnx]; exact H⟩, by omega⟩
    · rw [if_neg (fun h => h0 h.1)] at hnx
      by_cases h00 : 0 ≤ lv
      · exfalso; omega
      · (repeat first | refine goN ?_ | ((try conv => whnf); first | (refine Ar_gate ?_; first | (fail_if_success skip) | refine xA ?_) | (refine Eqv_in ?_)) | ((try conv => whnf); (first | (refine St_gate ?_; refine xS ?_) | (refine StN_gate ?_; refine xN ?_)); clear H; intro w H))
        exact ⟨i + 1, ⟨congrArg some (vint (by simp)), congrArg some (vint (by rw [hnx])), trivial⟩, ⟨by omega, by rw [hnx]; exact H⟩, by omega⟩
  obtain rfl : i = out.length := by omega
  rw [List.take_length] at H ⊢
  clear hi k1
  (repeat first | refine goN ?_ | ((try conv => whnf); first | (refine Ar_gate ?_; first | (fail_if_success skip) | refine xA ?_) | (refine Eqv_in ?_)) | ((try conv => whnf); (first | (refine St_gate ?_; refine xS ?_) | (refine StN_gate ?_; refine xN ?_)); clear H; intro w H))
  refine Call_of (lLevels H hg (ys := out) (fun h => h.srcM (a := ca) (n := out.length) (cap := cc) (el := 27) (List.mem_append_right _ mm)) (by omega)) ?_
  clear H
  rintro _ w ⟨rfl, H⟩
  rw [lvs4_eq out fun y => by have := hg.lv_small (Trail.var y); omega]
  (repeat first | refine goN ?_ | ((try conv => whnf); first | (refine Ar_gate ?_; first | (fail_if_success skip) | refine xA ?_) | (refine Eqv_in ?_)) | ((try conv => whnf); (first | (refine St_gate ?_; refine xS ?_) | (refine StN_gate ?_; refine xN ?_)); clear H; intro w H))
  refine Call_of (eTrue2 H (by omega)) ?_
  clear H
  rintro _ w ⟨tb, td, rfl, H⟩
  (repeat first | refine goN ?_ | ((try conv => whnf); first | (refine Ar_gate ?_; first | (fail_if_success skip) | refine xA ?_) | (refine Eqv_in ?_)) | ((try conv => whnf); (first | (refine St_gate ?_; refine xS ?_) | (refine StN_gate ?_; refine xN ?_)); clear H; intro w H))
  refine Call_of (sameH H (H.srcM (a := tb) (n := (litL s).length) (cap := td) (el := 27) mm) (H.srcM (a := ta) (n := (litL s).length) (cap := tc) (el := 27) mm) (by rw [litL_len]; omega)) ?_
  clear H
  rintro _ w ⟨rfl, H⟩
  rw [decide_eq_true (rfl : litL s = litL s)]
  (repeat first | refine goN ?_ | ((try conv => whnf); first | (refine Ar_gate ?_; first | (fail_if_success skip) | refine xA ?_) | (refine Eqv_in ?_)) | ((try conv => whnf); (first | (refine St_gate ?_; refine xS ?_) | (refine StN_gate ?_; refine xN ?_)); clear H; intro w H))
  rcases hres with ⟨rfl, rfl, rfl, hno⟩ | ⟨rfl, j, cj, hj, hcj, hcon, top2, x, Q', rfl, hft, hL⟩
  · have hend : fl = true ∨ top = 0 := by
      cases b with
      | false => exact .inl (hfl.2 (.inl rfl))
      | true =>
        obtain ⟨j, cj, h1, h2, h3, h4⟩ := hb1 rfl
        rcases hno j cj h1 h2 h3 with ⟨y, h5, h6⟩ | h5
        · exact .inl (hfl.2 (.inr ⟨y, (h4 y).2 h5, h6⟩))
        · rcases ht.at' with h6 | ⟨y, h6, h7⟩
          · exact .inr h6
          · have h8 := h5 y ((h4 y).1 h6)
            have h9 := ht.b0
            exact .inr (by omega)
    rcases hend with rfl | rfl
    · (repeat first | refine goN ?_ | ((try conv => whnf); first | (refine Ar_gate ?_; first | (fail_if_success skip) | refine xA ?_) | (refine Eqv_in ?_)) | ((try conv => whnf); (first | (refine St_gate ?_; refine xS ?_) | (refine StN_gate ?_; refine xN ?_)); clear H; intro w H))
      exact Ret_in ⟨rfl, H.all⟩
    · cases fl with
      | true =>
        (repeat first | refine goN ?_ | ((try conv => whnf); first | (refine Ar_gate ?_; first | (fail_if_success skip) | refine xA ?_) | (refine Eqv_in ?_)) | ((try conv => whnf); (first | (refine St_gate ?_; refine xS ?_) | (refine StN_gate ?_; refine xN ?_)); clear H; intro w H))
        exact Ret_in ⟨rfl, H.all⟩
      | false =>
        (repeat first | refine goN ?_ | ((try conv => whnf); first | (refine Ar_gate ?_; first | (fail_if_success skip) | refine xA ?_) | (refine Eqv_in ?_)) | ((try conv => whnf); (first | (refine St_gate ?_; refine xS ?_) | (refine StN_gate ?_; refine xN ?_)); clear H; intro w H))
        exact Ret_in ⟨rfl, H.all⟩
  · have hbt : b = true := by
      cases b with
      | true => rfl
      | false => exact ((hb0 rfl).2 j cj hj hcj hcon).elim
    subst hbt
    obtain ⟨j', cj', h1, h2, h3, h4⟩ := hb1 rfl
    obtain rfl : j = j' := by omega
    rw [hcj] at h2; cases h2
    obtain rfl : fl = false := by
      rw [← Bool.not_eq_true, hfl]
      rintro (h | ⟨y, hy, h⟩)
      · cases h
      · exact h (hft y ((h4 y).1 hy))
    obtain rfl := hL.c_eq h4 ht
    have htp := hL.ok.pos
    have hlen := hL.few hg
    have hfit := hL.fit hg
    (repeat first | refine goN ?_ | ((try conv => whnf); first | (refine Ar_gate ?_; first | (fail_if_success skip) | refine xA ?_) | (refine Eqv_in ?_)) | ((try conv => whnf); (first | (refine St_gate ?_; refine xS ?_) | (refine StN_gate ?_; refine xN ?_)); clear H; intro w H))
    refine Draw_intro mixed [0, 1, 2, 3, 4, 5, 6, 7, 8, 9, 11, 12, 13, 14, 15, 10, 16, 17, 18] (by decide +kernel) (fun w _ fd => ?_); replace H := H.fr fd; clear fd
    (repeat first | refine goN ?_ | ((try conv => whnf); first | (refine Ar_gate ?_; first | (fail_if_success skip) | refine xA ?_) | (refine Eqv_in ?_)) | ((try conv => whnf); (first | (refine St_gate ?_; refine xS ?_) | (refine StN_gate ?_; refine xN ?_)); clear H; intro w H))
    replace H := H.tail
    obtain ⟨r, hr, H⟩ := engOpen H
    (repeat first | refine goN ?_ | ((try conv => whnf); first | (refine Ar_gate ?_; first | (fail_if_success skip) | refine xA ?_) | (refine Eqv_in ?_)) | ((try conv => whnf); (first | (refine St_gate ?_; refine xS ?_) | (refine StN_gate ?_; refine xN ?_)); clear H; intro w H))
    refine Call_of (sTrailVars H mm) ?_
    rintro _ _ ⟨rfl, rfl⟩
    replace H := engClose hr H
    rw [hvn] at hfit ⊢
    (try conv => whnf)
    (repeat (refine Kept_gate ?_; refine xK ?_))
    (repeat first | refine goN ?_ | ((try conv => whnf); first | (refine Ar_gate ?_; first | (fail_if_success skip) | refine xA ?_) | (refine Eqv_in ?_)) | ((try conv => whnf); (first | (refine St_gate ?_; refine xS ?_) | (refine StN_gate ?_; refine xN ?_)); clear H; intro w H))
    refine Call_of (qFollows (c := x :: Q') (R := R) (sa := sa) (sc := sc) H mm mm (by omega) (by omega) hfc (fun h => h.srcM (a := qa) (n := (x :: Q').length) (cap := qk) (el := 27) (List.mem_append_right _ mm)) (by omega) hfit (hL.wise hg)) ?_
    clear H
    rintro _ w ⟨bb, rfl, hb, H⟩
    obtain rfl : bb = true := hb.2 ((h.conf_iff (fun y => by unfold Watch.Neg; simp)).1 hL.conf)
    (try conv => whnf)
    (repeat (refine Kept_gate ?_; refine xK ?_))
    (repeat first | refine goN ?_ | ((try conv => whnf); first | (refine Ar_gate ?_; first | (fail_if_success skip) | refine xA ?_) | (refine Eqv_in ?_)) | ((try conv => whnf); (first | (refine St_gate ?_; refine xS ?_) | (refine StN_gate ?_; refine xN ?_)); clear H; intro w H))
    exact Ret_in ⟨rfl, H.all⟩
end
end Go.Proofs.Ytajllmlgihbdhaa
