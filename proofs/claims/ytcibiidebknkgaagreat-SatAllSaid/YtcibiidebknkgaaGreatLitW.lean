/- The small functions of literals; the library's searches. -/
import Derived.Test.YtcibiidebknkgaaGreatLitM
namespace Go.Proofs.YtcibiidebknkgaaGreat
open Go Go.Vc Go.Lit
set_option linter.unusedVariables false
set_option linter.unusedSimpArgs false
set_option maxHeartbeats 4000000
set_option maxRecDepth 100000


abbrev lV (x : Int) : Value := .int .i32 x
theorem lits_one {xs : List Int} : ∀ u ∈ xs.map lV, oneCell u = true := by
  intro u hu
  obtain ⟨x, _, rfl⟩ := List.mem_map.1 hu
  rfl
theorem lits_get {xs : List Int} {i : Nat} (h : i < xs.length) : (xs.map lV)[i]? = some (lV (xs.getD i 0)) := by
  rw [List.getElem?_map, List.getD_eq_getElem?_getD, List.getElem?_eq_getElem h]; rfl

theorem Ar_div2 {p : Int} {K : Int → Prop} (h1 : -9223372036854775808 ≤ p) (h2 : p ≤ 9223372036854775807) (hk : ∀ v, (v = p.tdiv 2) → K v) : Ar .i64 (p.tdiv 2) K := by
  refine Ar_is _ ?_ (hk _ rfl)
  have : -9223372036854775808 ≤ p.tdiv 2 ∧ p.tdiv 2 ≤ 9223372036854775807 := by
    rcases Int.le_total 0 p with h | h
    · rw [Int.tdiv_eq_ediv_of_nonneg h]; omega
    · obtain ⟨q, rfl⟩ : ∃ q, p = -q := ⟨-p, by omega⟩
      rw [Int.neg_tdiv, Int.tdiv_eq_ediv_of_nonneg (by omega)]; omega
  exact wrap_i64 this.1 this.2
theorem Eqv_mod2 {p : Int} {K : Int → Prop} (hk : ∀ v, v = p.tmod 2 → K v) : Eqv (p.tmod 2) K := ⟨hk _ rfl⟩

section
variable {w0 w : World} {l : List Res}

theorem fOne {x : Int} (w : World) : Does Tryz.prog 69 #[lV x] w fun v w' => v = .bool (one x) ∧ w = w' := by
  refine Does_intro tok (Tryz.call69 _ _) Tryz.func69 rfl (by rfl) ?_
  by_cases h0 : x = 0
  · (repeat first | refine goN ?_ | ((try conv => whnf); first | (refine Ar_gate ?_; first | (with_reducible refine Ar_div2 (by omega) (by omega) ?_) | refine xA ?_) | (first | with_reducible refine Eqv_mod2 ?_ | refine Eqv_in ?_)) | ((try conv => whnf); (first | (refine St_gate ?_; refine xS ?_) | (refine StN_gate ?_; refine xN ?_)); clear H; intro w H))
    exact Ret_in ⟨vbool (one_not.2 (.inl h0)).symm, rfl⟩
  by_cases h1 : x < -262144
  · (repeat first | refine goN ?_ | ((try conv => whnf); first | (refine Ar_gate ?_; first | (with_reducible refine Ar_div2 (by omega) (by omega) ?_) | refine xA ?_) | (first | with_reducible refine Eqv_mod2 ?_ | refine Eqv_in ?_)) | ((try conv => whnf); (first | (refine St_gate ?_; refine xS ?_) | (refine StN_gate ?_; refine xN ?_)); clear H; intro w H))
    exact Ret_in ⟨vbool (one_not.2 (.inr (.inl h1))).symm, rfl⟩
  by_cases h2 : 262144 < x
  · (repeat first | refine goN ?_ | ((try conv => whnf); first | (refine Ar_gate ?_; first | (with_reducible refine Ar_div2 (by omega) (by omega) ?_) | refine xA ?_) | (first | with_reducible refine Eqv_mod2 ?_ | refine Eqv_in ?_)) | ((try conv => whnf); (first | (refine St_gate ?_; refine xS ?_) | (refine StN_gate ?_; refine xN ?_)); clear H; intro w H))
    exact Ret_in ⟨vbool (by rw [one_not.2 (.inr (.inr h2)), decide_eq_false (by omega)]), rfl⟩
  · (repeat first | refine goN ?_ | ((try conv => whnf); first | (refine Ar_gate ?_; first | (with_reducible refine Ar_div2 (by omega) (by omega) ?_) | refine xA ?_) | (first | with_reducible refine Eqv_mod2 ?_ | refine Eqv_in ?_)) | ((try conv => whnf); (first | (refine St_gate ?_; refine xS ?_) | (refine StN_gate ?_; refine xN ?_)); clear H; intro w H))
    exact Ret_in ⟨vbool (by rw [one_iff.2 ⟨h0, by omega, by omega⟩, decide_eq_true (by omega)]), rfl⟩

theorem fVar {x : Int} (w : World) : Does Tryz.prog 42 #[lV x] w fun v w' => v = .int .i64 (var x) ∧ w = w' := by
  refine Does_intro tok (Tryz.call42 _ _) Tryz.func42 rfl (by rfl) ?_
  (repeat first | refine goN ?_ | ((try conv => whnf); first | (refine Ar_gate ?_; first | (with_reducible refine Ar_div2 (by omega) (by omega) ?_) | refine xA ?_) | (first | with_reducible refine Eqv_mod2 ?_ | refine Eqv_in ?_)) | ((try conv => whnf); (first | (refine St_gate ?_; refine xS ?_) | (refine StN_gate ?_; refine xN ?_)); clear H; intro w H))
  refine Call_of (fOne w) ?_
  rintro _ _ ⟨rfl, rfl⟩
  unfold var
  cases h : one x with
  | false =>
    (repeat first | refine goN ?_ | ((try conv => whnf); first | (refine Ar_gate ?_; first | (with_reducible refine Ar_div2 (by omega) (by omega) ?_) | refine xA ?_) | (first | with_reducible refine Eqv_mod2 ?_ | refine Eqv_in ?_)) | ((try conv => whnf); (first | (refine St_gate ?_; refine xS ?_) | (refine StN_gate ?_; refine xN ?_)); clear H; intro w H))
    exact Ret_in ⟨rfl, rfl⟩
  | true =>
    have := one_iff.1 h
    by_cases h0 : x < 0
    · (repeat first | refine goN ?_ | ((try conv => whnf); first | (refine Ar_gate ?_; first | (with_reducible refine Ar_div2 (by omega) (by omega) ?_) | refine xA ?_) | (first | with_reducible refine Eqv_mod2 ?_ | refine Eqv_in ?_)) | ((try conv => whnf); (first | (refine St_gate ?_; refine xS ?_) | (refine StN_gate ?_; refine xN ?_)); clear H; intro w H))
      exact Ret_in ⟨vint (by simp only [h0, if_true]; omega), rfl⟩
    · (repeat first | refine goN ?_ | ((try conv => whnf); first | (refine Ar_gate ?_; first | (with_reducible refine Ar_div2 (by omega) (by omega) ?_) | refine xA ?_) | (first | with_reducible refine Eqv_mod2 ?_ | refine Eqv_in ?_)) | ((try conv => whnf); (first | (refine St_gate ?_; refine xS ?_) | (refine StN_gate ?_; refine xN ?_)); clear H; intro w H))
      exact Ret_in ⟨vint (by simp only [h0, if_true, if_false]), rfl⟩

theorem fPlace {x : Int} (w : World) : Does Tryz.prog 44 #[lV x] w fun v w' => v = .int .i64 (place x) ∧ w = w' := by
  refine Does_intro tok (Tryz.call44 _ _) Tryz.func44 rfl (by rfl) ?_
  (repeat first | refine goN ?_ | ((try conv => whnf); first | (refine Ar_gate ?_; first | (with_reducible refine Ar_div2 (by omega) (by omega) ?_) | refine xA ?_) | (first | with_reducible refine Eqv_mod2 ?_ | refine Eqv_in ?_)) | ((try conv => whnf); (first | (refine St_gate ?_; refine xS ?_) | (refine StN_gate ?_; refine xN ?_)); clear H; intro w H))
  refine Call_of (fVar w) ?_
  rintro _ _ ⟨rfl, rfl⟩
  have hv : 0 ≤ var x ∧ var x ≤ 262144 := by
    unfold var
    cases h : one x with
    | false => simp
    | true => have := one_iff.1 h; simp only [if_true]; split <;> omega
  unfold place
  generalize var x = v at *
  by_cases h0 : x < 0
  · by_cases h1 : 0 < 2 * v
    · rw [if_pos ⟨h0, h1⟩]
      (repeat first | refine goN ?_ | ((try conv => whnf); first | (refine Ar_gate ?_; first | (with_reducible refine Ar_div2 (by omega) (by omega) ?_) | refine xA ?_) | (first | with_reducible refine Eqv_mod2 ?_ | refine Eqv_in ?_)) | ((try conv => whnf); (first | (refine St_gate ?_; refine xS ?_) | (refine StN_gate ?_; refine xN ?_)); clear H; intro w H))
      exact Ret_in ⟨rfl, rfl⟩
    · rw [if_neg (fun h => h1 h.2)]
      (repeat first | refine goN ?_ | ((try conv => whnf); first | (refine Ar_gate ?_; first | (with_reducible refine Ar_div2 (by omega) (by omega) ?_) | refine xA ?_) | (first | with_reducible refine Eqv_mod2 ?_ | refine Eqv_in ?_)) | ((try conv => whnf); (first | (refine St_gate ?_; refine xS ?_) | (refine StN_gate ?_; refine xN ?_)); clear H; intro w H))
      exact Ret_in ⟨vint (by omega), rfl⟩
  · rw [if_neg (fun h => h0 h.1)]
    (repeat first | refine goN ?_ | ((try conv => whnf); first | (refine Ar_gate ?_; first | (with_reducible refine Ar_div2 (by omega) (by omega) ?_) | refine xA ?_) | (first | with_reducible refine Eqv_mod2 ?_ | refine Eqv_in ?_)) | ((try conv => whnf); (first | (refine St_gate ?_; refine xS ?_) | (refine StN_gate ?_; refine xN ?_)); clear H; intro w H))
    exact Ret_in ⟨vint (by omega), rfl⟩



theorem fIsNaN {x : Int} (w : World) : Does Tryz.prog 126 #[.int .i64 x] w fun v w' => v = .bool false ∧ w = w' := by
  refine Does_intro tok (Tryz.call126 _ _) Tryz.func126 rfl (by rfl) ?_
  (repeat first | refine goN ?_ | ((try conv => whnf); first | (refine Ar_gate ?_; first | (with_reducible refine Ar_div2 (by omega) (by omega) ?_) | refine xA ?_) | (first | with_reducible refine Eqv_mod2 ?_ | refine Eqv_in ?_)) | ((try conv => whnf); (first | (refine St_gate ?_; refine xS ?_) | (refine StN_gate ?_; refine xN ?_)); clear H; intro w H))
  exact Ret_in ⟨vbool (by simp), rfl⟩

def cmpI (x y : Int) : Int := if x < y then -1 else if y < x then 1 else 0
theorem fCompare {x y : Int} (w : World) : Does Tryz.prog 95 #[.int .i64 x, .int .i64 y] w fun v w' => v = .int .i64 (cmpI x y) ∧ w = w' := by
  refine Does_intro tok (Tryz.call95 _ _) Tryz.func95 rfl (by rfl) ?_
  (repeat first | refine goN ?_ | ((try conv => whnf); first | (refine Ar_gate ?_; first | (with_reducible refine Ar_div2 (by omega) (by omega) ?_) | refine xA ?_) | (first | with_reducible refine Eqv_mod2 ?_ | refine Eqv_in ?_)) | ((try conv => whnf); (first | (refine St_gate ?_; refine xS ?_) | (refine StN_gate ?_; refine xN ?_)); clear H; intro w H))
  refine Call_of (fIsNaN w) ?_
  rintro _ _ ⟨rfl, rfl⟩
  (repeat first | refine goN ?_ | ((try conv => whnf); first | (refine Ar_gate ?_; first | (with_reducible refine Ar_div2 (by omega) (by omega) ?_) | refine xA ?_) | (first | with_reducible refine Eqv_mod2 ?_ | refine Eqv_in ?_)) | ((try conv => whnf); (first | (refine St_gate ?_; refine xS ?_) | (refine StN_gate ?_; refine xN ?_)); clear H; intro w H))
  refine Call_of (fIsNaN w) ?_
  rintro _ _ ⟨rfl, rfl⟩
  unfold cmpI
  by_cases h : x < y
  · rw [if_pos h]
    (repeat first | refine goN ?_ | ((try conv => whnf); first | (refine Ar_gate ?_; first | (with_reducible refine Ar_div2 (by omega) (by omega) ?_) | refine xA ?_) | (first | with_reducible refine Eqv_mod2 ?_ | refine Eqv_in ?_)) | ((try conv => whnf); (first | (refine St_gate ?_; refine xS ?_) | (refine StN_gate ?_; refine xN ?_)); clear H; intro w H))
    exact Ret_in ⟨rfl, rfl⟩
  · rw [if_neg h]
    by_cases h2 : y < x
    · rw [if_pos h2]
      (repeat first | refine goN ?_ | ((try conv => whnf); first | (refine Ar_gate ?_; first | (with_reducible refine Ar_div2 (by omega) (by omega) ?_) | refine xA ?_) | (first | with_reducible refine Eqv_mod2 ?_ | refine Eqv_in ?_)) | ((try conv => whnf); (first | (refine St_gate ?_; refine xS ?_) | (refine StN_gate ?_; refine xN ?_)); clear H; intro w H))
      exact Ret_in ⟨rfl, rfl⟩
    · rw [if_neg h2]
      (repeat first | refine goN ?_ | ((try conv => whnf); first | (refine Ar_gate ?_; first | (with_reducible refine Ar_div2 (by omega) (by omega) ?_) | refine xA ?_) | (first | with_reducible refine Eqv_mod2 ?_ | refine Eqv_in ?_)) | ((try conv => whnf); (first | (refine St_gate ?_; refine xS ?_) | (refine StN_gate ?_; refine xN ?_)); clear H; intro w H))
      exact Ret_in ⟨rfl, rfl⟩

theorem fOrder {x y : Int} (w : World) : Does Tryz.prog 66 #[lV x, lV y] w fun v w' => v = .int .i64 (cmpI (place x) (place y)) ∧ w = w' := by
  refine Does_intro tok (Tryz.call66 _ _) Tryz.func66 rfl (by rfl) ?_
  (repeat first | refine goN ?_ | ((try conv => whnf); first | (refine Ar_gate ?_; first | (with_reducible refine Ar_div2 (by omega) (by omega) ?_) | refine xA ?_) | (first | with_reducible refine Eqv_mod2 ?_ | refine Eqv_in ?_)) | ((try conv => whnf); (first | (refine St_gate ?_; refine xS ?_) | (refine StN_gate ?_; refine xN ?_)); clear H; intro w H))
  refine Call_of (fPlace w) ?_
  rintro _ _ ⟨rfl, rfl⟩
  (repeat first | refine goN ?_ | ((try conv => whnf); first | (refine Ar_gate ?_; first | (with_reducible refine Ar_div2 (by omega) (by omega) ?_) | refine xA ?_) | (first | with_reducible refine Eqv_mod2 ?_ | refine Eqv_in ?_)) | ((try conv => whnf); (first | (refine St_gate ?_; refine xS ?_) | (refine StN_gate ?_; refine xN ?_)); clear H; intro w H))
  refine Call_of (fPlace w) ?_
  rintro _ _ ⟨rfl, rfl⟩
  (repeat first | refine goN ?_ | ((try conv => whnf); first | (refine Ar_gate ?_; first | (with_reducible refine Ar_div2 (by omega) (by omega) ?_) | refine xA ?_) | (first | with_reducible refine Eqv_mod2 ?_ | refine Eqv_in ?_)) | ((try conv => whnf); (first | (refine St_gate ?_; refine xS ?_) | (refine StN_gate ?_; refine xN ?_)); clear H; intro w H))
  refine Call_of (fCompare w) ?_
  rintro _ _ ⟨rfl, rfl⟩
  (repeat first | refine goN ?_ | ((try conv => whnf); first | (refine Ar_gate ?_; first | (with_reducible refine Ar_div2 (by omega) (by omega) ?_) | refine xA ?_) | (first | with_reducible refine Eqv_mod2 ?_ | refine Eqv_in ?_)) | ((try conv => whnf); (first | (refine St_gate ?_; refine xS ?_) | (refine StN_gate ?_; refine xN ?_)); clear H; intro w H))
  exact Ret_in ⟨rfl, rfl⟩

theorem litIndex {xs : List Int} {a : Option Addr} {c : Nat} {w : World} (hs : Src w a xs.length 1 (xs.map lV)) {k : FuncId}  {p : Int → Bool} (hm : xs.length ≤ maxLen)
    (hf : ∀ x ∈ xs, Does Tryz.prog k #[lV x] w fun v w' => v = .bool (p x) ∧ w = w') :
    Does Tryz.prog 68 #[.slice a xs.length c, .func (.func k) #[] #[]] w fun v w' => v = .int .i64 (match xs.findIdx? p with | some i => (i : Int) | none => -1) ∧ w = w' := by
  refine Does_intro tok (Tryz.call68 _ _) Tryz.func68 rfl (by rfl) ?_
  refine Loop_intro (fun i : Nat => [(8, .int .i64 (i : Int))]) (fun i w' => w = w' ∧ i ≤ xs.length ∧ ∀ j x, j < i → xs[j]? = some x → p x = false) (fun i => xs.length - i) 0 ⟨rfl, trivial⟩ ⟨rfl, Nat.zero_le _, fun j x h => by omega⟩ ?_
  rintro i _ ⟨rfl, hi, hno⟩
  simp only [] at hi hno ⊢
  unfold maxLen at hm
  refine Br_dec (fun k1 => ?_) (fun k1 => ?_)
  · have hlt : i < xs.length := by omega
    obtain ⟨b, o, rfl⟩ := hs.addr (by rw [List.length_map]; omega)
    refine Ix_in i rfl hlt ?_
    have hx : xs[i]? = some xs[i] := List.getElem?_eq_getElem hlt
    refine Ld_src (j := i) hs (v := lV xs[i]) (by rw [List.getElem?_map, hx]; rfl) ?_
    (repeat first | refine goN ?_ | ((try conv => whnf); first | (refine Ar_gate ?_; first | (with_reducible refine Ar_div2 (by omega) (by omega) ?_) | refine xA ?_) | (first | with_reducible refine Eqv_mod2 ?_ | refine Eqv_in ?_)) | ((try conv => whnf); (first | (refine St_gate ?_; refine xS ?_) | (refine StN_gate ?_; refine xN ?_)); clear H; intro w H))
    refine Call_of (hf xs[i] (List.getElem_mem hlt)) ?_
    rintro _ _ ⟨rfl, rfl⟩
    refine Br_if (fun hp => ?_) (fun hp => ?_)
    · refine Ret_in ⟨vint ?_, rfl⟩
      have : xs.findIdx? p = some i := by
        rw [List.findIdx?_eq_some_iff_getElem]
        exact ⟨hlt, hp, fun j hj => by rw [hno j xs[j] hj (List.getElem?_eq_getElem (by omega))]; exact Bool.false_ne_true⟩
      rw [this]
    · (repeat first | refine goN ?_ | ((try conv => whnf); first | (refine Ar_gate ?_; first | (with_reducible refine Ar_div2 (by omega) (by omega) ?_) | refine xA ?_) | (first | with_reducible refine Eqv_mod2 ?_ | refine Eqv_in ?_)) | ((try conv => whnf); (first | (refine St_gate ?_; refine xS ?_) | (refine StN_gate ?_; refine xN ?_)); clear H; intro w H))
      refine ⟨i + 1, ⟨congrArg some (vint (by omega)), trivial⟩, ⟨rfl, by omega, fun j x hj hjx => ?_⟩, by omega⟩
      rcases Nat.lt_or_ge j i with h | h
      · exact hno j x h hjx
      · obtain rfl : j = i := by omega
        rw [hx] at hjx; cases hjx; simpa using hp
  · refine Ret_in ⟨vint ?_, rfl⟩
    have : xs.findIdx? p = none := by
      rw [List.findIdx?_eq_none_iff]
      intro x hx
      obtain ⟨j, hj⟩ := List.getElem?_of_mem hx
      exact hno j x (by have := (List.getElem?_eq_some_iff.1 hj).1; omega) hj
    rw [this]

theorem litContains {xs : List Int} {a : Option Addr} {c : Nat} {w : World} (hs : Src w a xs.length 1 (xs.map lV)) {k : FuncId}  {p : Int → Bool} (hm : xs.length ≤ maxLen)
    (hf : ∀ x ∈ xs, Does Tryz.prog k #[lV x] w fun v w' => v = .bool (p x) ∧ w = w') :
    Does Tryz.prog 40 #[.slice a xs.length c, .func (.func k) #[] #[]] w fun v w' => v = .bool (xs.any p) ∧ w = w' := by
  refine Does_intro tok (Tryz.call40 _ _) Tryz.func40 rfl (by rfl) ?_
  (repeat first | refine goN ?_ | ((try conv => whnf); first | (refine Ar_gate ?_; first | (with_reducible refine Ar_div2 (by omega) (by omega) ?_) | refine xA ?_) | (first | with_reducible refine Eqv_mod2 ?_ | refine Eqv_in ?_)) | ((try conv => whnf); (first | (refine St_gate ?_; refine xS ?_) | (refine StN_gate ?_; refine xN ?_)); clear H; intro w H))
  refine Call_of (litIndex hs hm hf) ?_
  rintro _ _ ⟨rfl, rfl⟩
  (repeat first | refine goN ?_ | ((try conv => whnf); first | (refine Ar_gate ?_; first | (with_reducible refine Ar_div2 (by omega) (by omega) ?_) | refine xA ?_) | (first | with_reducible refine Eqv_mod2 ?_ | refine Eqv_in ?_)) | ((try conv => whnf); (first | (refine St_gate ?_; refine xS ?_) | (refine StN_gate ?_; refine xN ?_)); clear H; intro w H))
  refine Ret_in ⟨vbool ?_, rfl⟩
  cases h : xs.findIdx? p with
  | none =>
    rw [List.findIdx?_eq_none_iff] at h
    have : xs.any p = false := by rw [List.any_eq_false]; intro x hx; rw [h x hx]; exact Bool.false_ne_true
    rw [this]; rfl
  | some i =>
    obtain ⟨hlt, h1, _⟩ := List.findIdx?_eq_some_iff_getElem.1 h
    have : xs.any p = true := List.any_eq_true.2 ⟨xs[i], List.getElem_mem hlt, h1⟩
    rw [this]
    exact decide_eq_true (show (i : Int) ≥ 0 by omega)

theorem litCIndex {xs : List Int} {a : Option Addr} {c : Nat} {w : World} (hs : Src w a xs.length 1 (xs.map lV)) {k : FuncId} {cap : Value} {p : Int → Bool} (hm : xs.length ≤ maxLen)
    (hf : ∀ x ∈ xs, Does Tryz.prog k #[lV x, cap] w fun v w' => v = .bool (p x) ∧ w = w') :
    Does Tryz.prog 68 #[.slice a xs.length c, .func (.func k) #[] #[cap]] w fun v w' => v = .int .i64 (match xs.findIdx? p with | some i => (i : Int) | none => -1) ∧ w = w' := by
  refine Does_intro tok (Tryz.call68 _ _) Tryz.func68 rfl (by rfl) ?_
  refine Loop_intro (fun i : Nat => [(8, .int .i64 (i : Int))]) (fun i w' => w = w' ∧ i ≤ xs.length ∧ ∀ j x, j < i → xs[j]? = some x → p x = false) (fun i => xs.length - i) 0 ⟨rfl, trivial⟩ ⟨rfl, Nat.zero_le _, fun j x h => by omega⟩ ?_
  rintro i _ ⟨rfl, hi, hno⟩
  simp only [] at hi hno ⊢
  unfold maxLen at hm
  refine Br_dec (fun k1 => ?_) (fun k1 => ?_)
  · have hlt : i < xs.length := by omega
    obtain ⟨b, o, rfl⟩ := hs.addr (by rw [List.length_map]; omega)
    refine Ix_in i rfl hlt ?_
    have hx : xs[i]? = some xs[i] := List.getElem?_eq_getElem hlt
    refine Ld_src (j := i) hs (v := lV xs[i]) (by rw [List.getElem?_map, hx]; rfl) ?_
    (repeat first | refine goN ?_ | ((try conv => whnf); first | (refine Ar_gate ?_; first | (with_reducible refine Ar_div2 (by omega) (by omega) ?_) | refine xA ?_) | (first | with_reducible refine Eqv_mod2 ?_ | refine Eqv_in ?_)) | ((try conv => whnf); (first | (refine St_gate ?_; refine xS ?_) | (refine StN_gate ?_; refine xN ?_)); clear H; intro w H))
    refine Call_of (hf xs[i] (List.getElem_mem hlt)) ?_
    rintro _ _ ⟨rfl, rfl⟩
    refine Br_if (fun hp => ?_) (fun hp => ?_)
    · refine Ret_in ⟨vint ?_, rfl⟩
      have : xs.findIdx? p = some i := by
        rw [List.findIdx?_eq_some_iff_getElem]
        exact ⟨hlt, hp, fun j hj => by rw [hno j xs[j] hj (List.getElem?_eq_getElem (by omega))]; exact Bool.false_ne_true⟩
      rw [this]
    · (repeat first | refine goN ?_ | ((try conv => whnf); first | (refine Ar_gate ?_; first | (with_reducible refine Ar_div2 (by omega) (by omega) ?_) | refine xA ?_) | (first | with_reducible refine Eqv_mod2 ?_ | refine Eqv_in ?_)) | ((try conv => whnf); (first | (refine St_gate ?_; refine xS ?_) | (refine StN_gate ?_; refine xN ?_)); clear H; intro w H))
      refine ⟨i + 1, ⟨congrArg some (vint (by omega)), trivial⟩, ⟨rfl, by omega, fun j x hj hjx => ?_⟩, by omega⟩
      rcases Nat.lt_or_ge j i with h | h
      · exact hno j x h hjx
      · obtain rfl : j = i := by omega
        rw [hx] at hjx; cases hjx; simpa using hp
  · refine Ret_in ⟨vint ?_, rfl⟩
    have : xs.findIdx? p = none := by
      rw [List.findIdx?_eq_none_iff]
      intro x hx
      obtain ⟨j, hj⟩ := List.getElem?_of_mem hx
      exact hno j x (by have := (List.getElem?_eq_some_iff.1 hj).1; omega) hj
    rw [this]

theorem litCContains {xs : List Int} {a : Option Addr} {c : Nat} {w : World} (hs : Src w a xs.length 1 (xs.map lV)) {k : FuncId} {cap : Value} {p : Int → Bool} (hm : xs.length ≤ maxLen)
    (hf : ∀ x ∈ xs, Does Tryz.prog k #[lV x, cap] w fun v w' => v = .bool (p x) ∧ w = w') :
    Does Tryz.prog 40 #[.slice a xs.length c, .func (.func k) #[] #[cap]] w fun v w' => v = .bool (xs.any p) ∧ w = w' := by
  refine Does_intro tok (Tryz.call40 _ _) Tryz.func40 rfl (by rfl) ?_
  (repeat first | refine goN ?_ | ((try conv => whnf); first | (refine Ar_gate ?_; first | (with_reducible refine Ar_div2 (by omega) (by omega) ?_) | refine xA ?_) | (first | with_reducible refine Eqv_mod2 ?_ | refine Eqv_in ?_)) | ((try conv => whnf); (first | (refine St_gate ?_; refine xS ?_) | (refine StN_gate ?_; refine xN ?_)); clear H; intro w H))
  refine Call_of (litCIndex hs hm hf) ?_
  rintro _ _ ⟨rfl, rfl⟩
  (repeat first | refine goN ?_ | ((try conv => whnf); first | (refine Ar_gate ?_; first | (with_reducible refine Ar_div2 (by omega) (by omega) ?_) | refine xA ?_) | (first | with_reducible refine Eqv_mod2 ?_ | refine Eqv_in ?_)) | ((try conv => whnf); (first | (refine St_gate ?_; refine xS ?_) | (refine StN_gate ?_; refine xN ?_)); clear H; intro w H))
  refine Ret_in ⟨vbool ?_, rfl⟩
  cases h : xs.findIdx? p with
  | none =>
    rw [List.findIdx?_eq_none_iff] at h
    have : xs.any p = false := by rw [List.any_eq_false]; intro x hx; rw [h x hx]; exact Bool.false_ne_true
    rw [this]; rfl
  | some i =>
    obtain ⟨hlt, h1, _⟩ := List.findIdx?_eq_some_iff_getElem.1 h
    have : xs.any p = true := List.any_eq_true.2 ⟨xs[i], List.getElem_mem hlt, h1⟩
    rw [this]
    exact decide_eq_true (show (i : Int) ≥ 0 by omega)

theorem cloneL {w0 w : World} {l : List Res} (H : Sep w0 w l) {a : Option Addr} {m c : Nat} {ys : List Value} (h : Src w a m 1 ys) (h1 : ∀ u ∈ ys, oneCell u = true) (hm : m ≤ 35184372087808) : Does Tryz.prog 32 #[.slice a m c] w fun v w' =>
    ∃ a' c', v = .slice a' m c' ∧ Sep w0 w' (ownR a' m c' 29 1 ys :: l) := by
  refine Does_intro tok (Tryz.call32 _ _) Tryz.func32 rfl (by rfl) ?_
  refine Do_slice_eq_nil tok rfl ?_
  cases a with
  | none =>
    refine Br_true ?_
    have hm0 : m = 0 := by
      have hl := h.1
      cases m with
      | zero => rfl
      | succ m =>
        have hlt : 0 < ys.length := by omega
        obtain ⟨p, hp, _⟩ := h.2 0 _ (List.getElem?_eq_getElem hlt)
        cases hp
    subst hm0
    have : ys = [] := List.length_eq_zero_iff.1 (by have := h.1; omega)
    subst this
    exact Ret_in ⟨none, 0, rfl, Own.nilR H _ _⟩
  | some p =>
    refine Br_false ?_
    have H0 := Sep.nil w
    refine Nw_sep H0 (cs := []) fun b1 w1 H1 => ?_
    have hs1 := H1.rd h
    replace H := H.add H1
    refine DoN_gate ?_
    refine append_new tok H rfl rfl rfl rfl rfl (by decide) (.head _) hs1 h1 (by omega) (by unfold maxLen; omega) ?_
    intro a' c' w' H2
    (repeat first | refine goN ?_ | ((try conv => whnf); first | (refine Ar_gate ?_; first | (with_reducible refine Ar_div2 (by omega) (by omega) ?_) | refine xA ?_) | (first | with_reducible refine Eqv_mod2 ?_ | refine Eqv_in ?_)) | ((try conv => whnf); (first | (refine St_gate ?_; refine xS ?_) | (refine StN_gate ?_; refine xN ?_)); clear H; intro w H))
    exact Ret_in ⟨a', c', rfl, H2 _ .head⟩


theorem fRight1 {x : Int} (w : World) : Does Tryz.prog 71 #[lV x] w fun v w' => v = .bool (!one x) ∧ w = w' := by
  refine Does_intro tok (Tryz.call71 _ _) Tryz.func71 rfl (by rfl) ?_
  (repeat first | refine goN ?_ | ((try conv => whnf); first | (refine Ar_gate ?_; first | (with_reducible refine Ar_div2 (by omega) (by omega) ?_) | refine xA ?_) | (first | with_reducible refine Eqv_mod2 ?_ | refine Eqv_in ?_)) | ((try conv => whnf); (first | (refine St_gate ?_; refine xS ?_) | (refine StN_gate ?_; refine xN ?_)); clear H; intro w H))
  refine Call_of (fOne w) ?_
  rintro _ _ ⟨rfl, rfl⟩
  (repeat first | refine goN ?_ | ((try conv => whnf); first | (refine Ar_gate ?_; first | (with_reducible refine Ar_div2 (by omega) (by omega) ?_) | refine xA ?_) | (first | with_reducible refine Eqv_mod2 ?_ | refine Eqv_in ?_)) | ((try conv => whnf); (first | (refine St_gate ?_; refine xS ?_) | (refine StN_gate ?_; refine xN ?_)); clear H; intro w H))
  exact Ret_in ⟨rfl, rfl⟩

theorem fRight {xs : List Int} {a : Option Addr} {c : Nat} {w : World} (hs : Src w a xs.length 1 (xs.map lV)) (hm : xs.length ≤ maxLen) : Does Tryz.prog 46 #[.slice a xs.length c] w fun v w' => v = .bool (xs.all one) ∧ w = w' := by
  refine Does_intro tok (Tryz.call46 _ _) Tryz.func46 rfl (by rfl) ?_
  (repeat first | refine goN ?_ | ((try conv => whnf); first | (refine Ar_gate ?_; first | (with_reducible refine Ar_div2 (by omega) (by omega) ?_) | refine xA ?_) | (first | with_reducible refine Eqv_mod2 ?_ | refine Eqv_in ?_)) | ((try conv => whnf); (first | (refine St_gate ?_; refine xS ?_) | (refine StN_gate ?_; refine xN ?_)); clear H; intro w H))
  refine Call_of (litContains (p := fun x => !one x) hs hm fun x _ => fRight1 w) ?_
  rintro _ _ ⟨rfl, rfl⟩
  (repeat first | refine goN ?_ | ((try conv => whnf); first | (refine Ar_gate ?_; first | (with_reducible refine Ar_div2 (by omega) (by omega) ?_) | refine xA ?_) | (first | with_reducible refine Eqv_mod2 ?_ | refine Eqv_in ?_)) | ((try conv => whnf); (first | (refine St_gate ?_; refine xS ?_) | (refine StN_gate ?_; refine xN ?_)); clear H; intro w H))
  exact Ret_in ⟨vbool (by rw [List.not_any_eq_all_not]; simp), rfl⟩
end
end Go.Proofs.YtcibiidebknkgaaGreat
