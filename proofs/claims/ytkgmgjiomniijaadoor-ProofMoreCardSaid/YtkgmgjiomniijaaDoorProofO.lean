/- A bench for a formula; a log's steps. -/
import Derived.Test.YtkgmgjiomniijaaDoorProofZ
set_option linter.unusedVariables false
set_option linter.unusedSimpArgs false
namespace Go.Watch
/-- Can a bench be? -/
def openZ (z : Int) (C : List (List Int)) (L : List (List Int)) (goal : List Int) : Bool := (rightZ z C && decide (z < 262144)) && (L.all (fitZ z) && fitZ z goal)
end Go.Watch
namespace Go.Proofs.YtkgmgjiomniijaaDoor
open Go Go.Vc Go.Watch Go.Lit
open Go.Trail (Ent value find upto okLit litsV)
set_option maxHeartbeats 4000000
set_option maxRecDepth 100000
abbrev Stp := Bool × Fl
def stepV (x : Stp) : List Value := [.bool x.1, flV x.2]
theorem stepV_len (x : Stp) : (stepV x).length = 2 := rfl
def logL (G : List Stp) : List (List Int) := G.map fun x => x.2.2.2
structure LSrc (w : World) (a : Option Addr) (G : List Stp) : Prop where
  rows : Src w a G.length 2 (G.flatMap stepV)
  each : ∀ x ∈ G, Src w x.2.1 x.2.2.2.length 1 (x.2.2.2.map lV)
section
variable {w0 w : World} {l : List Res} {pb eb mb n m fb : Nat} {s : St} {A : List (List Int × Bool)} {fr z : Int} {v2 : Value} {G : List Stp} {la : Option Addr} {lc : Nat}

/-- A log is gone through, step by step, whatever that changes. -/
theorem stepSeek (I : Nat → World → Prop) (Q : Nat → World → Prop) (hI : I 0 w) (hs : ∀ i w', I i w' → Src w' la G.length 2 (G.flatMap stepV)) {k : FuncId} {cap : Value} (hm : G.length ≤ 9223372036854775807)
    (hf : ∀ i x w', G[i]? = some x → I i w' → Does Tryd.prog k #[.agg #[.bool x.1, flV x.2], cap] w' fun v w'' => (v = .bool false ∧ I (i + 1) w'') ∨ (v = .bool true ∧ Q i w'')) :
    Does Tryd.prog 19 #[.slice la G.length lc, .func (.func k) #[] #[cap]] w fun v w' => (v = .int .i64 (-1) ∧ I G.length w') ∨ ∃ i : Nat, i < G.length ∧ v = .int .i64 (i : Int) ∧ Q i w' := by
  refine Does_intro tok (Tryd.call19 _ _) Tryd.func19 rfl (by rfl) ?_
  refine Loop_intro (fun i : Nat => [(8, .int .i64 (i : Int))]) (fun i w' => i ≤ G.length ∧ I i w') (fun i => G.length - i) 0 ⟨rfl, trivial⟩ ⟨Nat.zero_le _, hI⟩ ?_
  clear hI
  rintro i w ⟨hi, hI⟩
  refine Br_dec (fun k1 => ?_) (fun k1 => ?_)
  · have hlt : i < G.length := by omega
    have hs1 := hs i w hI
    have hx : G[i]? = some G[i] := List.getElem?_eq_getElem hlt
    generalize G[i] = x at *
    obtain ⟨b, o, rfl⟩ := hs1.addr (by rw [rowLen stepV_len]; omega)
    refine Ix_in i rfl hlt ?_
    refine LdN_src hs1 (vs := stepV x) (rowPart stepV_len hx) rfl ?_
    (repeat first | refine go ?_ | ((try conv => whnf); (first | (refine St_gate ?_; refine xS ?_) | (refine StN_gate ?_; refine xN ?_)); clear H; intro w H))
    refine Call_of (hf i x w hx hI) ?_
    clear hs1 hI
    rintro _ w (⟨rfl, hI⟩ | ⟨rfl, hQ⟩)
    · (repeat first | refine go ?_ | ((try conv => whnf); (first | (refine St_gate ?_; refine xS ?_) | (refine StN_gate ?_; refine xN ?_)); clear H; intro w H))
      exact ⟨i + 1, ⟨congrArg some (vint (by omega)), trivial⟩, ⟨by omega, hI⟩, by omega⟩
    · (repeat first | refine go ?_ | ((try conv => whnf); (first | (refine St_gate ?_; refine xS ?_) | (refine StN_gate ?_; refine xN ?_)); clear H; intro w H))
      exact Ret_in (.inr ⟨i, hlt, rfl, hQ⟩)
  · obtain rfl : i = G.length := by omega
    (repeat first | refine go ?_ | ((try conv => whnf); (first | (refine St_gate ?_; refine xS ?_) | (refine StN_gate ?_; refine xN ?_)); clear H; intro w H))
    exact Ret_in (.inl ⟨rfl, hI⟩)
theorem stepHas (I : World → Prop) (hI : I w) (hs : ∀ w', I w' → Src w' la G.length 2 (G.flatMap stepV)) {k : FuncId} {cap : Value} (hm : G.length ≤ 9223372036854775807) {p : Stp → Bool}
    (hf : ∀ x w', x ∈ G → I w' → Does Tryd.prog k #[.agg #[.bool x.1, flV x.2], cap] w' fun v w'' => v = .bool (p x) ∧ I w'') :
    Does Tryd.prog 12 #[.slice la G.length lc, .func (.func k) #[] #[cap]] w fun v w' => v = .bool (G.any p) ∧ I w' := by
  refine Does_intro tok (Tryd.call12 _ _) Tryd.func12 rfl (by rfl) ?_
  (repeat first | refine go ?_ | ((try conv => whnf); (first | (refine St_gate ?_; refine xS ?_) | (refine StN_gate ?_; refine xN ?_)); clear H; intro w H))
  refine Call_of (stepSeek (fun i w => I w ∧ ∀ (j : Nat) x, j < i → G[j]? = some x → p x = false) (fun i w => I w ∧ ∃ x, G[i]? = some x ∧ p x = true) ⟨hI, fun j x h => by omega⟩ (fun i w' h => hs w' h.1) hm fun i x w' hx h => ?_) ?_
  · refine (hf x w' (List.mem_of_getElem? hx) h.1).mono ?_
    rintro v w'' ⟨rfl, h2⟩
    cases hp : p x with
    | true => exact .inr ⟨rfl, h2, x, hx, hp⟩
    | false =>
      refine .inl ⟨rfl, h2, fun j y hj hy => ?_⟩
      rcases Nat.lt_or_ge j i with h3 | h3
      · exact h.2 j y h3 hy
      · obtain rfl : j = i := by omega
        rw [hx] at hy; cases hy; exact hp
  clear hI
  rintro _ w (⟨rfl, h1, h2⟩ | ⟨i, hi, rfl, h1, x, h2, h3⟩)
  · (repeat first | refine go ?_ | ((try conv => whnf); (first | (refine St_gate ?_; refine xS ?_) | (refine StN_gate ?_; refine xN ?_)); clear H; intro w H))
    refine Ret_in ⟨?_, h1⟩
    have : G.any p = false := List.any_eq_false.2 fun x hx => by
      obtain ⟨j, hj⟩ := List.getElem?_of_mem hx
      rw [h2 j x (List.getElem?_eq_some_iff.1 hj).1 hj]; exact Bool.false_ne_true
    rw [this]; rfl
  · (repeat first | refine go ?_ | ((try conv => whnf); (first | (refine St_gate ?_; refine xS ?_) | (refine StN_gate ?_; refine xN ?_)); clear H; intro w H))
    refine Ret_in ⟨?_, h1⟩
    have : G.any p = true := List.any_eq_true.2 ⟨x, List.mem_of_getElem? h2, h3⟩
    rw [this]
    exact vbool (decide_eq_true (by omega))

variable {C : List (List Int)} {R : List Fl} {ca : Option Addr} {cc : Nat}
theorem pOpen1 (H : Sep w0 w l) (hm : cellsR fb 24 [.int .i64 z, v2] ∈ l) {x : Stp} (hs : ∀ {w' : World} {l' : List Res}, Sep w0 w' (l' ++ l) → Src w' x.2.1 x.2.2.2.length 1 (x.2.2.2.map lV)) (hx : x.2.2.2.length ≤ maxLen) :
    Does Tryd.prog 13 #[.agg #[.bool x.1, flV x.2], .pointer (some ⟨fb, 0, none⟩)] w fun v w' => v = .bool (!fitZ z x.2.2.2) ∧ Sep w0 w' l := by
  refine Does_intro tok (Tryd.call13 _ _) Tryd.func13 rfl (by rfl) ?_
  (repeat first | refine go ?_ | ((try conv => whnf); (first | (refine St_gate ?_; refine xS ?_) | (refine StN_gate ?_; refine xN ?_)); clear H; intro w H))
  (refine Nw_sep H ?_; clear H; intro sb w H; (try simp only [Value.cells, List.toList_toArray, List.append_nil, List.cons_append, List.nil_append] at H))
  (repeat first | refine go ?_ | ((try conv => whnf); (first | (refine St_gate ?_; refine xS ?_) | (refine StN_gate ?_; refine xN ?_)); clear H; intro w H))
  refine LdN_m H (.tail _ hm) rfl ?_
  (repeat first | refine go ?_ | ((try conv => whnf); (first | (refine St_gate ?_; refine xS ?_) | (refine StN_gate ?_; refine xN ?_)); clear H; intro w H))
  refine Call_of (pFits (z := z) (v2 := v2) H (fun {w'} {l'} h => hs (l' := l' ++ [_]) (by simpa using h)) hx) ?_
  clear H
  rintro _ w ⟨rfl, H⟩
  (repeat first | refine go ?_ | ((try conv => whnf); (first | (refine St_gate ?_; refine xS ?_) | (refine StN_gate ?_; refine xN ?_)); clear H; intro w H))
  exact Ret_in ⟨rfl, H.tail⟩

theorem eLen (H : Sep w0 w (engR eb s :: l)) : Does Tryd.prog 18 #[.pointer (some ⟨eb, 0, none⟩)] w fun v w' => v = .int .i64 s.C.length ∧ w = w' := by
  refine Does_intro tok (Tryd.call18 _ _) Tryd.func18 rfl (by rfl) ?_
  obtain ⟨r, hr, H⟩ := engOpen H
  (repeat first | refine go ?_ | ((try conv => whnf); (first | (refine St_gate ?_; refine xS ?_) | (refine StN_gate ?_; refine xN ?_)); clear H; intro w H))
  exact Ret_in ⟨rfl, rfl⟩

theorem pOpen {goal : List Int} {ga : Option Addr} {gc : Nat} (H : Sep w0 w l) (hp : Pow w0) (hs : ∀ {w' : World} {l' : List Res}, Sep w0 w' (l' ++ l) → FSrc w' ca C R) (hsm : ∀ x ∈ R, x.2.2.length ≤ 35184372087808) (hC : C.length ≤ 1000)
    (hl : ∀ {w' : World} {l' : List Res}, Sep w0 w' (l' ++ l) → LSrc w' la G) (hlm : G.length ≤ 1000000) (hle : ∀ x ∈ G, x.2.2.2.length ≤ 1000000)
    (hg : ∀ {w' : World} {l' : List Res}, Sep w0 w' (l' ++ l) → Src w' ga goal.length 1 (goal.map lV)) (hgm : goal.length ≤ 1000000) :
    Does Tryd.prog 9 #[.agg #[.int .i64 z, .slice ca C.length cc], .slice la G.length lc, .slice ga goal.length gc] w fun v w' =>
      (openZ z C (logL G) goal = false ∧ v = .pointer none ∧ Sep w0 w' l) ∨
      (openZ z C (logL G) goal = true ∧ ∃ (n pb : Nat) (K : List (List Int)), z = n ∧ v = .pointer (some ⟨pb, 0, none⟩) ∧ K.length = C.length ∧ (∀ (i : Nat) c k, C[i]? = some c → K[i]? = some k → Lit.Clean c k) ∧ Sep w0 w' (benR pb n (K.map fun k => (k, true)) C.length :: l)) := by
  refine Does_intro tok (Tryd.call9 _ _) Tryd.func9 rfl (by rfl) ?_
  (repeat first | refine go ?_ | ((try conv => whnf); (first | (refine St_gate ?_; refine xS ?_) | (refine StN_gate ?_; refine xN ?_)); clear H; intro w H))
  (refine Nw_sep H ?_; clear H; intro fb w H; (try simp only [Value.cells, List.toList_toArray, List.append_nil, List.cons_append, List.nil_append] at H))
  (repeat first | refine go ?_ | ((try conv => whnf); (first | (refine St_gate ?_; refine xS ?_) | (refine StN_gate ?_; refine xN ?_)); clear H; intro w H))
  refine Call_of (stepHas (fun w => Sep w0 w (cellsR fb 24 [.int .i64 z, .slice ca C.length cc] :: l)) H (fun w' h => (hl (l' := [_]) h).rows) (by omega) (p := fun x => !fitZ z x.2.2.2) fun x w' hx h =>
    pOpen1 h (.head _) (fun {w'} {l'} h => (hl (l' := l' ++ [_]) (by simpa using h)).each x hx) (by have := hle x hx; unfold maxLen; omega)) ?_
  clear H
  rintro _ w ⟨rfl, H⟩
  have hall : (G.any fun x => !fitZ z x.2.2.2) = !((logL G).all (fitZ z)) := by
    unfold logL
    rw [List.all_map, List.not_all_eq_any_not]; rfl
  rw [hall]
  (repeat first | refine go ?_ | ((try conv => whnf); (first | (refine St_gate ?_; refine xS ?_) | (refine StN_gate ?_; refine xN ?_)); clear H; intro w H))
  refine Call_of (pRight H (fun {w'} {l'} h => hs (l' := l' ++ [_]) (by simpa using h)) hsm) ?_
  clear H
  rintro _ w ⟨rfl, H⟩
  have hno : ∀ {P : Prop}, openZ z C (logL G) goal = false → Sep w0 w (cellsR fb 24 [.int .i64 z, .slice ca C.length cc] :: l) → (openZ z C (logL G) goal = false ∧ Value.pointer none = Value.pointer none ∧ Sep w0 w l) ∨ P := fun h H => .inl ⟨h, rfl, H.tail⟩
  cases hr : rightZ z C with
  | false =>
    (repeat first | refine go ?_ | ((try conv => whnf); (first | (refine St_gate ?_; refine xS ?_) | (refine StN_gate ?_; refine xN ?_)); clear H; intro w H))
    exact Ret_in (hno (by unfold openZ; rw [hr]; rfl) H)
  | true =>
    by_cases hz : z < 262144
    case neg =>
      (repeat first | refine go ?_ | ((try conv => whnf); (first | (refine St_gate ?_; refine xS ?_) | (refine StN_gate ?_; refine xN ?_)); clear H; intro w H))
      exact Ret_in (hno (by unfold openZ; rw [hr, decide_eq_false hz]; rfl) H)
    cases ha : (logL G).all (fitZ z) with
    | false =>
      (repeat first | refine go ?_ | ((try conv => whnf); (first | (refine St_gate ?_; refine xS ?_) | (refine StN_gate ?_; refine xN ?_)); clear H; intro w H))
      exact Ret_in (hno (by unfold openZ; rw [ha, Bool.false_and, Bool.and_false]) H)
    | true =>
      (repeat first | refine go ?_ | ((try conv => whnf); (first | (refine St_gate ?_; refine xS ?_) | (refine StN_gate ?_; refine xN ?_)); clear H; intro w H))
      refine Call_of (pFits (z := z) H (fun {w'} {l'} h => hg (l' := l' ++ [_]) (by simpa using h)) (by unfold maxLen; omega)) ?_
      clear H hno
      rintro _ w ⟨rfl, H⟩
      cases hq : fitZ z goal with
      | false =>
        (repeat first | refine go ?_ | ((try conv => whnf); (first | (refine St_gate ?_; refine xS ?_) | (refine StN_gate ?_; refine xN ?_)); clear H; intro w H))
        exact Ret_in (.inl ⟨by unfold openZ; rw [hq, Bool.and_false, Bool.and_false], rfl, H.tail⟩)
      | true =>
        have hopen : openZ z C (logL G) goal = true := by unfold openZ; rw [hr, decide_eq_true hz, ha, hq]; rfl
        have hz0 : 0 ≤ z := by
          unfold rightZ at hr
          simp only [Bool.and_eq_true, decide_eq_true_eq] at hr
          exact hr.1.1.1.1
        have hCf : ∀ c ∈ C, fitZ z c = true := by
          unfold rightZ at hr
          simp only [Bool.and_eq_true] at hr
          exact List.all_eq_true.1 hr.2
        obtain ⟨n, rfl⟩ : ∃ n : Nat, z = n := ⟨z.toNat, by omega⟩
        have hnn : (max 0 (min ((n : Int) + 1) 262144)).toNat = n + 1 := by omega
        (repeat first | refine go ?_ | ((try conv => whnf); (first | (refine St_gate ?_; refine xS ?_) | (refine StN_gate ?_; refine xN ?_)); clear H; intro w H))
        refine Draw_tree mixed (Tr.row [0, 1, 2, 4, 5, 6, 7] (.alt (.step 3 (Tr.row [8, 9, 10, 11] .done)) (.step 8 (Tr.row [3, 9, 10, 11] .done)))) (by decide +kernel) (fun w _ fd => ?_); replace H := H.fr fd; clear fd
        (repeat first | refine go ?_ | ((try conv => whnf); (first | (refine St_gate ?_; refine xS ?_) | (refine StN_gate ?_; refine xN ?_)); clear H; intro w H))
        have hne : mOf [] = fun _ => none := rfl
        refine Both_in ?_ ?_
        case' refine_1 =>
          refine Call_of (eNew H ((n : Int) + 1)) ?_
          clear H
          rintro _ w ⟨eb, rfl, H⟩
          rw [hnn] at H
          (try conv => whnf)
          (repeat (refine Kept_gate ?_; refine xK ?_))
          (repeat first | refine go ?_ | ((try conv => whnf); (first | (refine St_gate ?_; refine xS ?_) | (refine StN_gate ?_; refine xN ?_)); clear H; intro w H))
          refine Nw_mapD (enc := keyV) H ?_
          clear H
          intro mb w H
          (try conv => whnf)
          (repeat (refine Kept_gate ?_; refine xK ?_))
          (repeat first | refine go ?_ | ((try conv => whnf); (first | (refine St_gate ?_; refine xS ?_) | (refine StN_gate ?_; refine xN ?_)); clear H; intro w H))
          (refine Nw_sep H ?_; clear H; intro pb w H; (try simp only [Value.cells, List.toList_toArray, List.append_nil, List.cons_append, List.nil_append] at H))
          replace H := H.tp 1
          replace H := H.tp 2
        case' refine_2 =>
          refine Nw_mapD (enc := keyV) H ?_
          clear H
          intro mb w H
          (try conv => whnf)
          (repeat (refine Kept_gate ?_; refine xK ?_))
          (repeat first | refine go ?_ | ((try conv => whnf); (first | (refine St_gate ?_; refine xS ?_) | (refine StN_gate ?_; refine xN ?_)); clear H; intro w H))
          refine Call_of (eNew H ((n : Int) + 1)) ?_
          clear H
          rintro _ w ⟨eb, rfl, H⟩
          rw [hnn] at H
          (try conv => whnf)
          (repeat (refine Kept_gate ?_; refine xK ?_))
          (repeat first | refine go ?_ | ((try conv => whnf); (first | (refine St_gate ?_; refine xS ?_) | (refine StN_gate ?_; refine xN ?_)); clear H; intro w H))
          (refine Nw_sep H ?_; clear H; intro pb w H; (try simp only [Value.cells, List.toList_toArray, List.append_nil, List.cons_append, List.nil_append] at H))
          replace H := H.tp 2
          replace H := H.tp 2
        all_goals
          (repeat first | refine go ?_ | ((try conv => whnf); (first | (refine St_gate ?_; refine xS ?_) | (refine StN_gate ?_; refine xN ?_)); clear H; intro w H))
          replace H := Sep.big_nil (f := rowI) H
          replace H := H.tp 2
          replace H := H.tp 2
          replace H := H.tp 3
          replace H := benClose (R := []) (A := []) (n := n) (m := 0) ⟨Bn.new (by omega), rfl, rfl, rfl, ROk.nil, fun k b hk => by cases hk⟩ H
          refine Loop_intro (fun q : Nat × List (List Int) => [(45, .int .i64 (q.1 : Int))]) (fun q w => (q.1 ≤ C.length ∧ q.2.length = q.1 ∧ ∀ (i : Nat) c k, C[i]? = some c → q.2[i]? = some k → Lit.Clean c k) ∧
              Sep w0 w (benR pb n (q.2.map fun k => (k, true)) q.1 :: cellsR fb 24 [.int .i64 n, .slice ca C.length cc] :: l)) (fun q => C.length - q.1)
            (0, []) ⟨rfl, trivial⟩ ⟨⟨Nat.zero_le _, rfl, fun i c k _ h => by simp at h⟩, H⟩ ?_
          clear H
          rintro ⟨i, K⟩ w ⟨⟨hi, hK, hcl⟩, H⟩
          simp only [] at hi hK hcl H ⊢
          refine Br_dec (fun k1 => ?_) (fun k1 => ?_)
          · have hlt : i < C.length := by omega
            have hf : FSrc w ca C R := hs (l' := [_, _]) H
            obtain ⟨⟨ya, yc, ys⟩, hy, hyC, hys, hyl⟩ := hf.at hlt
            have hfy := hCf _ (List.mem_of_getElem? hyC)
            have hsum : ys.length ≤ 4194304 := by
              unfold rightZ at hr
              simp only [Bool.and_eq_true, decide_eq_true_eq] at hr
              have h1 := hr.1.2
              have h2 := sumL_next hyC
              have h3 := sumL_le C (i + 1)
              simp only [] at h2
              omega
            simp only [] at hyC hys hyl
            obtain ⟨rb, ro, rfl⟩ := hf.rows.addr (by rw [List.length_map, hf.len]; omega)
            refine Ix_in i rfl hlt ?_
            refine Ld_src (j := i) hf.rows (v := .slice ya ys.length yc) (by rw [List.getElem?_map, hy]; rfl) ?_
            (repeat first | refine go ?_ | ((try conv => whnf); (first | (refine St_gate ?_; refine xS ?_) | (refine StN_gate ?_; refine xN ?_)); clear H; intro w H))
            refine Call_of (bAdd H hp (xs := ys) (fun {w'} {l'} h => by
              obtain ⟨x', hx', _, hs', _⟩ := (hs (l' := l' ++ [_]) (by simpa using h)).at hlt
              rw [hy] at hx'; cases hx'
              exact hs') (by omega) (by rw [← fitZ_nat]; exact hfy) (by rw [List.length_map]; omega) (by omega)) ?_
            clear H
            rintro _ w ⟨own, hown, rfl, H⟩
            (repeat first | refine go ?_ | ((try conv => whnf); (first | (refine St_gate ?_; refine xS ?_) | (refine StN_gate ?_; refine xN ?_)); clear H; intro w H))
            refine ⟨(i + 1, K ++ [own]), ⟨congrArg some (vint (by simp)), trivial⟩, ⟨⟨by simp only []; omega, by simp [hK], fun j c k hc hk => ?_⟩, ?_⟩, by simp; omega⟩
            · simp only [] at hk
              rcases Nat.lt_or_ge j K.length with h | h
              · rw [List.getElem?_append_left h] at hk
                exact hcl j c k hc hk
              · rw [List.getElem?_append_right h] at hk
                have hj := (List.getElem?_eq_some_iff.1 hk).1
                have hj0 : j - K.length = 0 := by simpa using hj
                rw [hj0] at hk
                simp at hk; subst hk
                obtain rfl : j = i := by omega
                rw [hyC] at hc; cases hc
                exact hown
            · simp only [List.map_append, List.map_cons, List.map_nil]
              exact H
          · obtain rfl : i = C.length := by omega
            obtain ⟨eb, mb, s, R', fr, hb, H⟩ := benOpen H
            unfold ben at H
            (repeat first | refine go ?_ | ((try conv => whnf); (first | (refine St_gate ?_; refine xS ?_) | (refine StN_gate ?_; refine xN ?_)); clear H; intro w H))
            replace H := H.tp 1
            refine Call_of (eLen H) ?_
            rintro _ _ ⟨rfl, rfl⟩
            (repeat first | refine go ?_ | ((try conv => whnf); (first | (refine St_gate ?_; refine xS ?_) | (refine StN_gate ?_; refine xN ?_)); clear H; intro w H))
            replace H := H.tp 1
            refine Ret_in (.inr ⟨hopen, n, pb, K, rfl, rfl, hK, hcl, ?_⟩)
            exact (benClose hb (l := cellsR fb 24 [.int .i64 n, .slice ca C.length cc] :: l) H).drop 1 rfl rfl
end
end Go.Proofs.YtkgmgjiomniijaaDoor
