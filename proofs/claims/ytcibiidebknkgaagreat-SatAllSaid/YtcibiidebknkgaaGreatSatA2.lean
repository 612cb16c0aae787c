/- A solver in memory: New, Var, Add. -/
import Derived.Test.YtcibiidebknkgaaGreatSatA1
set_option linter.unusedVariables false
set_option linter.unusedSimpArgs false
namespace Go.Proofs.YtcibiidebknkgaaGreat
open Go Go.Vc Go.Watch Go.Lit
open Go.Trail (Ent value find upto okLit litsV)
set_option maxHeartbeats 4000000
set_option maxRecDepth 100000
/-- A solver, but for its engine's and its variables' order. -/
structure Sol where
  s : St
  K : List Entry
  pc : Pc
  seed : Int
  ph : List Bool
  lr : List (Nat × Int)
  bump : Int
  broken : Bool
  model : List Bool
  core : List Int
  lg : Nat
  conf : Nat
structure SRep where
  eb : Nat
  rb : Nat
  pb : Nat
  pa : Option Addr
  pk : Nat
  la : Option Addr
  lk : Nat
  ma : Option Addr
  mm : Nat
  ca : Option Addr
  ck : Nat
  ga : Option Addr
  gk : Nat
  gs : List Value
abbrev boV (b : Bool) : Value := .bool b
def ln2 (x : Nat × Int) : List Value := [idV x.1, .int .i64 x.2]
theorem ln2_len (x : Nat × Int) : (ln2 x).length = 2 := rfl
theorem ln2_one {Y : List (Nat × Int)} : ∀ u ∈ Y.flatMap ln2, oneCell u = true := rowOnes fun x u hu => by
  simp only [ln2, List.mem_cons, List.not_mem_nil, or_false] at hu
  rcases hu with rfl | rfl <;> rfl
abbrev soP (b : Nat) (x : Sol) (r : SRep) : Res := cellsR b 61 [.pointer (some ⟨r.eb, 0, none⟩), .pointer (some ⟨r.rb, 0, none⟩), .pointer (some ⟨r.pb, 0, none⟩), .int .u64 x.seed, .slice r.pa x.ph.length r.pk, .slice r.la x.lr.length r.lk, .int .i64 x.bump, .bool x.broken, .slice r.ma x.model.length r.mm, .slice r.ca x.core.length r.ck, .slice r.ga x.lg r.gk, .int .i64 (x.conf : Int)]
abbrev phP (x : Sol) (r : SRep) : Res := ownR r.pa x.ph.length r.pk 4 1 (x.ph.map boV)
abbrev lrP (x : Sol) (r : SRep) : Res := ownR r.la x.lr.length r.lk 124 2 (x.lr.flatMap ln2)
abbrev moP (x : Sol) (r : SRep) : Res := ownR r.ma x.model.length r.mm 4 1 (x.model.map boV)
abbrev coP (x : Sol) (r : SRep) : Res := ownR r.ca x.core.length r.ck 29 1 (x.core.map lV)
abbrev lgP (x : Sol) (r : SRep) : Res := ownR r.ga x.lg r.gk 117 2 r.gs
abbrev sol (b : Nat) (x : Sol) (r : SRep) (l : List Res) : List Res := soP b x r :: engR r.eb x.s :: rkR r.rb x.K :: paceR r.pb x.pc :: phP x r :: lrP x r :: moP x r :: coP x r :: lgP x r :: l
/-- A solver as a part of memory. -/
def solR (b : Nat) (x : Sol) : Res := exR fun r : SRep => sepR (sol b x r [])
section
variable {w0 w : World} {l : List Res} {b eb : Nat} {x : Sol} {s : St}
theorem solOpen (H : Sep w0 w (solR b x :: l)) : ∃ r, Sep w0 w (sol b x r l) := by
  obtain ⟨r, h1⟩ := H.ex
  exact ⟨r, h1.flat⟩
theorem solClose {r : SRep} (H : Sep w0 w (sol b x r l)) : Sep w0 w (solR b x :: l) :=
  Sep.mk_ex (f := fun r : SRep => sepR (sol b x r [])) r (Sep.app (l := sol b x r []) H)

/-! One variable more -/
def sol0 (seed : Int) (pc : Pc) : Sol := ⟨st0 0, newE 0, pc, seed, [false], [], 1024, false, [], [], 0, 0⟩
theorem sNewFin {eb rb pb mb : Nat} {seed : Int} {pc : Pc} (H : Sep w0 w (cellsR b 61 [.pointer (some ⟨eb, 0, none⟩), .pointer (some ⟨rb, 0, none⟩), .pointer (some ⟨pb, 0, none⟩), .int .u64 seed, .slice (some ⟨mb, 0, none⟩) 1 1, .slice none 0 0, .int .i64 1024, .bool false, .slice none 0 0, .slice none 0 0, .slice none 0 0, .int .i64 0] ::
    engR eb (st0 0) :: rkR rb (newE 0) :: paceR pb pc :: ownR (some ⟨mb, 0, none⟩) 1 1 4 1 [.bool false] :: l)) : Sep w0 w (solR b (sol0 seed pc) :: l) := by
  replace H := Own.nilR H 117 2
  replace H := Own.nilR H 29 1
  replace H := Own.nilR H 4 1
  replace H := Own.nilR H 124 2
  replace H := H.tp 8
  replace H := H.tp 8
  replace H := H.tp 8
  replace H := H.tp 8
  replace H := H.tp 8
  exact solClose (x := sol0 seed pc) (r := ⟨eb, rb, pb, some ⟨mb, 0, none⟩, 1, none, 0, none, 0, none, 0, none, 0, []⟩) H
theorem sNew (H : Sep w0 w l) (seed u r : Int) : Does Tryz.prog 8 #[.agg #[.int .u64 seed, .int .i64 u, .int .i64 r]] w fun v w' => ∃ b pc, v = .pointer (some ⟨b, 0, none⟩) ∧ pc.Ok ∧ pc.a = 0 ∧ Sep w0 w' (solR b (sol0 seed pc) :: l) := by
  refine Does_intro tok (Tryz.call8 _ _) Tryz.func8 rfl (by rfl) ?_
  (repeat first | refine go ?_ | ((try conv => whnf); (first | (refine St_gate ?_; refine xS ?_) | (refine StN_gate ?_; refine xN ?_)); clear H; intro w H))
  (refine Nw_sep H ?_; clear H; intro ob w H; (try simp only [Value.cells, List.toList_toArray, List.append_nil, List.cons_append, List.nil_append] at H))
  (repeat first | refine go ?_ | ((try conv => whnf); (first | (refine St_gate ?_; refine xS ?_) | (refine StN_gate ?_; refine xN ?_)); clear H; intro w H))
  refine Draw_tree mixed (Tr.row [2, 4, 5] (.alt (.step 0 (.alt (.step 1 (.alt (.step 3 (Tr.row [6, 7, 8, 9] .done)) (.step 6 (Tr.row [3, 7, 8, 9] .done)))) (.step 6 (Tr.row [1, 3, 7, 8, 9] .done)))) (.step 6 (Tr.row [0, 1, 3, 7, 8, 9] .done)))) (by decide +kernel) (fun w _ fd => ?_); replace H := H.fr fd; clear fd
  (repeat first | refine go ?_ | ((try conv => whnf); (first | (refine St_gate ?_; refine xS ?_) | (refine StN_gate ?_; refine xN ?_)); clear H; intro w H))
  refine Both_in ?_ ?_
  · (refine Call_of (eNew H 0) ?_; clear H; rintro _ w ⟨eb, rfl, H⟩; (try conv => whnf); (repeat (refine Kept_gate ?_; refine xK ?_)); (repeat first | refine go ?_ | ((try conv => whnf); (first | (refine St_gate ?_; refine xS ?_) | (refine StN_gate ?_; refine xN ?_)); clear H; intro w H)))
    refine Both_in ?_ ?_
    · (refine Call_of (kNew H 0) ?_; clear H; rintro _ w ⟨rb, rfl, H⟩; (try conv => whnf); (repeat (refine Kept_gate ?_; refine xK ?_)); (repeat first | refine go ?_ | ((try conv => whnf); (first | (refine St_gate ?_; refine xS ?_) | (refine StN_gate ?_; refine xN ?_)); clear H; intro w H)))
      refine Both_in ?_ ?_
      · (refine Call_of (pNew H seed u r) ?_; clear H; rintro _ w ⟨pb, pc, rfl, hpo, hpa, H⟩; (try conv => whnf); (repeat (refine Kept_gate ?_; refine xK ?_)); (repeat first | refine go ?_ | ((try conv => whnf); (first | (refine St_gate ?_; refine xS ?_) | (refine StN_gate ?_; refine xN ?_)); clear H; intro w H)))
        (refine make_sep tok H rfl rfl rfl rfl rfl (by decide) 1 1 rfl rfl (by omega) (by omega) (by unfold maxLen; omega) fun mb w H => ?_; (try conv => whnf); (repeat (refine Kept_gate ?_; refine xK ?_)); (repeat first | refine go ?_ | ((try conv => whnf); (first | (refine St_gate ?_; refine xS ?_) | (refine StN_gate ?_; refine xN ?_)); clear H; intro w H)))
        ((refine Nw_sep H ?_; clear H; intro b w H; (try simp only [Value.cells, List.toList_toArray, List.append_nil, List.cons_append, List.nil_append] at H)); (repeat first | refine go ?_ | ((try conv => whnf); (first | (refine St_gate ?_; refine xS ?_) | (refine StN_gate ?_; refine xN ?_)); clear H; intro w H)); replace H := H.drop 5 rfl rfl)
        replace H := H.tp 1
        (replace H := H.tp 2; replace H := H.tp 3; replace H := H.tp 4; replace H := H.tp 4; exact Ret_in ⟨b, pc, rfl, hpo, hpa, sNewFin H⟩)
      · (refine make_sep tok H rfl rfl rfl rfl rfl (by decide) 1 1 rfl rfl (by omega) (by omega) (by unfold maxLen; omega) fun mb w H => ?_; (try conv => whnf); (repeat (refine Kept_gate ?_; refine xK ?_)); (repeat first | refine go ?_ | ((try conv => whnf); (first | (refine St_gate ?_; refine xS ?_) | (refine StN_gate ?_; refine xN ?_)); clear H; intro w H)))
        (refine Call_of (pNew H seed u r) ?_; clear H; rintro _ w ⟨pb, pc, rfl, hpo, hpa, H⟩; (try conv => whnf); (repeat (refine Kept_gate ?_; refine xK ?_)); (repeat first | refine go ?_ | ((try conv => whnf); (first | (refine St_gate ?_; refine xS ?_) | (refine StN_gate ?_; refine xN ?_)); clear H; intro w H)))
        ((refine Nw_sep H ?_; clear H; intro b w H; (try simp only [Value.cells, List.toList_toArray, List.append_nil, List.cons_append, List.nil_append] at H)); (repeat first | refine go ?_ | ((try conv => whnf); (first | (refine St_gate ?_; refine xS ?_) | (refine StN_gate ?_; refine xN ?_)); clear H; intro w H)); replace H := H.drop 5 rfl rfl)
        replace H := H.tp 2
        (replace H := H.tp 2; replace H := H.tp 3; replace H := H.tp 4; replace H := H.tp 4; exact Ret_in ⟨b, pc, rfl, hpo, hpa, sNewFin H⟩)
    · (refine make_sep tok H rfl rfl rfl rfl rfl (by decide) 1 1 rfl rfl (by omega) (by omega) (by unfold maxLen; omega) fun mb w H => ?_; (try conv => whnf); (repeat (refine Kept_gate ?_; refine xK ?_)); (repeat first | refine go ?_ | ((try conv => whnf); (first | (refine St_gate ?_; refine xS ?_) | (refine StN_gate ?_; refine xN ?_)); clear H; intro w H)))
      (refine Call_of (kNew H 0) ?_; clear H; rintro _ w ⟨rb, rfl, H⟩; (try conv => whnf); (repeat (refine Kept_gate ?_; refine xK ?_)); (repeat first | refine go ?_ | ((try conv => whnf); (first | (refine St_gate ?_; refine xS ?_) | (refine StN_gate ?_; refine xN ?_)); clear H; intro w H)))
      (refine Call_of (pNew H seed u r) ?_; clear H; rintro _ w ⟨pb, pc, rfl, hpo, hpa, H⟩; (try conv => whnf); (repeat (refine Kept_gate ?_; refine xK ?_)); (repeat first | refine go ?_ | ((try conv => whnf); (first | (refine St_gate ?_; refine xS ?_) | (refine StN_gate ?_; refine xN ?_)); clear H; intro w H)))
      ((refine Nw_sep H ?_; clear H; intro b w H; (try simp only [Value.cells, List.toList_toArray, List.append_nil, List.cons_append, List.nil_append] at H)); (repeat first | refine go ?_ | ((try conv => whnf); (first | (refine St_gate ?_; refine xS ?_) | (refine StN_gate ?_; refine xN ?_)); clear H; intro w H)); replace H := H.drop 5 rfl rfl)
      replace H := H.tp 3
      (replace H := H.tp 2; replace H := H.tp 3; replace H := H.tp 4; replace H := H.tp 4; exact Ret_in ⟨b, pc, rfl, hpo, hpa, sNewFin H⟩)
  · (refine make_sep tok H rfl rfl rfl rfl rfl (by decide) 1 1 rfl rfl (by omega) (by omega) (by unfold maxLen; omega) fun mb w H => ?_; (try conv => whnf); (repeat (refine Kept_gate ?_; refine xK ?_)); (repeat first | refine go ?_ | ((try conv => whnf); (first | (refine St_gate ?_; refine xS ?_) | (refine StN_gate ?_; refine xN ?_)); clear H; intro w H)))
    (refine Call_of (eNew H 0) ?_; clear H; rintro _ w ⟨eb, rfl, H⟩; (try conv => whnf); (repeat (refine Kept_gate ?_; refine xK ?_)); (repeat first | refine go ?_ | ((try conv => whnf); (first | (refine St_gate ?_; refine xS ?_) | (refine StN_gate ?_; refine xN ?_)); clear H; intro w H)))
    (refine Call_of (kNew H 0) ?_; clear H; rintro _ w ⟨rb, rfl, H⟩; (try conv => whnf); (repeat (refine Kept_gate ?_; refine xK ?_)); (repeat first | refine go ?_ | ((try conv => whnf); (first | (refine St_gate ?_; refine xS ?_) | (refine StN_gate ?_; refine xN ?_)); clear H; intro w H)))
    (refine Call_of (pNew H seed u r) ?_; clear H; rintro _ w ⟨pb, pc, rfl, hpo, hpa, H⟩; (try conv => whnf); (repeat (refine Kept_gate ?_; refine xK ?_)); (repeat first | refine go ?_ | ((try conv => whnf); (first | (refine St_gate ?_; refine xS ?_) | (refine StN_gate ?_; refine xN ?_)); clear H; intro w H)))
    ((refine Nw_sep H ?_; clear H; intro b w H; (try simp only [Value.cells, List.toList_toArray, List.append_nil, List.cons_append, List.nil_append] at H)); (repeat first | refine go ?_ | ((try conv => whnf); (first | (refine St_gate ?_; refine xS ?_) | (refine StN_gate ?_; refine xN ?_)); clear H; intro w H)); replace H := H.drop 5 rfl rfl)
    replace H := H.tp 4
    (replace H := H.tp 2; replace H := H.tp 3; replace H := H.tp 4; replace H := H.tp 4; exact Ret_in ⟨b, pc, rfl, hpo, hpa, sNewFin H⟩)
theorem eGrow (H : Sep w0 w (engR eb s :: l)) (hn : s.n < 262144) (hW : s.W.length = 2 * s.n + 2) : Does Tryz.prog 33 #[.pointer (some ⟨eb, 0, none⟩)] w fun v w' => v = .int .i64 ((s.n + 1 : Nat) : Int) ∧ Sep w0 w' (engR eb (Watch.grow s) :: l) := by
  obtain ⟨r, hr, H⟩ := engOpen H
  refine Does_intro tok (Tryz.call33 _ _) Tryz.func33 rfl (by rfl) ?_
  (repeat first | refine go ?_ | ((try conv => whnf); (first | (refine St_gate ?_; refine xS ?_) | (refine StN_gate ?_; refine xN ?_)); clear H; intro w H))
  refine Call_of (sTrailGrow H mm hn) ?_
  clear H
  rintro _ w ⟨rfl, H⟩
  replace H := H _ (by repeat first | exact Upd.head | apply Upd.tail)
  (repeat first | refine go ?_ | ((try conv => whnf); (first | (refine St_gate ?_; refine xS ?_) | (refine StN_gate ?_; refine xN ?_)); clear H; intro w H))
  (refine Nw_sep H ?_; clear H; intro nb w H; (try simp only [Value.cells, List.toList_toArray, List.append_nil, List.cons_append, List.nil_append] at H))
  (repeat first | refine go ?_ | ((try conv => whnf); (first | (refine St_gate ?_; refine xS ?_) | (refine StN_gate ?_; refine xN ?_)); clear H; intro w H))
  refine DoN_gate ?_
  refine append_one tok H rfl rfl rfl rfl rfl (by decide) mm (m := 2) rfl (by simp [oneCell]) (by omega) (by unfold maxLen; omega) ?_
  clear H
  intro wa' wc' w H
  replace H := H _ (by repeat first | exact Upd.head | apply Upd.tail)
  (repeat first | refine go ?_ | ((try conv => whnf); (first | (refine St_gate ?_; refine xS ?_) | (refine StN_gate ?_; refine xN ?_)); clear H; intro w H))
  refine Ret_in ⟨rfl, engClose (s := Watch.grow s) (r := { r with wa := wa', wc := wc', RW := r.RW ++ [(none, 0, []), (none, 0, [])] }) ⟨hr.C, by rw [List.map_append, hr.W]; rfl⟩ ?_⟩
  have e1 : (Watch.grow s).W.length = s.W.length + 2 := by show (s.W ++ [[], []]).length = _; rw [List.length_append]; rfl
  have e2 : (r.RW ++ [((none, 0, []) : Wr), (none, 0, [])]).map wV = r.RW.map wV ++ [.slice none 0 0, .slice none 0 0] := by rw [List.map_append]; rfl
  replace H := H.tp 5
  replace H := Own.nilR H 3 1
  replace H := Sep.big_snoc (f := fun (_ : Nat) (x : Wr) => wR x) (y := ((none, 0, []) : Wr)) H
  replace H := Own.nilR H 3 1
  replace H := Sep.big_snoc (f := fun (_ : Nat) (x : Wr) => wR x) (y := ((none, 0, []) : Wr)) H
  rw [List.append_assoc] at H
  replace H := H.tp 5
  replace H := H.tp 5
  replace H := H.tp 5
  replace H := H.tp 5
  replace H := H.tp 5
  unfold eng eP wP vP
  rw [e1, e2]
  exact H
end
end Go.Proofs.YtcibiidebknkgaaGreat
/-! A solver: a variable more, a clause more; what it knows. -/
set_option linter.unusedVariables false
set_option linter.unusedSimpArgs false
namespace Go.Proofs.YtcibiidebknkgaaGreat
open Go Go.Vc Go.Watch Go.Lit
open Go.Trail (Ent value find upto okLit litsV)
set_option maxHeartbeats 4000000
set_option maxRecDepth 100000
/-- What holds of a solver of n variables, to which the clauses L were added. -/
structure Sol.Ok (n : Nat) (L : List (List Int)) (k m : Nat) (x : Sol) : Prop where
  sv : Sv n L (x.lr.map (·.1)) k m x.s
  kl : x.K.length = n + 1
  wt : ∀ v : Nat, 1 ≤ v → v ≤ n → wts x.K v = false → find x.s.E (v : Int) ≠ none
  pl : x.ph.length = n + 1
  pc : x.pc.Ok
  b0 : 0 ≤ x.bump
  b1 : x.bump ≤ 1099511627776
  brk : x.broken = true → ∀ vs, ¬ ∀ c ∈ L, hol vs c
  lv : ∀ p ∈ x.lr, 0 ≤ p.2 ∧ p.2 ≤ 1000000
  lg : x.lg ≤ m
  few : n ≤ 262144
  kk : k ≤ 1048576
section
variable {w0 w : World} {l : List Res} {b : Nat} {x : Sol} {n k m : Nat} {L : List (List Int)}
theorem Sol.Ok.sol0 {seed : Int} {pc : Pc} (hp : pc.Ok) : (sol0 seed pc).Ok 0 [] 0 0 :=
  ⟨Sv.empty, rfl, fun v h1 h2 => by omega, rfl, hp, by show (0 : Int) ≤ 1024; decide, by show (1024 : Int) ≤ 1099511627776; decide, fun h => (by cases h), fun p hp => (by cases hp), Nat.le_refl _, by decide, by decide⟩
def growS (x : Sol) (q : Bool) : Sol := { x with s := Watch.grow x.s, K := x.K ++ [(0, true)], ph := x.ph ++ [q] }
theorem wts_snoc {K : List Entry} {e : Entry} {v : Nat} : wts (K ++ [e]) v = if v < K.length then wts K v else if v = K.length then e.2 else false := by
  unfold wts
  rw [List.getD_eq_getElem?_getD, List.getD_eq_getElem?_getD]
  by_cases h : v < K.length
  · rw [if_pos h, List.getElem?_append_left h]
  · rw [if_neg h, List.getElem?_append_right (by omega)]
    by_cases h2 : v = K.length
    · rw [if_pos h2, h2, Nat.sub_self]; rfl
    · rw [if_neg h2, List.getElem?_eq_none (by simp; omega)]; rfl
theorem Sol.Ok.grow (h : x.Ok n L k m) (hn : n < 262144) (q : Bool) : (growS x q).Ok (n + 1) L k m := by
  refine { h with sv := h.sv.grow hn, kl := ?_, wt := fun v h1 h2 h3 => ?_, pl := ?_, few := by omega }
  · show (x.K ++ [_]).length = _
    rw [List.length_append, h.kl]; rfl
  · have h3' : wts (x.K ++ [(0, true)]) v = false := h3
    rw [wts_snoc, h.kl] at h3'
    by_cases h4 : v < n + 1
    · rw [if_pos h4] at h3'
      exact h.wt v h1 (by omega) h3'
    · rw [if_neg h4, if_pos (by omega)] at h3'
      cases h3'
  · show (x.ph ++ [q]).length = _
    rw [List.length_append, h.pl]; rfl

theorem sVar (H : Sep w0 w (solR b x :: l)) (h : x.Ok n L k m) (hn : n < 262144) : Does Tryz.prog 17 #[.pointer (some ⟨b, 0, none⟩)] w fun v w' => v = .int .i64 ((n + 1 : Nat) : Int) ∧ ∃ q, Sep w0 w' (solR b (growS x q) :: l) := by
  obtain ⟨r, H⟩ := solOpen H
  have hsn := h.sv.n
  have hwl := h.sv.good.wl
  have hkl := h.kl
  have hpl := h.pl
  refine Does_intro tok (Tryz.call17 _ _) Tryz.func17 rfl (by rfl) ?_
  (repeat first | refine go ?_ | ((try conv => whnf); (first | (refine St_gate ?_; refine xS ?_) | (refine StN_gate ?_; refine xN ?_)); clear H; intro w H))
  replace H := H.tp 1
  refine Call_of (eGrow H (by omega) hwl) ?_
  clear H
  rintro _ w ⟨rfl, H⟩
  rw [hsn]
  replace H := H.tp 1
  (repeat first | refine go ?_ | ((try conv => whnf); (first | (refine St_gate ?_; refine xS ?_) | (refine StN_gate ?_; refine xN ?_)); clear H; intro w H))
  refine Call_of (kGrow H mm (by omega)) ?_
  clear H
  rintro _ w ⟨rfl, H⟩
  replace H := H _ (by repeat first | exact Upd.head | apply Upd.tail)
  (repeat first | refine go ?_ | ((try conv => whnf); (first | (refine St_gate ?_; refine xS ?_) | (refine StN_gate ?_; refine xN ?_)); clear H; intro w H))
  refine Draw_intro mixed [0, 1, 2, 3, 4, 5, 6, 7, 8, 9, 10, 11, 12, 13, 14, 15] (by decide +kernel) (fun w _ fd => ?_); replace H := H.fr fd; clear fd
  (repeat first | refine go ?_ | ((try conv => whnf); (first | (refine St_gate ?_; refine xS ?_) | (refine StN_gate ?_; refine xN ?_)); clear H; intro w H))
  refine Call_of (paceFirst _ _ _) ?_
  rintro _ _ ⟨⟨q, rfl⟩, rfl⟩
  (try conv => whnf)
  (repeat (refine Kept_gate ?_; refine xK ?_))
  (repeat first | refine go ?_ | ((try conv => whnf); (first | (refine St_gate ?_; refine xS ?_) | (refine StN_gate ?_; refine xN ?_)); clear H; intro w H))
  (refine Nw_sep H ?_; clear H; intro nb w H; (try simp only [Value.cells, List.toList_toArray, List.append_nil, List.cons_append, List.nil_append] at H))
  (try conv => whnf)
  (repeat (refine Kept_gate ?_; refine xK ?_))
  (repeat first | refine go ?_ | ((try conv => whnf); (first | (refine St_gate ?_; refine xS ?_) | (refine StN_gate ?_; refine xN ?_)); clear H; intro w H))
  (refine DoN_gate ?_; refine append_one tok H rfl rfl rfl rfl rfl (by decide) mm (m := 1) rfl (by simp [oneCell]) (by omega) (by unfold maxLen; omega) ?_; clear H; intro pa' pc' w H; replace H := H _ (by repeat first | exact Upd.head | apply Upd.tail))
  (repeat first | refine go ?_ | ((try conv => whnf); (first | (refine St_gate ?_; refine xS ?_) | (refine StN_gate ?_; refine xN ?_)); clear H; intro w H))
  refine Ret_in ⟨rfl, q, solClose (x := growS x q) (r := { r with pa := pa', pk := pc' }) ?_⟩
  have e1 : (growS x q).ph.length = x.ph.length + 1 := by show (x.ph ++ [q]).length = _; rw [List.length_append]; rfl
  have e2 : (growS x q).ph.map boV = x.ph.map boV ++ [.bool q] := by show (x.ph ++ [q]).map boV = _; rw [List.map_append]; rfl
  unfold sol soP phP
  rw [e1, e2]
  exact H

theorem sVars (H : Sep w0 w (solR b x :: l)) (h : x.Ok n L k m) : Does Tryz.prog 48 #[.pointer (some ⟨b, 0, none⟩)] w fun v w' => v = .int .i64 (n : Int) ∧ w = w' := by
  obtain ⟨r, H⟩ := solOpen H
  have hsn := h.sv.n
  refine Does_intro tok (Tryz.call48 _ _) Tryz.func48 rfl (by rfl) ?_
  (repeat first | refine go ?_ | ((try conv => whnf); (first | (refine St_gate ?_; refine xS ?_) | (refine StN_gate ?_; refine xN ?_)); clear H; intro w H))
  replace H := H.tp 1
  obtain ⟨q, hq, H⟩ := engOpen H
  (repeat first | refine go ?_ | ((try conv => whnf); (first | (refine St_gate ?_; refine xS ?_) | (refine StN_gate ?_; refine xN ?_)); clear H; intro w H))
  refine Call_of (sTrailVars H mm) ?_
  rintro _ _ ⟨rfl, rfl⟩
  rw [hsn]
  (repeat first | refine go ?_ | ((try conv => whnf); (first | (refine St_gate ?_; refine xS ?_) | (refine StN_gate ?_; refine xN ?_)); clear H; intro w H))
  exact Ret_in ⟨rfl, rfl⟩

/-- What a clause leaves. -/
def addS (x : Sol) (xs out : List Int) : Sol := { x with s := addP x.s (leadP x.s.E out) (Lit.bothB xs) }
theorem Sol.Ok.add (h : x.Ok n L k m) {xs out : List Int} (hf : fitB n xs = true) (hcl : Lit.Clean xs out) (hD : x.s.D = 0) (hk : k + 1 ≤ 1048576) : (addS x xs out).Ok n (L ++ [xs]) (k + 1) (m + 1) := by
  refine { h with sv := h.sv.add hf hcl hD, wt := fun v h1 h2 h3 => ?_, brk := fun hb vs hv => h.brk hb vs fun c hc => hv c (List.mem_append_left _ hc), lg := Nat.le_succ_of_le h.lg, kk := hk }
  have := h.wt v h1 h2 h3
  show find (addP x.s (leadP x.s.E out) (Lit.bothB xs)).E (v : Int) ≠ none
  rw [(addP_E _ _ _).1]
  exact this

theorem sAdd (H : Sep w0 w (solR b x :: l)) (h : x.Ok n L k m) {xs : List Int} {a : Option Addr} {c : Nat} (hs : ∀ {w' : World} {l' : List Res}, Sep w0 w' (l' ++ l) → Src w' a xs.length 1 (xs.map lV)) (hx : xs.length ≤ 35184372087808) (hk : k < 1048576) (hm : m ≤ 900000000000) :
    Does Tryz.prog 9 #[.pointer (some ⟨b, 0, none⟩), .slice a xs.length c] w fun v w' => (fitB n xs = false ∧ v = .int .i64 81 ∧ Sep w0 w' (solR b x :: l)) ∨
      (fitB n xs = true ∧ v = .int .i64 0 ∧ ∃ out, Lit.Clean xs out ∧ Sep w0 w' (solR b (addS x xs out) :: l)) := by
  obtain ⟨r, H⟩ := solOpen H
  have hsn := h.sv.n
  have hg := h.sv.good
  have hC := h.sv.fewC
  have hF := h.sv.few
  refine Does_intro tok (Tryz.call9 _ _) Tryz.func9 rfl (by rfl) ?_
  (repeat first | refine go ?_ | ((try conv => whnf); (first | (refine St_gate ?_; refine xS ?_) | (refine StN_gate ?_; refine xN ?_)); clear H; intro w H))
  replace H := H.tp 1
  have hs' : ∀ {w' : World} {l' : List Res}, Sep w0 w' (l' ++ (soP b x r :: rkR r.rb x.K :: paceR r.pb x.pc :: phP x r :: lrP x r :: moP x r :: coP x r :: lgP x r :: l)) → Src w' a xs.length 1 (xs.map lV) := fun {w'} {l'} h => hs (l' := l' ++ [_, _, _, _, _, _, _, _]) (by simpa using h)
  cases hf : fitB n xs with
  | false =>
    refine Call_of (eAdd_no H hs' hx (by rw [hsn]; exact fitB_no hf)) ?_
    clear H
    rintro _ w ⟨rfl, H⟩
    replace H := H.tp 1
    (repeat first | refine go ?_ | ((try conv => whnf); (first | (refine St_gate ?_; refine xS ?_) | (refine StN_gate ?_; refine xN ?_)); clear H; intro w H))
    exact Ret_in (.inl ⟨rfl, rfl, solClose H⟩)
  | true =>
    have hfit := fitB_iff.1 hf
    refine Call_of (eAdd H hs' hx (fun x hx => (hfit x hx).1) (fun x hx => by rw [hsn]; exact (hfit x hx).2) (by omega) (by omega) hg.wl hg.inv.vars (fun x h1 h2 => by have := hg.wat_few h1 h2; omega)) ?_
    clear H
    rintro _ w ⟨rfl, out, hcl, _, H⟩
    replace H := H.tp 1
    (repeat first | refine go ?_ | ((try conv => whnf); (first | (refine St_gate ?_; refine xS ?_) | (refine StN_gate ?_; refine xN ?_)); clear H; intro w H))
    exact Ret_in (.inr ⟨rfl, rfl, out, hcl, solClose (x := addS x xs out) H⟩)

theorem sKnown1 {ob : Nat} (H : Sep w0 w (solR b x :: cellsR ob 22 [.pointer (some ⟨b, 0, none⟩)] :: l)) (h : x.Ok n L k m) {y : Int} :
    Does Tryz.prog 47 #[lV y, .pointer (some ⟨ob, 0, none⟩)] w fun v w' => v = .bool (decide ((n : Int) < (Trail.var y : Int))) ∧ Sep w0 w' (solR b x :: cellsR ob 22 [.pointer (some ⟨b, 0, none⟩)] :: l) := by
  refine Does_intro tok (Tryz.call47 _ _) Tryz.func47 rfl (by rfl) ?_
  (repeat first | refine go ?_ | ((try conv => whnf); (first | (refine St_gate ?_; refine xS ?_) | (refine StN_gate ?_; refine xN ?_)); clear H; intro w H))
  refine Draw_intro mixed [0, 2, 1, 3, 4, 5] (by decide +kernel) (fun w _ fd => ?_); replace H := H.fr fd; clear fd
  (repeat first | refine go ?_ | ((try conv => whnf); (first | (refine St_gate ?_; refine xS ?_) | (refine StN_gate ?_; refine xN ?_)); clear H; intro w H))
  refine Call_of (litVar y _) ?_
  rintro _ _ ⟨rfl, rfl⟩
  (try conv => whnf)
  (repeat (refine Kept_gate ?_; refine xK ?_))
  (repeat first | refine go ?_ | ((try conv => whnf); (first | (refine St_gate ?_; refine xS ?_) | (refine StN_gate ?_; refine xN ?_)); clear H; intro w H))
  refine Call_of (sVars H h) ?_
  rintro _ _ ⟨rfl, rfl⟩
  (try conv => whnf)
  (repeat (refine Kept_gate ?_; refine xK ?_))
  (repeat first | refine go ?_ | ((try conv => whnf); (first | (refine St_gate ?_; refine xS ?_) | (refine StN_gate ?_; refine xN ?_)); clear H; intro w H))
  exact Ret_in ⟨rfl, H⟩
/-- Are all literals of variables that there are? -/
theorem sKnown (H : Sep w0 w (solR b x :: l)) (h : x.Ok n L k m) {xs : List Int} {a : Option Addr} {c : Nat} (hs : ∀ {w' : World} {l' : List Res}, Sep w0 w' (l' ++ l) → Src w' a xs.length 1 (xs.map lV)) (hx : xs.length ≤ 35184372087808) :
    Does Tryz.prog 23 #[.pointer (some ⟨b, 0, none⟩), .slice a xs.length c] w fun v w' => v = .bool (fitB n xs) ∧ Sep w0 w' (solR b x :: l) := by
  refine Does_intro tok (Tryz.call23 _ _) Tryz.func23 rfl (by rfl) ?_
  (repeat first | refine go ?_ | ((try conv => whnf); (first | (refine St_gate ?_; refine xS ?_) | (refine StN_gate ?_; refine xN ?_)); clear H; intro w H))
  (refine Nw_sep H ?_; clear H; intro ob w H; (try simp only [Value.cells, List.toList_toArray, List.append_nil, List.cons_append, List.nil_append] at H))
  (repeat first | refine go ?_ | ((try conv => whnf); (first | (refine St_gate ?_; refine xS ?_) | (refine StN_gate ?_; refine xN ?_)); clear H; intro w H))
  refine Call_of (fRight (hs (l' := [_, _]) H) (by unfold maxLen; omega)) ?_
  rintro _ _ ⟨rfl, rfl⟩
  have hfb : fitB n xs = (xs.all Lit.one && !xs.any fun y => decide ((n : Int) < (Trail.var y : Int))) := by
    rw [Bool.eq_iff_iff, fitB_iff]
    simp only [Bool.and_eq_true, List.all_eq_true, Bool.not_eq_true', List.any_eq_false, decide_eq_true_eq]
    exact ⟨fun h => ⟨fun y hy => (h y hy).1, fun y hy => by have := (h y hy).2; omega⟩, fun ⟨h1, h2⟩ y hy => ⟨h1 y hy, by have := h2 y hy; omega⟩⟩
  rw [hfb]
  cases h1 : xs.all Lit.one with
  | false =>
    (repeat first | refine go ?_ | ((try conv => whnf); (first | (refine St_gate ?_; refine xS ?_) | (refine StN_gate ?_; refine xN ?_)); clear H; intro w H))
    exact Ret_in ⟨rfl, H.tail⟩
  | true =>
    replace H := H.tp 1
    (repeat first | refine go ?_ | ((try conv => whnf); (first | (refine St_gate ?_; refine xS ?_) | (refine StN_gate ?_; refine xN ?_)); clear H; intro w H))
    refine Call_of (litCContainsS (xs := xs) (Q := fun w' => Sep w0 w' (solR b x :: cellsR ob 22 [.pointer (some ⟨b, 0, none⟩)] :: l)) H (fun _ h => hs (l' := [_, _]) h) (p := fun y => decide ((n : Int) < (Trail.var y : Int))) (by unfold maxLen; omega) fun y hy w' H' => sKnown1 H' h) ?_
    clear H
    rintro _ w ⟨rfl, H⟩
    (repeat first | refine go ?_ | ((try conv => whnf); (first | (refine St_gate ?_; refine xS ?_) | (refine StN_gate ?_; refine xN ?_)); clear H; intro w H))
    exact Ret_in ⟨rfl, H.drop 1 rfl rfl⟩
end
end Go.Proofs.YtcibiidebknkgaaGreat
/-! A solver: what is decided; that they hold, that they can't. -/
set_option linter.unusedVariables false
set_option linter.unusedSimpArgs false
namespace Go.Proofs.YtcibiidebknkgaaGreat
open Go Go.Vc Go.Watch Go.Lit
open Go.Trail (Ent value find upto okLit litsV)
set_option maxHeartbeats 4000000
set_option maxRecDepth 100000
section
variable {w0 w : World} {l : List Res} {b : Nat} {x : Sol} {n k m : Nat} {L : List (List Int)} {cs : List Int} {ca : Option Addr} {cc : Nat}
/-! They hold -/
def modelS (x : Sol) (n : Nat) : List Bool := (List.range n).map fun (i : Nat) => decide (value x.s.E ((i : Int) + 1) = 1)
theorem model_len : (modelS x n).length = n := by unfold modelS; rw [List.length_map, List.length_range]
theorem model_set {i : Nat} (h : i < n) : (((modelS x n).take i ++ List.replicate (n - i) false).map boV).set i (.bool (value x.s.E ((i : Int) + 1) == 1)) = ((modelS x n).take (i + 1) ++ List.replicate (n - (i + 1)) false).map boV := by
  have hl := model_len (x := x) (n := n)
  have hg : (modelS x n)[i]? = some (value x.s.E ((i : Int) + 1) == 1) := by
    unfold modelS
    rw [List.getElem?_map, List.getElem?_range h]; rfl
  have e : n - i = (n - (i + 1)) + 1 := by omega
  rw [e, List.replicate_succ, List.map_append, List.set_append_right _ _ (by rw [List.length_map, List.length_take]; omega), List.length_map, List.length_take, Nat.min_eq_left (by omega), Nat.sub_self]
  rw [List.take_add_one, hg, List.map_append, List.map_append]
  simp
theorem zB (n : Nat) : zcells (Value.bool false).cells.toList n = (List.replicate n false).map boV := by
  show zcells [Value.bool false] n = _
  rw [zcells_one, List.map_replicate]
theorem sYes (H : Sep w0 w (solR b x :: l)) (h : x.Ok n L k m) : Does Tryz.prog 55 #[.pointer (some ⟨b, 0, none⟩)] w fun v w' => v = .int .i64 1 ∧ Sep w0 w' (solR b { x with model := modelS x n } :: l) := by
  have hn := h.few
  refine Does_intro tok (Tryz.call55 _ _) Tryz.func55 rfl (by rfl) ?_
  (repeat first | refine go ?_ | ((try conv => whnf); (first | (refine St_gate ?_; refine xS ?_) | (refine StN_gate ?_; refine xN ?_)); clear H; intro w H))
  refine Call_of (sVars H h) ?_
  rintro _ _ ⟨rfl, rfl⟩
  (repeat first | refine go ?_ | ((try conv => whnf); (first | (refine St_gate ?_; refine xS ?_) | (refine StN_gate ?_; refine xN ?_)); clear H; intro w H))
  refine make_sep tok H rfl rfl rfl rfl rfl (by decide) n n rfl rfl (by omega) (by omega) (by unfold maxLen; omega) fun mb w H => ?_
  rw [zB] at H
  replace H := H.tp 1
  obtain ⟨r, H⟩ := solOpen H
  (repeat first | refine go ?_ | ((try conv => whnf); (first | (refine St_gate ?_; refine xS ?_) | (refine StN_gate ?_; refine xN ?_)); clear H; intro w H))
  replace H := H.drop 6 rfl rfl
  replace H := H.tp 8
  replace H := H.tp 2
  refine Loop_intro (fun i : Nat => [(15, .int .i64 (i : Int))]) (fun i w => (i ≤ n) ∧ Sep w0 w (engR r.eb x.s :: ownR (some ⟨mb, 0, none⟩) n n 4 1 (((modelS x n).take i ++ List.replicate (n - i) false).map boV) ::
    cellsR b 61 [.pointer (some ⟨r.eb, 0, none⟩), .pointer (some ⟨r.rb, 0, none⟩), .pointer (some ⟨r.pb, 0, none⟩), .int .u64 x.seed, .slice r.pa x.ph.length r.pk, .slice r.la x.lr.length r.lk, .int .i64 x.bump, .bool x.broken, .slice (some ⟨mb, 0, none⟩) n n, .slice r.ca x.core.length r.ck, .slice r.ga x.lg r.gk, .int .i64 (x.conf : Int)] ::
    rkR r.rb x.K :: paceR r.pb x.pc :: phP x r :: lrP x r :: coP x r :: lgP x r :: l)) (fun i => n - i) 0 ⟨rfl, trivial⟩ ⟨Nat.zero_le _, by simp only [Nat.sub_zero, List.take_zero, List.nil_append]; exact H⟩ ?_
  clear H
  rintro i w ⟨hi, H⟩
  simp only [] at hi H ⊢
  have hml : (modelS x n).length = n := by unfold modelS; rw [List.length_map, List.length_range]
  refine Br_dec (fun k1 => ?_) (fun k1 => ?_)
  · have hlt : i < n := by omega
    (repeat first | refine go ?_ | ((try conv => whnf); (first | (refine St_gate ?_; refine xS ?_) | (refine StN_gate ?_; refine xN ?_)); clear H; intro w H))
    refine Draw_intro mixed [0, 1, 2, 3, 4, 5, 6, 7, 8, 9, 10, 11, 12, 13, 14, 15, 16, 17, 18] (by decide +kernel) (fun w _ fd => ?_); replace H := H.fr fd; clear fd
    obtain ⟨q, hq, H⟩ := engOpen H
    (repeat first | refine go ?_ | ((try conv => whnf); (first | (refine St_gate ?_; refine xS ?_) | (refine StN_gate ?_; refine xN ?_)); clear H; intro w H))
    refine Call_of (sTrailValue H mm) ?_
    rintro _ _ ⟨rfl, rfl⟩
    (try conv => whnf)
    (repeat (refine Kept_gate ?_; refine xK ?_))
    replace H := engClose hq H
    (repeat first | refine go ?_ | ((try conv => whnf); (first | (refine St_gate ?_; refine xS ?_) | (refine StN_gate ?_; refine xN ?_)); clear H; intro w H))
    refine Ix_in i rfl hlt ?_
    refine St_uO H (by repeat first | exact Upd.head | apply Upd.tail) rfl (by rw [List.length_map, List.length_append, List.length_take, List.length_replicate, hml]; omega) (model_set hlt) ?_
    clear H; intro w H
    (repeat first | refine go ?_ | ((try conv => whnf); (first | (refine St_gate ?_; refine xS ?_) | (refine StN_gate ?_; refine xN ?_)); clear H; intro w H))
    exact ⟨i + 1, ⟨congrArg some (vint (by omega)), trivial⟩, ⟨by omega, H⟩, by omega⟩
  · obtain rfl : i = n := by omega
    rw [List.take_of_length_le (by omega), Nat.sub_self, List.replicate_zero, List.append_nil] at H
    replace H := H.tp 2
    (repeat first | refine go ?_ | ((try conv => whnf); (first | (refine St_gate ?_; refine xS ?_) | (refine StN_gate ?_; refine xN ?_)); clear H; intro w H))
    replace H := H.tp 6
    replace H := H.tp 6
    replace H := H.tp 6
    replace H := H.tp 6
    replace H := H.tp 5
    replace H := H.tp 5
    refine Ret_in ⟨rfl, solClose (x := { x with model := modelS x i }) (r := { r with ma := some ⟨mb, 0, none⟩, mm := i }) ?_⟩
    unfold sol soP moP
    rw [hml]
    exact H

/-! They can't -/
theorem sNo (H : Sep w0 w (ownR ca cs.length cc 29 1 (cs.map lV) :: solR b x :: l)) (h : x.Ok n L k m) (hc : cs.length ≤ 1000000) (hv : ∀ y ∈ cs, -2147483647 ≤ y ∧ y ≤ 2147483647) (hm : m ≤ 1000000000000) :
    Does Tryz.prog 49 #[.pointer (some ⟨b, 0, none⟩), .slice ca cs.length cc] w fun v w' => v = .int .i64 2 ∧ Sep w0 w' (solR b { x with core := cs, lg := x.lg + 1 } :: l) := by
  have hlg := h.lg
  refine Does_intro tok (Tryz.call49 _ _) Tryz.func49 rfl (by rfl) ?_
  replace H := H.tp 1
  obtain ⟨r, H⟩ := solOpen H
  (repeat first | refine go ?_ | ((try conv => whnf); (first | (refine St_gate ?_; refine xS ?_) | (refine StN_gate ?_; refine xN ?_)); clear H; intro w H))
  refine make_sep tok H rfl rfl rfl rfl rfl (by decide) 0 cs.length rfl rfl (by omega) (by omega) (by unfold maxLen; omega) fun nb w H => ?_
  (repeat first | refine go ?_ | ((try conv => whnf); (first | (refine St_gate ?_; refine xS ?_) | (refine StN_gate ?_; refine xN ?_)); clear H; intro w H))
  refine Loop_intro (fun q : Nat × Option Addr × Nat => [(17, .int .i64 (q.1 : Int)), (5, .slice q.2.1 q.1 q.2.2)]) (fun q w => q.1 ≤ cs.length ∧ Sep w0 w (ownR q.2.1 q.1 q.2.2 29 1 ((cs.take q.1).map fun y => lV (0 - y)) ::
    cellsR b 61 [.pointer (some ⟨r.eb, 0, none⟩), .pointer (some ⟨r.rb, 0, none⟩), .pointer (some ⟨r.pb, 0, none⟩), .int .u64 x.seed, .slice r.pa x.ph.length r.pk, .slice r.la x.lr.length r.lk, .int .i64 x.bump, .bool x.broken, .slice r.ma x.model.length r.mm, .slice ca cs.length cc, .slice r.ga x.lg r.gk, .int .i64 (x.conf : Int)] ::
    engR r.eb x.s :: rkR r.rb x.K :: paceR r.pb x.pc :: phP x r :: lrP x r :: moP x r :: coP x r :: lgP x r :: ownR ca cs.length cc 29 1 (cs.map lV) :: l)) (fun q => cs.length - q.1) (0, some ⟨nb, 0, none⟩, cs.length) ⟨rfl, rfl, trivial⟩ ⟨Nat.zero_le _, H⟩ ?_
  clear H
  rintro ⟨i, na, nc⟩ w ⟨hi, H⟩
  simp only [] at hi H ⊢
  refine Br_dec (fun k1 => ?_) (fun k1 => ?_)
  · have hlt : i < cs.length := by omega
    have hsrc := H.srcM (a := ca) (n := cs.length) (cap := cc) (el := 29) (sz := 1) (xs := cs.map lV) mm
    obtain ⟨yb, yo, hca⟩ := hsrc.addr (by rw [List.length_map]; omega)
    have hyi : cs[i]? = some cs[i] := List.getElem?_eq_getElem hlt
    have hvy := hv _ (List.getElem_mem hlt)
    have htk : (cs.take (i + 1)).map (fun y => lV (0 - y)) = (cs.take i).map (fun y => lV (0 - y)) ++ [lV (0 - cs[i])] := by
      rw [List.take_add_one, hyi, List.map_append]; rfl
    generalize cs[i] = y at *
    rw [hca] at hsrc ⊢
    refine Ix_in i rfl hlt ?_
    refine Ld_src (j := i) hsrc (v := lV y) (by rw [List.getElem?_map, hyi]; rfl) ?_
    clear hsrc
    rw [← hca]
    (repeat first | refine go ?_ | ((try conv => whnf); (first | (refine St_gate ?_; refine xS ?_) | (refine StN_gate ?_; refine xN ?_)); clear H; intro w H))
    (refine Nw_sep H ?_; clear H; intro mb w H; (try simp only [Value.cells, List.toList_toArray, List.append_nil, List.cons_append, List.nil_append] at H))
    (repeat first | refine go ?_ | ((try conv => whnf); (first | (refine St_gate ?_; refine xS ?_) | (refine StN_gate ?_; refine xN ?_)); clear H; intro w H))
    (refine DoN_gate ?_; refine append_one tok H rfl rfl rfl rfl rfl (by decide) mm (m := 1) rfl (by simp [oneCell]) (by omega) (by unfold maxLen; omega) ?_; clear H; intro na' nc' w H; replace H := H _ (by repeat first | exact Upd.head | apply Upd.tail))
    (repeat first | refine go ?_ | ((try conv => whnf); (first | (refine St_gate ?_; refine xS ?_) | (refine StN_gate ?_; refine xN ?_)); clear H; intro w H))
    refine ⟨(i + 1, na', nc'), ⟨congrArg some (vint (by simp)), rfl, trivial⟩, ⟨by omega, ?_⟩, by simp; omega⟩
    simp only []
    rw [htk]
    exact H
  · obtain rfl : i = cs.length := by omega
    replace H := H.tp 1
    (repeat first | refine go ?_ | ((try conv => whnf); (first | (refine St_gate ?_; refine xS ?_) | (refine StN_gate ?_; refine xN ?_)); clear H; intro w H))
    (refine Nw_sep H ?_; clear H; intro mb w H; (try simp only [Value.cells, List.toList_toArray, List.append_nil, List.cons_append, List.nil_append] at H))
    (repeat first | refine go ?_ | ((try conv => whnf); (first | (refine St_gate ?_; refine xS ?_) | (refine StN_gate ?_; refine xN ?_)); clear H; intro w H))
    (refine DoN_gate ?_; refine append_one tok H rfl rfl rfl rfl rfl (by decide) mm (m := 1) rfl (by simp [oneCell]) (by omega) (by unfold maxLen; omega) ?_; clear H; intro ga' gk' w H; replace H := H _ (by repeat first | exact Upd.head | apply Upd.tail))
    (repeat first | refine go ?_ | ((try conv => whnf); (first | (refine St_gate ?_; refine xS ?_) | (refine StN_gate ?_; refine xN ?_)); clear H; intro w H))
    replace H := H.drop 1 rfl rfl
    replace H := H.drop 7 rfl rfl
    replace H := H.tp 8
    replace H := H.tp 7
    replace H := H.tp 7
    replace H := H.tp 7
    replace H := H.tp 7
    replace H := H.tp 7
    replace H := H.tp 7
    replace H := H.tp 7
    exact Ret_in ⟨rfl, solClose (x := { x with core := cs, lg := x.lg + 1 }) (r := { r with ca := ca, ck := cc, ga := ga', gk := gk', gs := _ }) H⟩

end
end Go.Proofs.YtcibiidebknkgaaGreat
/-! A solver: what is decided. -/
set_option linter.unusedVariables false
set_option linter.unusedSimpArgs false
namespace Go.Proofs.YtcibiidebknkgaaGreat
open Go Go.Vc Go.Watch Go.Lit
open Go.Trail (Ent value find upto okLit litsV)
set_option maxHeartbeats 4000000
set_option maxRecDepth 100000
theorem many_set : ∀ {K : List Entry} {i : Nat} {e : Entry} (z : Int), K[i]? = some e → e.2 = true → many (K.set i (z, false)) + 1 = many K
  | [], i, e, z, h, _ => by simp at h
  | k :: K, 0, e, z, h, he => by
    simp at h; subst h
    unfold many
    rw [List.set_cons_zero, List.filter_cons, List.filter_cons, he]; rfl
  | k :: K, i + 1, e, z, h, he => by
    have ih := many_set (K := K) (i := i) (e := e) z (by simpa using h) he
    unfold many at ih ⊢
    rw [List.set_cons_succ, List.filter_cons, List.filter_cons]
    cases k.2 <;> simp <;> omega
theorem wts_off {K : List Entry} {i v : Nat} {z : Int} (hi : i < K.length) : wts (K.set i (z, false)) v = if v = i then false else wts K v := by
  unfold wts
  rw [List.getD_eq_getElem?_getD, List.getElem?_set, List.getD_eq_getElem?_getD]
  by_cases h : i = v
  · subst h
    rw [if_pos rfl, if_pos hi, if_pos rfl]; rfl
  · rw [if_neg h, if_neg (Ne.symm h)]
section
variable {w0 w : World} {l : List Res} {b : Nat} {x : Sol} {n k m : Nat} {L : List (List Int)} {cs : List Int} {ca : Option Addr} {cc : Nat}
/-- A literal that may be decided. -/
structure Nxt (x : Sol) (n : Nat) (K : List Entry) (y : Int) : Prop where
  kl : K.length = n + 1
  wt : ∀ v : Nat, 1 ≤ v → v ≤ n → wts K v = false → find x.s.E (v : Int) ≠ none ∨ (v : Int) = y ∨ (v : Int) = -y
theorem sNext (H : Sep w0 w (solR b x :: l)) (h : x.Ok n L k m) : Does Tryz.prog 53 #[.pointer (some ⟨b, 0, none⟩), .slice none 0 0] w fun v w' =>
    ∃ K y, v = .tuple #[lV y, .bool false] ∧ Nxt x n K y ∧ ((y = 0 ∧ ∀ v : Nat, 1 ≤ v → v ≤ n → find x.s.E (v : Int) ≠ none) ∨ (okLit y = true ∧ Trail.var y ≤ n ∧ value x.s.E y = 0)) ∧ Sep w0 w' (solR b { x with K := K } :: l) := by
  refine Does_intro tok (Tryz.call53 _ _) Tryz.func53 rfl (by rfl) ?_
  have hkl := h.kl
  have hpl := h.pl
  have hn := h.few
  have hg := h.sv.good
  have hsn := h.sv.n
  (repeat first | refine go ?_ | ((try conv => whnf); (first | (refine St_gate ?_; refine xS ?_) | (refine StN_gate ?_; refine xN ?_)); clear H; intro w H))
  refine Loop_intro (fun _ : Unit => [(13, .int .i64 0)]) (fun _ w' => w = w') (fun _ => 0) () ⟨rfl, trivial⟩ rfl ?_
  rintro _ _ rfl
  refine Br_dec_no (by omega) ?_
  (repeat first | refine go ?_ | ((try conv => whnf); (first | (refine St_gate ?_; refine xS ?_) | (refine StN_gate ?_; refine xN ?_)); clear H; intro w H))
  refine Loop_intro (fun _ : List Entry => []) (fun K w => (K.length = n + 1 ∧ ∀ v : Nat, 1 ≤ v → v ≤ n → wts K v = false → find x.s.E (v : Int) ≠ none) ∧ Sep w0 w (solR b { x with K := K } :: l)) (fun K => many K) x.K trivial ⟨⟨hkl, h.wt⟩, H⟩ ?_
  clear H
  rintro K w ⟨⟨hkl, hwt⟩, H⟩
  obtain ⟨r, H⟩ := solOpen H
  (repeat first | refine go ?_ | ((try conv => whnf); (first | (refine St_gate ?_; refine xS ?_) | (refine StN_gate ?_; refine xN ?_)); clear H; intro w H))
  refine Call_of (kPop H mm) ?_
  clear H
  rintro _ w ⟨rfl, H⟩
  replace H := H _ (by repeat first | exact Upd.head | apply Upd.tail)
  rcases bestTo_spec K K.length with ⟨hb0, hno⟩ | ⟨hb0, hbl, hbw, _⟩
  · have hb : best K = 0 := hb0
    have hpe : popE K = K := by unfold popE; rw [if_pos hb]
    rw [hpe] at H
    rw [hb]
    (repeat first | refine go ?_ | ((try conv => whnf); (first | (refine St_gate ?_; refine xS ?_) | (refine StN_gate ?_; refine xN ?_)); clear H; intro w H))
    refine Ret_in ⟨K, 0, rfl, ⟨hkl, fun v h1 h2 h3 => .inl (hwt v h1 h2 h3)⟩, .inl ⟨rfl, fun v h1 h2 => hwt v h1 h2 (hno v (by omega) (by omega))⟩, solClose (x := { x with K := K }) H⟩
  · obtain ⟨v, hv⟩ : ∃ v, best K = v := ⟨_, rfl⟩
    have hpe : popE K = K.set v (sco K v, false) := by unfold popE; rw [hv, if_neg (by unfold best at hv; omega)]
    have hv' : bestTo K K.length = v := hv
    rw [hv'] at hb0 hbl hbw
    rw [hpe] at H
    rw [hv]
    have hvo : okLit (v : Int) = true := Trail.okLit_iff.2 ⟨by omega, by omega, by omega⟩
    have hvv : Trail.var (v : Int) = v := by rw [Trail.var_ok hvo]; omega
    (repeat first | refine go ?_ | ((try conv => whnf); (first | (refine St_gate ?_; refine xS ?_) | (refine StN_gate ?_; refine xN ?_)); clear H; intro w H))
    replace H := H.tp 1
    obtain ⟨q, hq, H⟩ := engOpen H
    (repeat first | refine go ?_ | ((try conv => whnf); (first | (refine St_gate ?_; refine xS ?_) | (refine StN_gate ?_; refine xN ?_)); clear H; intro w H))
    refine Call_of (sTrailValue H mm) ?_
    rintro _ _ ⟨rfl, rfl⟩
    replace H := engClose hq H
    replace H := H.tp 1
    have hwt2 : ∀ u : Nat, 1 ≤ u → u ≤ n → wts (K.set v (sco K v, false)) u = false → u = v ∨ find x.s.E (u : Int) ≠ none := by
      intro u h1 h2 h3
      by_cases e : u = v
      · exact .inl e
      · rw [wts_off hbl, if_neg e] at h3
        exact .inr (hwt u h1 h2 h3)
    have hsl : (K.set v (sco K v, false)).length = n + 1 := by rw [List.length_set]; exact hkl
    by_cases hz : value x.s.E (v : Int) = 0
    · (repeat first | refine go ?_ | ((try conv => whnf); (first | (refine St_gate ?_; refine xS ?_) | (refine StN_gate ?_; refine xN ?_)); clear H; intro w H))
      have hsrc := H.srcM (a := r.pa) (n := x.ph.length) (cap := r.pk) (el := 4) (sz := 1) (xs := x.ph.map boV) mm
      obtain ⟨yb, yo, hpa⟩ := hsrc.addr (by rw [List.length_map]; omega)
      have hvp : x.ph[v]? = some (x.ph[v]'(by omega)) := List.getElem?_eq_getElem (by omega)
      generalize x.ph[v]'(by omega) = p at hvp
      rw [hpa] at hsrc ⊢
      refine Ix_in v rfl (by show v < x.ph.length; omega) ?_
      refine Ld_src (j := v) hsrc (v := .bool p) (by rw [List.getElem?_map, hvp]; rfl) ?_
      clear hsrc
      cases p with
      | true =>
        (repeat first | refine go ?_ | ((try conv => whnf); (first | (refine St_gate ?_; refine xS ?_) | (refine StN_gate ?_; refine xN ?_)); clear H; intro w H))
        exact Ret_in ⟨_, v, rfl, ⟨hsl, fun u h1 h2 h3 => (hwt2 u h1 h2 h3).elim (fun e => .inr (.inl (by rw [e]))) .inl⟩, .inr ⟨hvo, by rw [hvv]; omega, hz⟩, solClose (x := { x with K := K.set v (sco K v, false) }) H⟩
      | false =>
        (repeat first | refine go ?_ | ((try conv => whnf); (first | (refine St_gate ?_; refine xS ?_) | (refine StN_gate ?_; refine xN ?_)); clear H; intro w H))
        rw [Int.zero_sub]
        refine Ret_in ⟨_, -(v : Int), rfl, ⟨hsl, fun u h1 h2 h3 => (hwt2 u h1 h2 h3).elim (fun e => .inr (.inr (by rw [e]; omega))) .inl⟩, .inr ⟨by rw [Trail.okLit_neg]; exact hvo, by rw [Trail.var_neg, hvv]; omega, ?_⟩, solClose (x := { x with K := K.set v (sco K v, false) }) H⟩
        rcases val_cases x.s.E (-(v : Int)) with h1 | h1 | h1
        · have := (hg.valn hvo).2 ((hg.val1 (by rw [Trail.okLit_neg]; exact hvo)).1 h1); omega
        · exact h1
        · have := (hg.val1 hvo).2 (by have := (hg.valn (by rw [Trail.okLit_neg]; exact hvo)).1 h1; rwa [Int.neg_neg] at this); omega
    · have hfn : find x.s.E (v : Int) ≠ none := fun hf => hz (Trail.value_none hg.inv hvo (by rw [hvv]; exact hf))
      have hKv : K[v]? = some (K[v]'hbl) := List.getElem?_eq_getElem hbl
      have hKw : (K[v]'hbl).2 = true := by
        unfold wts at hbw
        rw [List.getD_eq_getElem?_getD, hKv] at hbw
        exact hbw
      have hmany := many_set (sco K v) hKv hKw
      (repeat first | refine go ?_ | ((try conv => whnf); (first | (refine St_gate ?_; refine xS ?_) | (refine StN_gate ?_; refine xN ?_)); clear H; intro w H))
      exact ⟨K.set v (sco K v, false), trivial, ⟨⟨hsl, fun u h1 h2 h3 => (hwt2 u h1 h2 h3).elim (fun e => e ▸ hfn) id⟩, solClose (x := { x with K := K.set v (sco K v, false) }) H⟩, by omega⟩
end
end Go.Proofs.YtcibiidebknkgaaGreat
