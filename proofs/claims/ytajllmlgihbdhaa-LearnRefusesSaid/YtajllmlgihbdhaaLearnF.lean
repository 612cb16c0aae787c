/- Helpers of the laws of learning: the greatest level, what is needless, an engine of a formula. -/
import Derived.Test.YtajllmlgihbdhaaLearnE
set_option linter.unusedVariables false
set_option linter.unusedSimpArgs false
namespace Go.Watch
open Go.Trail
section
variable {S : Nat → Prop} {s : St} {E : List Ent}
/-- How many have a level. -/
def cntE (E : List Ent) (ys : List Int) (top : Int) : Nat := (ys.filter fun y => decide (lvE E (var y) = top)).length
theorem cnt_next {ys : List Int} {i : Nat} {y : Int} (h : ys[i]? = some y) (top : Int) : cntE E (ys.take (i + 1)) top = cntE E (ys.take i) top + if lvE E (var y) = top then 1 else 0 := by
  unfold cntE
  rw [List.take_add_one, h, List.filter_append, List.length_append]
  congr 1
  by_cases h1 : lvE E (var y) = top <;> simp [h1]
theorem cnt_none {ys : List Int} {top : Int} (h : ∀ y ∈ ys, lvE E (var y) < top) : cntE E ys top = 0 := by
  unfold cntE
  rw [List.length_eq_zero_iff, List.filter_eq_nil_iff]
  intro y hy
  have := h y hy
  simp; omega
theorem cnt_le (ys : List Int) (top : Int) : cntE E ys top ≤ ys.length := List.length_filter_le ..
theorem Good.lv_small (hg : Good S s) (v : Int) : -1 ≤ lvE s.E v ∧ lvE s.E v ≤ s.D := by
  rcases hg.lv_range v with ⟨h, _⟩ | ⟨e, he, _, h, _⟩
  · omega
  · have := hg.levs e he; omega

theorem conf_holds {C : List (List Int)} {c : List Int} {T : Int → Prop} (h : Conf (GamL C) (fun z => ∃ y ∈ c, z = -y)) (hT : ∀ k ∈ C, ∃ x ∈ k, T x) (hn : ∀ x, T x → ¬ T (-x)) (hc : ∀ y ∈ c, ¬ T y → T (-y)) : ∃ y ∈ c, T y := by
  apply Classical.byContradiction
  intro hno
  have hall : ∀ y ∈ c, T (-y) := fun y hy => hc y hy fun h => hno ⟨y, hy, h⟩
  have hfo : ∀ x, Fo (GamL C) (fun z => ∃ y ∈ c, z = -y) x → T x := by
    intro x hx
    induction hx with
    | dec h => obtain ⟨y, hy, rfl⟩ := h; exact hall y hy
    | @cls k x hk hx _ ih =>
      obtain ⟨j, hj, _, hm⟩ := hk
      obtain ⟨z, hz, hzT⟩ := hT j hj
      by_cases hzx : z = x
      · exact hzx ▸ hzT
      · exact (hn z hzT (ih z ((hm z).2 hz) hzx)).elim
  obtain ⟨k, ⟨j, hj, _, hm⟩, hf⟩ := h
  obtain ⟨z, hz, hzT⟩ := hT j hj
  exact hn z hzT (hfo _ (hf z ((hm z).2 hz)))
theorem no_conf_nil : ¬ Conf (GamL []) (fun z => ∃ y ∈ ([] : List Int), z = -y) := by
  rintro ⟨c, ⟨k, hk, _⟩, _⟩
  cases hk
end
end Go.Watch
namespace Go.Proofs.Ytajllmlgihbdhaa
open Go Go.Vc Go.Watch Go.Lit
open Go.Trail (Ent value find upto okLit litsV)
set_option maxHeartbeats 4000000
set_option maxRecDepth 100000
section
variable {w0 w : World} {l : List Res} {eb : Nat} {s : St} {n k m : Nat} {C : List (List Int)} {S : Nat → Prop}

theorem qLevel (H : Sep w0 w (engR eb s :: l)) (hg : Watch.Good S s) {ys : List Int} {a : Option Addr} {c : Nat} (hs : ∀ {w' : World} {l' : List Res}, Sep w0 w' (l' ++ l) → Src w' a ys.length 1 (ys.map lV)) (hm : ys.length ≤ 9000000000000000000) :
    Does Try.prog 52 #[.pointer (some ⟨eb, 0, none⟩), .slice a ys.length c] w fun v w' => ∃ top, v = .tuple #[.int .i64 top, .int .i64 (cntE s.E ys top)] ∧ TopI s.E ys top ∧ Sep w0 w' (engR eb s :: l) := by
  have hdl := hg.deepLe
  refine Does_intro tok (Try.call52 _ _) Try.func52 rfl (by rfl) ?_
  (repeat first | refine go ?_ | ((try conv => whnf); (first | (refine St_gate ?_; refine xS ?_) | (refine StN_gate ?_; refine xN ?_)); clear H; intro w H))
  refine Loop_intro (fun q : Nat × Int => [(13, .int .i64 (q.1 : Int)), (6, .int .i64 q.2), (7, .int .i64 (cntE s.E (ys.take q.1) q.2))]) (fun q w => (q.1 ≤ ys.length ∧ TopI s.E (ys.take q.1) q.2 ∧ q.2 ≤ 1000000) ∧ Sep w0 w (engR eb s :: l)) (fun q => ys.length - q.1)
    (0, 0) ⟨rfl, rfl, rfl, trivial⟩ ⟨⟨Nat.zero_le _, TopI.nil, by decide⟩, H⟩ ?_
  clear H
  rintro ⟨i, top⟩ w ⟨⟨hi, ht, htm⟩, H⟩
  simp only [] at hi ht htm H ⊢
  refine Br_dec (fun k1 => ?_) (fun k1 => ?_)
  · have hlt : i < ys.length := by omega
    have hsrc : Src w a ys.length 1 (ys.map lV) := hs (l' := [_]) H
    obtain ⟨yb, yo, rfl⟩ := hsrc.addr (by rw [List.length_map]; omega)
    have hyi : ys[i]? = some ys[i] := List.getElem?_eq_getElem hlt
    have hnc := cnt_next (E := s.E) hyi
    have hcl := cnt_le (E := s.E) (ys.take i) top
    rw [List.length_take] at hcl
    have hnx : ys.take (i + 1) = ys.take i ++ [ys[i]] := by rw [List.take_add_one, hyi]; rfl
    generalize ys[i] = y at *
    have hlv := hg.lv_small (Trail.var y)
    have hnext := ht.next (y := y)
    rw [← hnx] at hnext
    have ht0 := ht.b0
    refine Ix_in i rfl hlt ?_
    refine Ld_src (j := i) hsrc (v := lV y) (by rw [List.getElem?_map, hyi]; rfl) ?_
    clear hsrc
    (repeat first | refine go ?_ | ((try conv => whnf); (first | (refine St_gate ?_; refine xS ?_) | (refine StN_gate ?_; refine xN ?_)); clear H; intro w H))
    refine Draw_intro mixed [0, 1, 2, 3, 4, 5, 6, 7] (by decide +kernel) (fun w _ fd => ?_); replace H := H.fr fd; clear fd
    obtain ⟨r, hr, H⟩ := engOpen H
    (repeat first | refine go ?_ | ((try conv => whnf); (first | (refine St_gate ?_; refine xS ?_) | (refine StN_gate ?_; refine xN ?_)); clear H; intro w H))
    refine Call_of (rVar (x := y) _) ?_
    rintro _ _ ⟨rfl, rfl⟩
    rw [var_var]
    (try conv => whnf)
    (repeat (refine Kept_gate ?_; refine xK ?_))
    (try conv => whnf)
    refine Call_of (sTrailLevel H mm) ?_
    clear H
    rintro _ w ⟨rfl, H⟩
    rw [show (knownOf s.E (Trail.var y : Int)).2.1 = lvE s.E (Trail.var y) from rfl]
    (try conv => whnf)
    (repeat (refine Kept_gate ?_; refine xK ?_))
    replace H := engClose hr H
    rcases Int.lt_trichotomy (lvE s.E (Trail.var y)) top with h1 | h1 | h1
    · rw [Int.max_eq_left (by omega)] at hnext
      have e := hnc top
      rw [if_neg (by omega)] at e
      (repeat first | refine go ?_ | ((try conv => whnf); (first | (refine St_gate ?_; refine xS ?_) | (refine StN_gate ?_; refine xN ?_)); clear H; intro w H))
      exact ⟨(i + 1, top), ⟨congrArg some (vint (by simp)), rfl, congrArg some (vint (by simp only []; omega)), trivial⟩, ⟨⟨by omega, hnext, htm⟩, H⟩, by simp; omega⟩
    · rw [Int.max_eq_left (by omega)] at hnext
      have e := hnc top
      rw [if_pos h1] at e
      (repeat first | refine go ?_ | ((try conv => whnf); (first | (refine St_gate ?_; refine xS ?_) | (refine StN_gate ?_; refine xN ?_)); clear H; intro w H))
      exact ⟨(i + 1, top), ⟨congrArg some (vint (by simp)), rfl, congrArg some (vint (by simp only []; omega)), trivial⟩, ⟨⟨by omega, hnext, htm⟩, H⟩, by simp; omega⟩
    · rw [Int.max_eq_right (by omega)] at hnext
      have e := hnc (lvE s.E (Trail.var y))
      rw [if_pos rfl, cnt_none (ys := ys.take i) fun z hz => by have := ht.le z hz; omega] at e
      (repeat first | refine go ?_ | ((try conv => whnf); (first | (refine St_gate ?_; refine xS ?_) | (refine StN_gate ?_; refine xN ?_)); clear H; intro w H))
      exact ⟨(i + 1, lvE s.E (Trail.var y)), ⟨congrArg some (vint (by simp)), rfl, congrArg some (vint (by simp only []; omega)), trivial⟩, ⟨⟨by omega, hnext, by simp only []; omega⟩, H⟩, by simp; omega⟩
  · obtain rfl : i = ys.length := by omega
    rw [List.take_length] at ht
    (repeat first | refine go ?_ | ((try conv => whnf); (first | (refine St_gate ?_; refine xS ?_) | (refine StN_gate ?_; refine xN ?_)); clear H; intro w H))
    refine Ret_in ⟨top, ?_, ht, H⟩
    rw [List.take_length]; rfl

/-! The student: an engine and its clauses -/
def rowR : Nat → Fl → Res := fun _ x => ownR x.1 x.2.2.length x.2.1 27 1 (x.2.2.map lV)
def stuL (pb eb : Nat) (sa : Option Addr) (sc : Nat) (R : List Fl) (l : List Res) : List Res :=
  cellsR pb 38 [.pointer (some ⟨eb, 0, none⟩), .slice sa R.length sc] :: ownR sa R.length sc 28 1 (R.map flV) :: bigR rowR R :: l
def clsL (R : List Fl) : List (List Int) := R.map fun x => x.2.2
theorem Sep.clauses {sa : Option Addr} {sc : Nat} {R : List Fl} (H : Sep w0 w l) (hm : ownR sa R.length sc 28 1 (R.map flV) ∈ l) (hb : bigR rowR R ∈ l) : CSrc w sa (clsL R) R := by
  obtain ⟨r, hp⟩ := mem_cut hb
  have hx : ∀ x ∈ R, Vc.Own w x.1 x.2.2.length x.2.1 27 1 (x.2.2.map lV) := by
    intro x hx
    obtain ⟨i, hi⟩ := List.getElem?_of_mem hx
    have h1 := (H.perm hp).pick hi
    exact h1.ownM (a := x.1) (n := x.2.2.length) (cap := x.2.1) (.head _)
  refine ⟨⟨rfl, ?_, fun x h => ⟨(hx x h).src, ?_⟩⟩, fun x h => ⟨(hx x h).2.1, (hx x h).2.2.1⟩⟩
  · have := H.srcM hm
    unfold clsL
    rw [List.length_map]
    exact this
  · have h1 := (hx x h).2.1
    have h2 := (hx x h).2.2.1
    unfold maxLen at h2
    omega

/-! What is needless, as the law asks it -/
theorem seen_has {T R : List Int} {y : Int} (ho : ∀ x ∈ T ++ R, okLit x = true) (hy : okLit y = true) : SeenB T R (Trail.var y) ↔ y ∈ T ++ R ∨ -y ∈ T ++ R := by
  constructor
  · rintro ⟨x, hx, hv⟩
    rw [Trail.var_ok (ho x hx), Trail.var_ok hy] at hv
    by_cases h : x = y
    · exact .inl (h ▸ hx)
    · have : x = -y := by omega
      exact .inr (this ▸ hx)
  · rintro (h | h)
    · exact ⟨y, h, rfl⟩
    · exact ⟨-y, h, Trail.var_neg⟩
theorem need_law {s : St} {T R out : List Int} {id : Nat} {c : Cls} {x : Int} (hr : reE s.E (Trail.var x) = (id : Int)) (hc : s.C[id]? = some c) (hm : ∀ y, y ∈ out ↔ y ∈ c.lits) (ho : ∀ x ∈ T ++ R, okLit x = true) (hy : ∀ y ∈ out, okLit y = true) :
    needB s T R x = true ↔ ∀ y ∈ out, (Trail.var y : Int) = Trail.var x ∨ lvE s.E (Trail.var y) ≤ 0 ∨ y ∈ T ++ R ∨ -y ∈ T ++ R := by
  unfold needB
  rw [hr, decide_eq_true (Int.natCast_nonneg id), Int.toNat_natCast, List.getD_eq_getElem?_getD, hc]
  simp only [Option.getD_some, Bool.true_and, List.all_eq_true, Bool.or_eq_true, decide_eq_true_eq]
  constructor
  · intro h y hyo
    rcases h y ((hm y).1 hyo) with (h | h) | h
    · exact .inl (by omega)
    · exact .inr (.inr ((seen_has ho (hy y hyo)).1 h))
    · exact .inr (.inl h)
  · intro h y hyc
    have hyo := (hm y).2 hyc
    rcases h y hyo with h | h | h
    · exact .inl (.inl (by omega))
    · exact .inr h
    · exact .inl (.inr ((seen_has ho (hy y hyo)).2 h))

theorem qNeedless {pb : Nat} {v2 : Value} (H : Sep w0 w (engR eb s :: cellsR pb 38 [.pointer (some ⟨eb, 0, none⟩), v2] :: l)) (hg : Watch.Good S s) (hlits : ∀ c ∈ s.C, c.lits.length ≤ 1000000) (hC : s.C.length ≤ 1048576)
    {x0 : Int} {R : List Int} {a : Option Addr} {cc : Nat} (hs : ∀ {w' : World} {l' : List Res}, Sep w0 w' (l' ++ l) → Src w' a (x0 :: R).length 1 ((x0 :: R).map lV)) (hsm : (x0 :: R).length ≤ 9000000000000000000) (ho : ∀ y ∈ x0 :: R, okLit y = true)
    {x : Int} (hx : tru s.E (-x)) : Does Try.prog 53 #[.pointer (some ⟨pb, 0, none⟩), .slice a (x0 :: R).length cc, lV x] w fun v w' => v = .bool (needB s [x0] R x) ∧ Sep w0 w' (engR eb s :: cellsR pb 38 [.pointer (some ⟨eb, 0, none⟩), v2] :: l) := by
  refine Does_intro tok (Try.call53 _ _) Try.func53 rfl (by rfl) ?_
  obtain ⟨e, he, hel⟩ := hx
  obtain ⟨i, hi⟩ := List.getElem?_of_mem he
  have hre := (hg.lv_neg he hel).2
  have hkn : (knownOf s.E (Trail.var x : Int)).2.2 = reE s.E (Trail.var x) := rfl
  (repeat first | refine go ?_ | ((try conv => whnf); (first | (refine St_gate ?_; refine xS ?_) | (refine StN_gate ?_; refine xN ?_)); clear H; intro w H))
  refine Call_of (rVar (x := x) _) ?_
  rintro _ _ ⟨rfl, rfl⟩
  rw [var_var]
  (repeat first | refine go ?_ | ((try conv => whnf); (first | (refine St_gate ?_; refine xS ?_) | (refine StN_gate ?_; refine xN ?_)); clear H; intro w H))
  refine Draw_intro mixed [0, 1, 2, 3, 4, 5, 6, 7, 8, 9, 10, 11, 12, 13, 14, 15, 16, 17, 18] (by decide +kernel) (fun w _ fd => ?_); replace H := H.fr fd; clear fd
  (repeat first | refine go ?_ | ((try conv => whnf); (first | (refine St_gate ?_; refine xS ?_) | (refine StN_gate ?_; refine xN ?_)); clear H; intro w H))
  obtain ⟨r, hr, H⟩ := engOpen H
  (repeat first | refine go ?_ | ((try conv => whnf); (first | (refine St_gate ?_; refine xS ?_) | (refine StN_gate ?_; refine xN ?_)); clear H; intro w H))
  (try conv => whnf)
  refine Call_of (sTrailReason H mm) ?_
  clear H
  rintro _ w ⟨rfl, H⟩
  rw [hkn, hre]
  (try conv => whnf)
  (repeat (refine Kept_gate ?_; refine xK ?_))
  (try conv => whnf)
  replace H := engClose hr H
  rcases hg.why i e hi with hr1 | ⟨id, c, hr1, hr2, hr3, _⟩
  · rw [hr1]
    have hno : needB s [x0] R x = false := by
      unfold needB
      rw [hre, hr1]; rfl
    refine Call_of (eClause_no H (id := -1) (.inl (by decide)) hC) ?_
    clear H
    rintro _ w ⟨rfl, H⟩
    (try conv => whnf)
    (repeat (refine Kept_gate ?_; refine xK ?_))
    (repeat first | refine go ?_ | ((try conv => whnf); (first | (refine St_gate ?_; refine xS ?_) | (refine StN_gate ?_; refine xN ?_)); clear H; intro w H))
    exact Ret_in ⟨by rw [hno]; rfl, H⟩
  · rw [hr1]
    rw [hr1] at hre
    have hcl := hg.cl c (List.mem_of_getElem? hr2)
    have hcm := hlits c (List.mem_of_getElem? hr2)
    refine Call_of (eClause H hr2 hr3 (fun x hx => by rw [one_ok]; exact (hcl.1 x hx).1) (by omega) hC) ?_
    clear H
    rintro _ w ⟨ca, k2, out, rfl, hco, hln, H⟩
    have hoo : ∀ y ∈ out, okLit y = true := fun y hy => (hcl.1 y ((hco.mem y).1 hy)).1
    have hneed := need_law (T := [x0]) (R := R) hre hr2 hco.mem ho hoo
    (try conv => whnf)
    (repeat (refine Kept_gate ?_; refine xK ?_))
    replace H := H.tp 1
    (repeat first | refine go ?_ | ((try conv => whnf); (first | (refine St_gate ?_; refine xS ?_) | (refine StN_gate ?_; refine xN ?_)); clear H; intro w H))
    refine Loop_intro (fun i : Nat => [(35, .int .i64 (i : Int))]) (fun i w => (i ≤ out.length ∧ ∀ y ∈ out.take i, (Trail.var y : Int) = Trail.var x ∨ lvE s.E (Trail.var y) ≤ 0 ∨ y ∈ [x0] ++ R ∨ -y ∈ [x0] ++ R) ∧
        Sep w0 w (engR eb s :: ownR ca out.length k2 27 1 (out.map lV) :: cellsR pb 38 [.pointer (some ⟨eb, 0, none⟩), v2] :: l)) (fun i => out.length - i) 0 ⟨rfl, trivial⟩ ⟨⟨Nat.zero_le _, by simp⟩, H⟩ ?_
    clear H
    rintro i w ⟨⟨hi, hfar⟩, H⟩
    refine Br_dec (fun k1 => ?_) (fun k1 => ?_)
    · have hlt : i < out.length := by omega
      have hsrc := H.srcM (a := ca) (n := out.length) (cap := k2) (el := 27) (sz := 1) (xs := out.map lV) mm
      obtain ⟨yb, yo, rfl⟩ := hsrc.addr (by rw [List.length_map]; omega)
      have hyi : out[i]? = some out[i] := List.getElem?_eq_getElem hlt
      have hym := List.getElem_mem hlt
      have hnx : out.take (i + 1) = out.take i ++ [out[i]] := by rw [List.take_add_one, hyi]; rfl
      generalize out[i] = y at *
      have hyo := hoo y hym
      have hnext : ((Trail.var y : Int) = Trail.var x ∨ lvE s.E (Trail.var y) ≤ 0 ∨ y ∈ [x0] ++ R ∨ -y ∈ [x0] ++ R) → ∀ z ∈ out.take (i + 1), (Trail.var z : Int) = Trail.var x ∨ lvE s.E (Trail.var z) ≤ 0 ∨ z ∈ [x0] ++ R ∨ -z ∈ [x0] ++ R := by
        intro h z hz
        rw [hnx, List.mem_append, List.mem_singleton] at hz
        rcases hz with hz | rfl
        · exact hfar z hz
        · exact h
      refine Ix_in i rfl hlt ?_
      refine Ld_src (j := i) hsrc (v := lV y) (by rw [List.getElem?_map, hyi]; rfl) ?_
      clear hsrc
      (repeat first | refine go ?_ | ((try conv => whnf); (first | (refine St_gate ?_; refine xS ?_) | (refine StN_gate ?_; refine xN ?_)); clear H; intro w H))
      refine Draw_intro mixed [0, 2, 1, 3, 4, 5, 6, 7, 8, 9, 10, 11, 12, 13, 14, 15, 16, 17, 18, 19, 20, 21, 22, 23, 24, 25, 26, 27, 28, 29] (by decide +kernel) (fun w _ fd => ?_); replace H := H.fr fd; clear fd
      (repeat first | refine go ?_ | ((try conv => whnf); (first | (refine St_gate ?_; refine xS ?_) | (refine StN_gate ?_; refine xN ?_)); clear H; intro w H))
      refine Call_of (rVar (x := y) _) ?_
      rintro _ _ ⟨rfl, rfl⟩
      rw [var_var]
      (try conv => whnf)
      (repeat (refine Kept_gate ?_; refine xK ?_))
      by_cases h1 : (Trail.var y : Int) = Trail.var x
      · (repeat first | refine go ?_ | ((try conv => whnf); (first | (refine St_gate ?_; refine xS ?_) | (refine StN_gate ?_; refine xN ?_)); clear H; intro w H))
        exact ⟨i + 1, ⟨congrArg some (vint (by simp)), trivial⟩, ⟨⟨by omega, hnext (.inl h1)⟩, H⟩, by omega⟩
      (repeat first | refine go ?_ | ((try conv => whnf); (first | (refine St_gate ?_; refine xS ?_) | (refine StN_gate ?_; refine xN ?_)); clear H; intro w H))
      obtain ⟨r, hr, H⟩ := engOpen H
      (repeat first | refine go ?_ | ((try conv => whnf); (first | (refine St_gate ?_; refine xS ?_) | (refine StN_gate ?_; refine xN ?_)); clear H; intro w H))
      refine Call_of (rVar (x := y) _) ?_
      rintro _ _ ⟨rfl, rfl⟩
      rw [var_var]
      (try conv => whnf)
      (repeat (refine Kept_gate ?_; refine xK ?_))
      (repeat first | refine go ?_ | ((try conv => whnf); (first | (refine St_gate ?_; refine xS ?_) | (refine StN_gate ?_; refine xN ?_)); clear H; intro w H))
      refine Call_of (sTrailLevel H mm) ?_
      clear H
      rintro _ w ⟨rfl, H⟩
      rw [show (knownOf s.E (Trail.var y : Int)).2.1 = lvE s.E (Trail.var y) from rfl]
      (try conv => whnf)
      (repeat (refine Kept_gate ?_; refine xK ?_))
      replace H := engClose hr H
      by_cases h2 : 0 < lvE s.E (Trail.var y)
      case neg =>
        (repeat first | refine go ?_ | ((try conv => whnf); (first | (refine St_gate ?_; refine xS ?_) | (refine StN_gate ?_; refine xN ?_)); clear H; intro w H))
        exact ⟨i + 1, ⟨congrArg some (vint (by simp)), trivial⟩, ⟨⟨by omega, hnext (.inr (.inl (by omega)))⟩, H⟩, by omega⟩
      (repeat first | refine go ?_ | ((try conv => whnf); (first | (refine St_gate ?_; refine xS ?_) | (refine StN_gate ?_; refine xN ?_)); clear H; intro w H))
      refine Call_of (rHas (hs (l' := [_, _, _]) H) (by omega)) ?_
      rintro _ _ ⟨rfl, rfl⟩
      by_cases h3 : y ∈ x0 :: R
      · rw [decide_eq_true h3]
        (repeat first | refine go ?_ | ((try conv => whnf); (first | (refine St_gate ?_; refine xS ?_) | (refine StN_gate ?_; refine xN ?_)); clear H; intro w H))
        exact ⟨i + 1, ⟨congrArg some (vint (by simp)), trivial⟩, ⟨⟨by omega, hnext (.inr (.inr (.inl h3)))⟩, H⟩, by omega⟩
      rw [decide_eq_false h3]
      have hyb := Trail.okLit_iff.1 hyo
      (repeat first | refine go ?_ | ((try conv => whnf); (first | (refine St_gate ?_; refine xS ?_) | (refine StN_gate ?_; refine xN ?_)); clear H; intro w H))
      rw [show (0 - y : Int) = -y by omega]
      refine Call_of (rHas (y := -y) (hs (l' := [_, _, _]) H) (by omega)) ?_
      rintro _ _ ⟨rfl, rfl⟩
      by_cases h4 : -y ∈ x0 :: R
      · rw [decide_eq_true h4]
        (repeat first | refine go ?_ | ((try conv => whnf); (first | (refine St_gate ?_; refine xS ?_) | (refine StN_gate ?_; refine xN ?_)); clear H; intro w H))
        exact ⟨i + 1, ⟨congrArg some (vint (by simp)), trivial⟩, ⟨⟨by omega, hnext (.inr (.inr (.inr h4)))⟩, H⟩, by omega⟩
      rw [decide_eq_false h4]
      (repeat first | refine go ?_ | ((try conv => whnf); (first | (refine St_gate ?_; refine xS ?_) | (refine StN_gate ?_; refine xN ?_)); clear H; intro w H))
      refine Ret_in ⟨?_, H.drop 1 rfl rfl⟩
      symm
      show Value.bool (needB s [x0] R x) = Value.bool false
      congr 1
      rw [Bool.eq_false_iff, ne_eq, hneed]
      intro h
      rcases h y hym with h | h | h | h
      · exact h1 h
      · omega
      · exact h3 h
      · exact h4 h
    · obtain rfl : i = out.length := by omega
      rw [List.take_length] at hfar
      (repeat first | refine go ?_ | ((try conv => whnf); (first | (refine St_gate ?_; refine xS ?_) | (refine StN_gate ?_; refine xN ?_)); clear H; intro w H))
      exact Ret_in ⟨by rw [hneed.2 hfar]; rfl, H.drop 1 rfl rfl⟩

/-! An engine of a formula -/
structure Fsh (s : St) (k : Nat) (R : List Fl) : Prop where
  tut : Tut s k (clsL R) 80 80
  E : s.E = []
  D : s.D = 0
  h : s.h = 0
  few : R.length ≤ 80
theorem qFresh {W : World} {z : Int} {a : Option Addr} {c : Nat} {R0 : List Fl} (H : Sep W w l) (hs : FSrc W a C R0) (hcap : C.length ≤ c) (hsm : ∀ x ∈ R0, x.2.2.length ≤ 35184372087808) (hCl : C.length ≤ 9223372036854775807) :
    Does Try.prog 12 #[.agg #[.int .i64 z, .slice a C.length c]] w fun v w' => (v = .pointer none ∧ Sep W w' l) ∨
      ∃ (k pb eb : Nat) (s : St) (sa : Option Addr) (sc : Nat) (R : List Fl), v = .pointer (some ⟨pb, 0, none⟩) ∧ z = k ∧ k ≤ 20 ∧ Fsh s k R ∧ Sep W w' (engR eb s :: stuL pb eb sa sc R l) := by
  refine Does_intro tok (Try.call12 _ _) Try.func12 rfl (by rfl) ?_
  (repeat first | refine go ?_ | ((try conv => whnf); (first | (refine St_gate ?_; refine xS ?_) | (refine StN_gate ?_; refine xN ?_)); clear H; intro w H))
  (refine Nw_sep H ?_; clear H; intro fb w H; (try simp only [Value.cells, List.toList_toArray, List.append_nil, List.cons_append, List.nil_append] at H))
  (repeat first | refine go ?_ | ((try conv => whnf); (first | (refine St_gate ?_; refine xS ?_) | (refine StN_gate ?_; refine xN ?_)); clear H; intro w H))
  by_cases b1 : z < 0
  · (repeat first | refine go ?_ | ((try conv => whnf); (first | (refine St_gate ?_; refine xS ?_) | (refine StN_gate ?_; refine xN ?_)); clear H; intro w H))
    exact Ret_in (.inl ⟨rfl, H.tail⟩)
  by_cases b2 : 20 < z
  · (repeat first | refine go ?_ | ((try conv => whnf); (first | (refine St_gate ?_; refine xS ?_) | (refine StN_gate ?_; refine xN ?_)); clear H; intro w H))
    exact Ret_in (.inl ⟨rfl, H.tail⟩)
  by_cases b3 : 80 < C.length
  · (repeat first | refine go ?_ | ((try conv => whnf); (first | (refine St_gate ?_; refine xS ?_) | (refine StN_gate ?_; refine xN ?_)); clear H; intro w H))
    exact Ret_in (.inl ⟨rfl, H.tail⟩)
  obtain ⟨k, rfl⟩ : ∃ k : Nat, z = k := ⟨z.toNat, by omega⟩
  have hk : k ≤ 20 := by omega
  have hC80 : C.length ≤ 80 := by omega
  (repeat first | refine go ?_ | ((try conv => whnf); (first | (refine St_gate ?_; refine xS ?_) | (refine StN_gate ?_; refine xN ?_)); clear H; intro w H))
  refine Call_of (eNew H (k : Int)) ?_
  clear H
  rintro _ w ⟨eb, rfl, H⟩
  have hkn : (max 0 (min (k : Int) 262144)).toNat = k := by omega
  rw [hkn] at H
  (repeat first | refine go ?_ | ((try conv => whnf); (first | (refine St_gate ?_; refine xS ?_) | (refine StN_gate ?_; refine xN ?_)); clear H; intro w H))
  (refine Nw_sep H ?_; clear H; intro pb w H; (try simp only [Value.cells, List.toList_toArray, List.append_nil, List.cons_append, List.nil_append] at H))
  (repeat first | refine go ?_ | ((try conv => whnf); (first | (refine St_gate ?_; refine xS ?_) | (refine StN_gate ?_; refine xN ?_)); clear H; intro w H))
  replace H := Sep.big_nil (f := rowR) (Own.nilR H 28 1)
  replace H := H.tp 1
  replace H := H.tp 2
  replace H := H.tp 3
  refine Loop_intro (fun q : Nat × St × List Fl × Option Addr × Nat => [(33, .int .i64 (q.1 : Int))]) (fun q w => (q.1 ≤ C.length ∧ Tut q.2.1 k (clsL q.2.2.1) q.1 q.1 ∧ q.2.1.E = [] ∧ q.2.1.D = 0 ∧ q.2.1.h = 0 ∧ q.2.2.1.length ≤ q.1) ∧
      Sep W w (engR eb q.2.1 :: stuL pb eb q.2.2.2.1 q.2.2.2.2 q.2.2.1 (cellsR fb 34 [.int .i64 (k : Int), .slice a C.length c] :: l))) (fun q => C.length - q.1)
    (0, st0 k, [], none, 0) ⟨rfl, trivial⟩ ⟨⟨Nat.zero_le _, Tut.new (by omega), rfl, rfl, rfl, Nat.le_refl _⟩, H⟩ ?_
  clear H
  rintro ⟨i, s, R, sa, sc⟩ w ⟨⟨hi, ht, hE, hD, hh, hR⟩, H⟩
  simp only [] at hi ht hE hD hh hR H ⊢
  unfold stuL at H
  refine Br_dec (fun k1 => ?_) (fun k1 => ?_)
  · have hlt : i < C.length := by omega
    obtain ⟨⟨ya, yc, ys⟩, hy, hyC, hys, hyl⟩ := hs.at hlt
    have hysm := hsm _ (List.mem_of_getElem? hy)
    simp only [] at hyC hys hyl hysm
    obtain ⟨rb, ro, rfl⟩ := hs.rows.addr (by rw [List.length_map, hs.len]; omega)
    refine Ix_in i rfl hlt ?_
    refine Ld_src (j := i) (H.rd hs.rows) (v := .slice ya ys.length yc) (by rw [List.getElem?_map, hy]; rfl) ?_
    (repeat first | refine go ?_ | ((try conv => whnf); (first | (refine St_gate ?_; refine xS ?_) | (refine StN_gate ?_; refine xN ?_)); clear H; intro w H))
    cases hone : ys.all Lit.one with
    | false =>
      refine Call_of (rClean_no (H.rd hys) (by unfold maxLen; omega) hone) ?_
      rintro _ _ ⟨rfl, rfl⟩
      (repeat first | refine go ?_ | ((try conv => whnf); (first | (refine St_gate ?_; refine xS ?_) | (refine StN_gate ?_; refine xN ?_)); clear H; intro w H))
      refine Call_of (tAdd H ht (fun h => h.rd hys) hysm (by omega) (by omega)) ?_
      clear H
      rintro _ w (⟨_, rfl, H⟩ | ⟨hfit, _⟩)
      case inr =>
        exfalso
        have := (fitB_iff.1 hfit)
        rw [← Bool.not_eq_true, List.all_eq_true] at hone
        exact hone fun x hx => (this x hx).1
      (repeat first | refine go ?_ | ((try conv => whnf); (first | (refine St_gate ?_; refine xS ?_) | (refine StN_gate ?_; refine xN ?_)); clear H; intro w H))
      by_cases h20 : 20 < ys.length
      · (repeat first | refine go ?_ | ((try conv => whnf); (first | (refine St_gate ?_; refine xS ?_) | (refine StN_gate ?_; refine xN ?_)); clear H; intro w H))
        exact Ret_in (.inl ⟨rfl, H.tail.tail.tail.tail.tail⟩)
      · (repeat first | refine go ?_ | ((try conv => whnf); (first | (refine St_gate ?_; refine xS ?_) | (refine StN_gate ?_; refine xN ?_)); clear H; intro w H))
        exact Ret_in (.inl ⟨rfl, H.tail.tail.tail.tail.tail⟩)
    | true =>
      have hone' := List.all_eq_true.1 hone
      refine Call_of (rClean H (fun h => h.rd hys) hysm hone') ?_
      clear H
      rintro _ w ⟨oa, oc, out, rfl, hcl, hol, H⟩
      replace H := H.tp 1
      (repeat first | refine go ?_ | ((try conv => whnf); (first | (refine St_gate ?_; refine xS ?_) | (refine StN_gate ?_; refine xN ?_)); clear H; intro w H))
      refine Call_of (tAdd H ht (fun h => h.rd hys) hysm (by omega) (by omega)) ?_
      clear H
      rintro _ w (⟨_, rfl, H⟩ | ⟨hfit, id, s', rfl, ht', hE', hD', hh', H⟩)
      · (repeat first | refine go ?_ | ((try conv => whnf); (first | (refine St_gate ?_; refine xS ?_) | (refine StN_gate ?_; refine xN ?_)); clear H; intro w H))
        by_cases h20 : 20 < ys.length
        · (repeat first | refine go ?_ | ((try conv => whnf); (first | (refine St_gate ?_; refine xS ?_) | (refine StN_gate ?_; refine xN ?_)); clear H; intro w H))
          exact Ret_in (.inl ⟨rfl, H.tail.tail.tail.tail.tail.tail⟩)
        · (repeat first | refine go ?_ | ((try conv => whnf); (first | (refine St_gate ?_; refine xS ?_) | (refine StN_gate ?_; refine xN ?_)); clear H; intro w H))
          exact Ret_in (.inl ⟨rfl, H.tail.tail.tail.tail.tail.tail⟩)
      · replace ht' := ht' out hcl
        (repeat first | refine go ?_ | ((try conv => whnf); (first | (refine St_gate ?_; refine xS ?_) | (refine StN_gate ?_; refine xN ?_)); clear H; intro w H))
        by_cases h20 : 20 < ys.length
        · (repeat first | refine go ?_ | ((try conv => whnf); (first | (refine St_gate ?_; refine xS ?_) | (refine StN_gate ?_; refine xN ?_)); clear H; intro w H))
          exact Ret_in (.inl ⟨rfl, H.tail.tail.tail.tail.tail.tail⟩)
        (repeat first | refine go ?_ | ((try conv => whnf); (first | (refine St_gate ?_; refine xS ?_) | (refine StN_gate ?_; refine xN ?_)); clear H; intro w H))
        cases hb : Lit.bothB ys with
        | true =>
          rw [hb, if_pos rfl] at ht'
          (repeat first | refine go ?_ | ((try conv => whnf); (first | (refine St_gate ?_; refine xS ?_) | (refine StN_gate ?_; refine xN ?_)); clear H; intro w H))
          exact ⟨(i + 1, s', R, sa, sc), ⟨congrArg some (vint (by simp)), trivial⟩, ⟨⟨by omega, ht', by rw [hE', hE], by rw [hD', hD], by rw [hh', hh], by simp only []; omega⟩, H.drop 1 rfl rfl⟩, by simp; omega⟩
        | false =>
          rw [hb, if_neg Bool.false_ne_true] at ht'
          (repeat first | refine go ?_ | ((try conv => whnf); (first | (refine St_gate ?_; refine xS ?_) | (refine StN_gate ?_; refine xN ?_)); clear H; intro w H))
          (refine Nw_sep H ?_; clear H; intro nb w H; (try simp only [Value.cells, List.toList_toArray, List.append_nil, List.cons_append, List.nil_append] at H))
          (repeat first | refine go ?_ | ((try conv => whnf); (first | (refine St_gate ?_; refine xS ?_) | (refine StN_gate ?_; refine xN ?_)); clear H; intro w H))
          (refine DoN_gate ?_; refine append_one tok H rfl rfl rfl rfl rfl (by decide) mm (m := 1) rfl (by simp [oneCell]) (by omega) (by unfold maxLen; omega) ?_; clear H; intro sa' sc' w H; replace H := H _ (by repeat first | exact Upd.head | apply Upd.tail))
          (repeat first | refine go ?_ | ((try conv => whnf); (first | (refine St_gate ?_; refine xS ?_) | (refine StN_gate ?_; refine xN ?_)); clear H; intro w H))
          have e1 : R.map flV ++ [.slice oa out.length oc] = (R ++ [(oa, oc, out)]).map flV := by rw [List.map_append]; rfl
          have e2 : R.length + 1 = (R ++ [(oa, oc, out)]).length := by simp
          have e3 : clsL R ++ [out] = clsL (R ++ [(oa, oc, out)]) := by unfold clsL; rw [List.map_append]; rfl
          rw [e1, e2] at H
          rw [e3] at ht'
          replace H := H.tp 4
          replace H := H.tp 2
          replace H := Sep.big_snoc (f := rowR) (y := (oa, oc, out)) H
          replace H := H.tp 3
          replace H := H.tp 3
          replace H := H.tp 3
          exact ⟨(i + 1, s', R ++ [(oa, oc, out)], sa', sc'), ⟨congrArg some (vint (by simp)), trivial⟩, ⟨⟨by omega, ht', by rw [hE', hE], by rw [hD', hD], by rw [hh', hh], by simp; omega⟩, H⟩, by simp; omega⟩
  · obtain rfl : i = C.length := by omega
    (repeat first | refine go ?_ | ((try conv => whnf); (first | (refine St_gate ?_; refine xS ?_) | (refine StN_gate ?_; refine xN ?_)); clear H; intro w H))
    refine Ret_in (.inr ⟨k, pb, eb, s, sa, sc, R, rfl, rfl, hk, ⟨ht.mono hC80 hC80, hE, hD, hh, by omega⟩, ?_⟩)
    exact H.drop 4 rfl rfl
end
end Go.Proofs.Ytajllmlgihbdhaa
