/- What is needless: the walk. -/
import Derived.Test.YtcibiidebknkgaaGreatLearnX
set_option linter.unusedVariables false
set_option linter.unusedSimpArgs false
namespace Go.Proofs.YtcibiidebknkgaaGreat
open Go Go.Vc Go.Watch
open Go.Trail (Ent value find upto okLit litsV)
set_option maxHeartbeats 4000000
set_option maxRecDepth 100000

theorem litGIndexS {xs : List Int} {a : Option Addr} {c : Nat} {w : World} {Q : World → Prop} (hQ : Q w) (hs : ∀ w', Q w' → Src w' a xs.length 1 (xs.map lV)) {k : FuncId} {c1 c2 : Value} {p : Int → Bool} (hm : xs.length ≤ maxLen)
    (hf : ∀ x ∈ xs, ∀ w', Q w' → Does Tryz.prog k #[lV x, c1, c2] w' fun v w'' => v = .bool (p x) ∧ Q w'') :
    Does Tryz.prog 68 #[.slice a xs.length c, .func (.func k) #[] #[c1, c2]] w fun v w' => v = .int .i64 (match xs.findIdx? p with | some i => (i : Int) | none => -1) ∧ Q w' := by
  refine Does_intro tok (Tryz.call68 _ _) Tryz.func68 rfl (by rfl) ?_
  refine Loop_intro (fun i : Nat => [(8, .int .i64 (i : Int))]) (fun i w' => Q w' ∧ i ≤ xs.length ∧ ∀ j x, j < i → xs[j]? = some x → p x = false) (fun i => xs.length - i) 0 ⟨rfl, trivial⟩ ⟨hQ, Nat.zero_le _, fun j x h => by omega⟩ ?_
  clear hQ
  rintro i w ⟨hQ, hi, hno⟩
  simp only [] at hi hno ⊢
  unfold maxLen at hm
  refine Br_dec (fun k1 => ?_) (fun k1 => ?_)
  · have hlt : i < xs.length := by omega
    have hs1 := hs w hQ
    obtain ⟨b, o, rfl⟩ := hs1.addr (by rw [List.length_map]; omega)
    refine Ix_in i rfl hlt ?_
    have hx : xs[i]? = some xs[i] := List.getElem?_eq_getElem hlt
    refine Ld_src (j := i) hs1 (v := lV xs[i]) (by rw [List.getElem?_map, hx]; rfl) ?_
    (repeat first | refine go ?_ | ((try conv => whnf); (first | (refine St_gate ?_; refine xS ?_) | (refine StN_gate ?_; refine xN ?_)); clear H; intro w H))
    refine Call_of (hf xs[i] (List.getElem_mem hlt) w hQ) ?_
    clear hs1 hQ
    rintro _ w ⟨rfl, hQ⟩
    refine Br_if (fun hp => ?_) (fun hp => ?_)
    · refine Ret_in ⟨vint ?_, hQ⟩
      have : xs.findIdx? p = some i := by
        rw [List.findIdx?_eq_some_iff_getElem]
        exact ⟨hlt, hp, fun j hj => by rw [hno j xs[j] hj (List.getElem?_eq_getElem (by omega))]; exact Bool.false_ne_true⟩
      rw [this]
    · (repeat first | refine go ?_ | ((try conv => whnf); (first | (refine St_gate ?_; refine xS ?_) | (refine StN_gate ?_; refine xN ?_)); clear H; intro w H))
      refine ⟨i + 1, ⟨congrArg some (vint (by omega)), trivial⟩, ⟨hQ, by omega, fun j x hj hjx => ?_⟩, by omega⟩
      rcases Nat.lt_or_ge j i with h | h
      · exact hno j x h hjx
      · obtain rfl : j = i := by omega
        rw [hx] at hjx; cases hjx; simpa using hp
  · refine Ret_in ⟨vint ?_, hQ⟩
    have : xs.findIdx? p = none := by
      rw [List.findIdx?_eq_none_iff]
      intro x hx
      obtain ⟨j, hj⟩ := List.getElem?_of_mem hx
      exact hno j x (by have := (List.getElem?_eq_some_iff.1 hj).1; omega) hj
    rw [this]
theorem litGContainsS {xs : List Int} {a : Option Addr} {c : Nat} {w : World} {Q : World → Prop} (hQ : Q w) (hs : ∀ w', Q w' → Src w' a xs.length 1 (xs.map lV)) {k : FuncId} {c1 c2 : Value} {p : Int → Bool} (hm : xs.length ≤ maxLen)
    (hf : ∀ x ∈ xs, ∀ w', Q w' → Does Tryz.prog k #[lV x, c1, c2] w' fun v w'' => v = .bool (p x) ∧ Q w'') :
    Does Tryz.prog 40 #[.slice a xs.length c, .func (.func k) #[] #[c1, c2]] w fun v w' => v = .bool (xs.any p) ∧ Q w' := by
  refine Does_intro tok (Tryz.call40 _ _) Tryz.func40 rfl (by rfl) ?_
  (repeat first | refine go ?_ | ((try conv => whnf); (first | (refine St_gate ?_; refine xS ?_) | (refine StN_gate ?_; refine xN ?_)); clear H; intro w H))
  refine Call_of (litGIndexS hQ hs hm hf) ?_
  rintro _ w ⟨rfl, hQ⟩
  (repeat first | refine go ?_ | ((try conv => whnf); (first | (refine St_gate ?_; refine xS ?_) | (refine StN_gate ?_; refine xN ?_)); clear H; intro w H))
  refine Ret_in ⟨vbool ?_, hQ⟩
  cases h : xs.findIdx? p with
  | none =>
    rw [List.findIdx?_eq_none_iff] at h
    have : xs.any p = false := by rw [List.any_eq_false]; intro x hx; rw [h x hx]; exact Bool.false_ne_true
    rw [this]; rfl
  | some i =>
    obtain ⟨hlt, h1, _⟩ := List.findIdx?_eq_some_iff_getElem.1 h
    have : xs.any p = true := List.any_eq_true.2 ⟨xs[i], List.getElem_mem hlt, h1⟩
    rw [this]
    exact decide_eq_true (show (i : Int) ≥ 0 by omega)


section
variable {w0 w : World} {l : List Res} {eb sb mb n qs qv : Nat} {s : St} {S : Nat → Prop} {top : Int} {T R : List Int} {v2 v3 v4 : Value}
def farB (s : St) (T R : List Int) (v : Int) (y : Int) : Bool := decide ((Trail.var y : Int) ≠ v) && (!decide (SeenB T R (Trail.var y)) && decide (0 < lvE s.E (Trail.var y)))
theorem lNeed1 (H : Sep w0 w (engR eb s :: l)) (hq : cellsR qs 148 [.pointer (some ⟨sb, 0, none⟩)] ∈ l) {v : Int} (hv : cellsR qv 3 [iI v] ∈ l) (hc : cellsR sb 150 [.pointer (some ⟨eb, 0, none⟩), .map (some mb), v2, v3, v4] ∈ l)
    (hm : mapD mb iI (seenM s.E T R) n ∈ l) {y : Int} : Does Tryz.prog 139 #[lV y, .pointer (some ⟨qs, 0, none⟩), .pointer (some ⟨qv, 0, none⟩)] w fun r w' => r = .bool (farB s T R v y) ∧ Sep w0 w' (engR eb s :: l) := by
  refine Does_intro tok (Tryz.call139 _ _) Tryz.func139 rfl (by rfl) ?_
  (repeat first | refine go ?_ | ((try conv => whnf); (first | (refine St_gate ?_; refine xS ?_) | (refine StN_gate ?_; refine xN ?_)); clear H; intro w H))
  refine Call_of (fVar (x := y) w) ?_
  rintro _ _ ⟨rfl, rfl⟩
  rw [var_var]
  have hq' := List.mem_cons_of_mem (engR eb s) hq
  have hv' := List.mem_cons_of_mem (engR eb s) hv
  have hc' := List.mem_cons_of_mem (engR eb s) hc
  have hm' := List.mem_cons_of_mem (engR eb s) hm
  (repeat first | refine go ?_ | ((try conv => whnf); (first | (refine St_gate ?_; refine xS ?_) | (refine StN_gate ?_; refine xN ?_)); clear H; intro w H))
  refine Ld_m H hq' rfl ?_
  (repeat first | refine go ?_ | ((try conv => whnf); (first | (refine St_gate ?_; refine xS ?_) | (refine StN_gate ?_; refine xN ?_)); clear H; intro w H))
  refine Ld_m H hc' rfl ?_
  (repeat first | refine go ?_ | ((try conv => whnf); (first | (refine St_gate ?_; refine xS ?_) | (refine StN_gate ?_; refine xN ?_)); clear H; intro w H))
  refine Do_lookupD tok keyI H hm' rfl rfl (Trail.var y : Int) ?_
  have hlv : (knownOf s.E (Trail.var y : Int)).2.1 = lvE s.E (Trail.var y) := rfl
  unfold farB
  (repeat first | refine go ?_ | ((try conv => whnf); (first | (refine St_gate ?_; refine xS ?_) | (refine StN_gate ?_; refine xN ?_)); clear H; intro w H))
  refine Ld_m H hv' rfl ?_
  by_cases h2 : (Trail.var y : Int) = v
  · rw [decide_eq_false (fun h => h h2)]
    (repeat first | refine go ?_ | ((try conv => whnf); (first | (refine St_gate ?_; refine xS ?_) | (refine StN_gate ?_; refine xN ?_)); clear H; intro w H))
    exact Ret_in ⟨rfl, H⟩
  rw [decide_eq_true h2]
  by_cases h1 : SeenB T R (Trail.var y)
  · rw [seenM_some h1, decide_eq_true h1]
    (repeat first | refine go ?_ | ((try conv => whnf); (first | (refine St_gate ?_; refine xS ?_) | (refine StN_gate ?_; refine xN ?_)); clear H; intro w H))
    refine Br_true ?_
    (repeat first | refine go ?_ | ((try conv => whnf); (first | (refine St_gate ?_; refine xS ?_) | (refine StN_gate ?_; refine xN ?_)); clear H; intro w H))
    exact Ret_in ⟨rfl, H⟩
  rw [seenM_none h1, decide_eq_false h1]
  (repeat first | refine go ?_ | ((try conv => whnf); (first | (refine St_gate ?_; refine xS ?_) | (refine StN_gate ?_; refine xN ?_)); clear H; intro w H))
  refine Br_false ?_
  (repeat first | refine go ?_ | ((try conv => whnf); (first | (refine St_gate ?_; refine xS ?_) | (refine StN_gate ?_; refine xN ?_)); clear H; intro w H))
  refine Ld_m H hq' rfl ?_
  (repeat first | refine go ?_ | ((try conv => whnf); (first | (refine St_gate ?_; refine xS ?_) | (refine StN_gate ?_; refine xN ?_)); clear H; intro w H))
  refine Ld_m H hc' rfl ?_
  (repeat first | refine go ?_ | ((try conv => whnf); (first | (refine St_gate ?_; refine xS ?_) | (refine StN_gate ?_; refine xN ?_)); clear H; intro w H))
  obtain ⟨r, hr, H⟩ := engOpen H
  (repeat first | refine go ?_ | ((try conv => whnf); (first | (refine St_gate ?_; refine xS ?_) | (refine StN_gate ?_; refine xN ?_)); clear H; intro w H))
  refine Call_of (sTrailLevel H mm) ?_
  clear H
  rintro _ w ⟨rfl, H⟩
  replace H := engClose hr H
  rw [hlv]
  (repeat first | refine go ?_ | ((try conv => whnf); (first | (refine St_gate ?_; refine xS ?_) | (refine StN_gate ?_; refine xN ?_)); clear H; intro w H))
  exact Ret_in ⟨rfl, H⟩

theorem need_eq {s : St} {T R out : List Int} {id : Nat} {c : Cls} {x : Int} (hr : reE s.E (Trail.var x) = (id : Int)) (hc : s.C[id]? = some c) (hm : ∀ y, y ∈ out ↔ y ∈ c.lits) : (!out.any (farB s T R (Trail.var x))) = needB s T R x := by
  unfold needB
  rw [hr, decide_eq_true (Int.natCast_nonneg id), Int.toNat_natCast, List.getD_eq_getElem?_getD, hc]
  rw [Bool.eq_iff_iff]
  simp only [Bool.not_eq_true', List.any_eq_false, Option.getD_some, Bool.true_and, List.all_eq_true]
  constructor
  · intro h y hy
    have := h y ((hm y).2 hy)
    unfold farB at this
    simp only [ne_eq, Int.natCast_inj, Bool.and_eq_true, decide_eq_true_eq, Bool.not_eq_true', decide_eq_false_iff_not, not_and] at this
    simp only [Bool.or_eq_true, decide_eq_true_eq]
    by_cases h1 : Trail.var y = Trail.var x
    · exact .inl (.inl h1)
    · by_cases h2 : SeenB T R (Trail.var y)
      · exact .inl (.inr h2)
      · have := this h1 h2
        exact .inr (by omega)
  · intro h y hy
    have := h y ((hm y).1 hy)
    simp only [Bool.or_eq_true, decide_eq_true_eq] at this
    unfold farB
    simp only [ne_eq, Int.natCast_inj, Bool.and_eq_true, decide_eq_true_eq, Bool.not_eq_true', decide_eq_false_iff_not, not_and]
    intro h1 h2
    rcases this with (h | h) | h
    · exact (h1 h).elim
    · exact (h2 h).elim
    · omega

theorem lNeedless (H : Sep w0 w (engR eb s :: l)) (hc : cellsR sb 150 [.pointer (some ⟨eb, 0, none⟩), .map (some mb), v2, v3, v4] ∈ l) (hm : mapD mb iI (seenM s.E T R) n ∈ l) (hg : Watch.Good S s) (hlits : ∀ c ∈ s.C, c.lits.length ≤ 1000000) (hC : s.C.length ≤ 1048576)
    {x : Int} (hx : tru s.E (-x)) : Does Tryz.prog 130 #[.pointer (some ⟨sb, 0, none⟩), lV x] w fun v w' => v = .bool (needB s T R x) ∧ Sep w0 w' (engR eb s :: l) := by
  refine Does_intro tok (Tryz.call130 _ _) Tryz.func130 rfl (by rfl) ?_
  obtain ⟨e, he, hel⟩ := hx
  obtain ⟨i, hi⟩ := List.getElem?_of_mem he
  have hre := (hg.lv_neg he hel).2
  have hkn : (knownOf s.E (Trail.var x : Int)).2.2 = reE s.E (Trail.var x) := rfl
  (repeat first | refine go ?_ | ((try conv => whnf); (first | (refine St_gate ?_; refine xS ?_) | (refine StN_gate ?_; refine xN ?_)); clear H; intro w H))
  (refine Nw_sep H ?_; clear H; intro qs w H; (try simp only [Value.cells, List.toList_toArray, List.append_nil, List.cons_append, List.nil_append] at H))
  (repeat first | refine go ?_ | ((try conv => whnf); (first | (refine St_gate ?_; refine xS ?_) | (refine StN_gate ?_; refine xN ?_)); clear H; intro w H))
  refine Call_of (fVar (x := x) _) ?_
  rintro _ _ ⟨rfl, rfl⟩
  rw [var_var]
  (repeat first | refine go ?_ | ((try conv => whnf); (first | (refine St_gate ?_; refine xS ?_) | (refine StN_gate ?_; refine xN ?_)); clear H; intro w H))
  (refine Nw_sep H ?_; clear H; intro qv w H; (try simp only [Value.cells, List.toList_toArray, List.append_nil, List.cons_append, List.nil_append] at H))
  (repeat first | refine go ?_ | ((try conv => whnf); (first | (refine St_gate ?_; refine xS ?_) | (refine StN_gate ?_; refine xN ?_)); clear H; intro w H))
  have hc' : cellsR sb 150 [.pointer (some ⟨eb, 0, none⟩), .map (some mb), v2, v3, v4] ∈ (cellsR qv 3 [iI (Trail.var x)] :: cellsR qs 148 [.pointer (some ⟨sb, 0, none⟩)] :: l) := .tail _ (.tail _ hc)
  have hm' : mapD mb iI (seenM s.E T R) n ∈ (cellsR qv 3 [iI (Trail.var x)] :: cellsR qs 148 [.pointer (some ⟨sb, 0, none⟩)] :: l) := .tail _ (.tail _ hm)
  replace H := H.tp 2
  refine Draw_intro mixed [0, 1, 2, 3, 4, 5, 6, 7, 8, 9, 10, 11, 12, 13, 14, 15, 16, 17, 18] (by decide +kernel) (fun w _ fd => ?_); replace H := H.fr fd; clear fd
  (repeat first | refine go ?_ | ((try conv => whnf); (first | (refine St_gate ?_; refine xS ?_) | (refine StN_gate ?_; refine xN ?_)); clear H; intro w H))
  refine Ld_m H (.tail _ hc') rfl ?_
  (repeat first | refine go ?_ | ((try conv => whnf); (first | (refine St_gate ?_; refine xS ?_) | (refine StN_gate ?_; refine xN ?_)); clear H; intro w H))
  refine Ld_m H (.tail _ hc') rfl ?_
  (repeat first | refine go ?_ | ((try conv => whnf); (first | (refine St_gate ?_; refine xS ?_) | (refine StN_gate ?_; refine xN ?_)); clear H; intro w H))
  obtain ⟨r, hr, H⟩ := engOpen H
  (repeat first | refine go ?_ | ((try conv => whnf); (first | (refine St_gate ?_; refine xS ?_) | (refine StN_gate ?_; refine xN ?_)); clear H; intro w H))
  (try conv => whnf)
  refine Call_of (sTrailReason H mm) ?_
  clear H
  rintro _ w ⟨rfl, H⟩
  rw [hkn, hre]
  (try conv => whnf)
  (repeat (refine Kept_gate ?_; first | refine Kept_in (Sep.cellAt H mm (by rfl)) ?_ | refine Kept_in (Sep.cellAt H (List.mem_append_right [_, _, _, _, _, _, _, _] hc') (by rfl)) ?_))
  (try conv => whnf)
  replace H := engClose hr H
  rcases hg.why i e hi with hr1 | ⟨id, c, hr1, hr2, hr3, _⟩
  · rw [hr1]
    have hno : needB s T R x = false := by
      unfold needB
      rw [hre, hr1]; rfl
    refine Call_of (eClause_no H (id := -1) (.inl (by decide)) hC) ?_
    clear H
    rintro _ w ⟨rfl, H⟩
    (try conv => whnf)
    (repeat (refine Kept_gate ?_; first | refine Kept_in (Sep.cellAt H mm (by rfl)) ?_ | refine Kept_in (Sep.cellAt H (.tail _ hc') (by rfl)) ?_))
    (repeat first | refine go ?_ | ((try conv => whnf); (first | (refine St_gate ?_; refine xS ?_) | (refine StN_gate ?_; refine xN ?_)); clear H; intro w H))
    exact Ret_in ⟨by rw [hno]; rfl, (H.drop 1 rfl rfl).drop 1 rfl rfl⟩
  · rw [hr1]
    rw [hr1] at hre
    have hcl := hg.cl c (List.mem_of_getElem? hr2)
    have hcm := hlits c (List.mem_of_getElem? hr2)
    refine Call_of (eClause H hr2 hr3 (fun x hx => by rw [one_ok]; exact (hcl.1 x hx).1) (by omega) hC) ?_
    clear H
    rintro _ w ⟨ca, cc, out, rfl, hco, hln, H⟩
    (try conv => whnf)
    (repeat (refine Kept_gate ?_; first | refine Kept_in (Sep.cellAt H mm (by rfl)) ?_ | refine Kept_in (Sep.cellAt H (.tail _ (.tail _ hc')) (by rfl)) ?_))
    replace H := H.tp 1
    (repeat first | refine go ?_ | ((try conv => whnf); (first | (refine St_gate ?_; refine xS ?_) | (refine StN_gate ?_; refine xN ?_)); clear H; intro w H))
    refine Call_of (litGContainsS (xs := out) (Q := fun w' => Sep w0 w' (engR eb s :: ownR ca out.length cc 29 1 (out.map lV) :: cellsR qv 3 [iI (Trail.var x)] :: cellsR qs 148 [.pointer (some ⟨sb, 0, none⟩)] :: l)) H (fun _ h => h.srcM mm)
      (p := farB s T R (Trail.var x)) (by unfold maxLen; omega) fun y hy w' h => lNeed1 h mm mm (.tail _ hc') (.tail _ hm')) ?_
    clear H
    rintro _ w ⟨rfl, H⟩
    (repeat first | refine go ?_ | ((try conv => whnf); (first | (refine St_gate ?_; refine xS ?_) | (refine StN_gate ?_; refine xN ?_)); clear H; intro w H))
    exact Ret_in ⟨by rw [← need_eq hre hr2 hco.mem]; rfl, ((H.drop 1 rfl rfl).drop 1 rfl rfl).drop 1 rfl rfl⟩
end
end Go.Proofs.YtcibiidebknkgaaGreat
