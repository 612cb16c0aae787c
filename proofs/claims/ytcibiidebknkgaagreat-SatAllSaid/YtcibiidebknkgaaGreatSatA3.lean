/- A solver: what is to blame, at the level 0. -/
import Derived.Test.YtcibiidebknkgaaGreatSatA2
set_option linter.unusedVariables false
set_option linter.unusedSimpArgs false
namespace Go.Proofs.YtcibiidebknkgaaGreat
open Go Go.Vc Go.Watch Go.Lit
open Go.Trail (Ent value find upto okLit litsV)
set_option maxHeartbeats 4000000
set_option maxRecDepth 100000
section
variable {w0 w : World} {l : List Res} {b : Nat} {x : Sol} {n k m : Nat} {L : List (List Int)} {cs : List Int} {ca : Option Addr} {cc : Nat}
theorem sBlame0 (H : Sep w0 w (solR b x :: l)) (h : x.Ok n L k m) (hD : x.s.D = 0) {y : Int} : Does Tryz.prog 54 #[.pointer (some ⟨b, 0, none⟩), lV y] w fun v w' =>
    ∃ a c, v = .slice a 1 c ∧ Sep w0 w' (ownR a 1 c 29 1 [lV y] :: solR b x :: l) := by
  have hg := h.sv.good
  have hdl := hg.deepLe
  refine DoesM_intro tok (Tryz.call54 _ _) Tryz.func54 rfl (by rfl) ?_
  (repeat first | refine go ?_ | ((try conv => whnf); (first | (refine St_gate ?_; refine xS ?_) | (refine StN_gate ?_; refine xN ?_)); clear H; intro w H))
  (refine Nw_sep H ?_; clear H; intro sb w H; (try simp only [Value.cells, List.toList_toArray, List.append_nil, List.cons_append, List.nil_append] at H))
  (repeat first | refine go ?_ | ((try conv => whnf); (first | (refine St_gate ?_; refine xS ?_) | (refine StN_gate ?_; refine xN ?_)); clear H; intro w H))
  (refine Nw_sep H ?_; clear H; intro nb w H; (try simp only [Value.cells, List.toList_toArray, List.append_nil, List.cons_append, List.nil_append] at H))
  (repeat first | refine go ?_ | ((try conv => whnf); (first | (refine St_gate ?_; refine xS ?_) | (refine StN_gate ?_; refine xN ?_)); clear H; intro w H))
  (refine Nw_sep H ?_; clear H; intro ob w H; (try simp only [Value.cells, List.toList_toArray, List.append_nil, List.cons_append, List.nil_append] at H))
  (repeat first | refine go ?_ | ((try conv => whnf); (first | (refine St_gate ?_; refine xS ?_) | (refine StN_gate ?_; refine xN ?_)); clear H; intro w H))
  refine Nw_mapD (enc := iI) H ?_
  clear H
  intro mb w H
  (repeat first | refine go ?_ | ((try conv => whnf); (first | (refine St_gate ?_; refine xS ?_) | (refine StN_gate ?_; refine xN ?_)); clear H; intro w H))
  refine Call_of (litVar y _) ?_
  rintro _ _ ⟨rfl, rfl⟩
  (repeat first | refine go ?_ | ((try conv => whnf); (first | (refine St_gate ?_; refine xS ?_) | (refine StN_gate ?_; refine xN ?_)); clear H; intro w H))
  refine DoU_putD iI_inj tok keyI H mm rfl (Trail.var y : Int) (iI 1) ?_
  clear H
  intro w H
  replace H := H _ (by repeat first | exact Upd.head | apply Upd.tail)
  (repeat first | refine go ?_ | ((try conv => whnf); (first | (refine St_gate ?_; refine xS ?_) | (refine StN_gate ?_; refine xN ?_)); clear H; intro w H))
  (refine Nw_sep H ?_; clear H; intro rb w H; (try simp only [Value.cells, List.toList_toArray, List.append_nil, List.cons_append, List.nil_append] at H))
  (repeat first | refine go ?_ | ((try conv => whnf); (first | (refine St_gate ?_; refine xS ?_) | (refine StN_gate ?_; refine xN ?_)); clear H; intro w H))
  replace H := H.tp 5
  obtain ⟨r, H⟩ := solOpen H
  (repeat first | refine go ?_ | ((try conv => whnf); (first | (refine St_gate ?_; refine xS ?_) | (refine StN_gate ?_; refine xN ?_)); clear H; intro w H))
  replace H := H.tp 1
  refine Call_of (eTrue2 H (by omega)) ?_
  clear H
  rintro _ w ⟨ta, tc, rfl, H⟩
  (repeat first | refine go ?_ | ((try conv => whnf); (first | (refine St_gate ?_; refine xS ?_) | (refine StN_gate ?_; refine xN ?_)); clear H; intro w H))
  refine Call_of (lBackward H) ?_
  clear H
  rintro _ w ⟨qb, rfl, H⟩
  have hll := litL_len x.s
  generalize hn : (litL x.s).length = nn at H ⊢
  (repeat first | refine go ?_ | ((try conv => whnf); (first | (refine St_gate ?_; refine xS ?_) | (refine StN_gate ?_; refine xN ?_)); clear H; intro w H))
  refine Range_intro (backL (a := ta) (n := nn) (c := tc) (xs := litL x.s) (sb := qb) hn (by omega) (fun w h => h)) rfl (fun k _ => rfl) (by decide) ?_
  intro rl D rec hD2 hrl hrec
  have hrec' : ∀ s p, noCells (rec s p) = true := fun s p => noCells_of (hrec s p)
  have hsee : ∀ v : Int, (putM (fun _ => none) (Trail.var y : Int) (iI 1) : Int → Option Value) v = if v = (Trail.var y : Int) then some (iI 1) else none := fun v => rfl
  generalize hmf : (putM (fun _ => none) (Trail.var y : Int) (iI 1) : Int → Option Value) = mf at H hsee
  obtain ⟨mn, hmn⟩ : ∃ mn, (if (((fun _ => none) : Int → Option Value) (Trail.var y : Int)).isSome = true then (0 : Nat) else 0 + 1) = mn := ⟨_, rfl⟩
  rw [hmn] at H
  refine ⟨fun k w => Sep w0 w (objR rl (rec .ready none) :: objR D (.deferred (some [])) :: cellsR qb 37 [.slice ta nn tc] :: ownR ta nn tc 29 1 ((litL x.s).map lV) :: engR r.eb x.s :: soP b x r :: rkR r.rb x.K :: paceR r.pb x.pc :: phP x r :: lrP x r :: moP x r :: coP x r :: lgP x r ::
    cellsR rb 127 [.map (some mb)] :: mapD mb iI mf mn :: cellsR ob 37 [.slice (some ⟨nb, 0, none⟩) 1 1] :: cellsR nb 29 [lV y] :: cellsR sb 22 [.pointer (some ⟨b, 0, none⟩)] :: l), fun _ _ => False, ?_, ?_, ?_, ?_, ?_⟩
  · have H3 := (H.newObj (o := .deferred (some [])) rfl).newObj (hrec' .ready none)
    rw [World.size_alloc, ← hrl, ← hD2] at H3
    exact H3
  · intro k w hk H
    exact ⟨H.cellAt mm rfl, H.srcM mm⟩
  · intro k w hk H
    refine ⟨H.objE mm, ?_⟩
    have hkl : k < x.s.E.length := by omega
    obtain ⟨m, hm⟩ : ∃ m, x.s.E.length - k = m + 1 := ⟨x.s.E.length - k - 1, by omega⟩
    have hm2 : nn - 1 - k = m := by omega
    have he : x.s.E[m]? = some (x.s.E[m]'(by omega)) := List.getElem?_eq_getElem (by omega)
    have hem := List.getElem_mem (l := x.s.E) (n := m) (by omega)
    generalize x.s.E[m]'(by omega) = e at he hem
    have hlm : (litL x.s)[nn - 1 - k]?.getD 0 = e.lit := by rw [hm2, litL_get he]; rfl
    rw [hlm]
    have hlev : lvE x.s.E (Trail.var e.lit : Int) = 0 := by
      have h1 := (hg.lv_at hem (x := e.lit) rfl).1
      have h2 := hg.levs e hem
      omega
    (repeat first | refine go ?_ | ((try conv => whnf); (first | (refine St_gate ?_; refine xS ?_) | (refine StN_gate ?_; refine xN ?_)); clear H; intro w H))
    refine ⟨H.objE mm, ?_⟩
    replace H := H.putO (o' := rec .busy none) mm (hrec' _ _) _ (by repeat first | exact Upd.head | apply Upd.tail)
    generalize w.putObj rl (rec .busy none) = w at H ⊢
    (repeat first | refine go ?_ | ((try conv => whnf); (first | (refine St_gate ?_; refine xS ?_) | (refine StN_gate ?_; refine xN ?_)); clear H; intro w H))
    refine Call_of (litVar e.lit w) ?_
    rintro _ _ ⟨rfl, rfl⟩
    (repeat first | refine go ?_ | ((try conv => whnf); (first | (refine St_gate ?_; refine xS ?_) | (refine StN_gate ?_; refine xN ?_)); clear H; intro w H))
    refine Do_lookupD tok keyI H mm rfl rfl (Trail.var e.lit : Int) ?_
    rw [hsee]
    by_cases hv : (Trail.var e.lit : Int) = (Trail.var y : Int)
    · rw [if_pos hv]
      (repeat first | refine go ?_ | ((try conv => whnf); (first | (refine St_gate ?_; refine xS ?_) | (refine StN_gate ?_; refine xN ?_)); clear H; intro w H))
      replace H := H.tp 4
      obtain ⟨q, hq, H⟩ := engOpen H
      (repeat first | refine go ?_ | ((try conv => whnf); (first | (refine St_gate ?_; refine xS ?_) | (refine StN_gate ?_; refine xN ?_)); clear H; intro w H))
      refine Call_of (sTrailLevel H mm) ?_
      clear H
      rintro _ w ⟨rfl, H⟩
      rw [show (knownOf x.s.E (Trail.var e.lit : Int)).2.1 = 0 from hlev]
      replace H := engClose hq H
      replace H := H.tp 4
      replace H := H.tp 4
      replace H := H.tp 4
      replace H := H.tp 4
      (repeat first | refine go ?_ | ((try conv => whnf); (first | (refine St_gate ?_; refine xS ?_) | (refine StN_gate ?_; refine xN ?_)); clear H; intro w H))
      refine ⟨H.objE mm, ?_⟩
      replace H := H.putO (o' := rec .ready none) mm (hrec' _ _) _ (by repeat first | exact Upd.head | apply Upd.tail)
      exact H
    · rw [if_neg hv]
      (repeat first | refine go ?_ | ((try conv => whnf); (first | (refine St_gate ?_; refine xS ?_) | (refine StN_gate ?_; refine xN ?_)); clear H; intro w H))
      refine ⟨H.objE mm, ?_⟩
      replace H := H.putO (o' := rec .ready none) mm (hrec' _ _) _ (by repeat first | exact Upd.head | apply Upd.tail)
      exact H
  · intro w H
    refine ⟨H.objE mm, ?_⟩
    replace H := H.putO (o' := rec .exhausted none) mm (hrec' _ _) _ (by repeat first | exact Upd.head | apply Upd.tail)
    generalize w.putObj rl (rec .exhausted none) = w at H ⊢
    (repeat first | refine go ?_ | ((try conv => whnf); (first | (refine St_gate ?_; refine xS ?_) | (refine StN_gate ?_; refine xN ?_)); clear H; intro w H))
    refine ⟨H.objE mm, ?_⟩
    replace H := H.putO (b := D) (o' := .deferred none) mm rfl _ (by repeat first | exact Upd.head | apply Upd.tail)
    (repeat first | refine go ?_ | ((try conv => whnf); (first | (refine St_gate ?_; refine xS ?_) | (refine StN_gate ?_; refine xN ?_)); clear H; intro w H))
    replace H := H.tail.tail.tail.tail
    replace H := H.tp 12
    replace H := H.drop 13 rfl rfl
    replace H := H.drop 12 rfl rfl
    replace H := H.drop 11 rfl rfl
    replace H := H.drop 10 rfl rfl
    replace H := H.row 0 1 1 rfl rfl (by decide) rfl
    replace H := H.tp 9
    replace H := H.tp 9
    replace H := H.tp 9
    replace H := H.tp 9
    replace H := H.tp 9
    replace H := H.tp 9
    replace H := H.tp 9
    replace H := H.tp 8
    replace H := H.tp 9
    replace H := solClose H
    replace H := H.tp 1
    exact Ret_in ⟨_, _, rfl, H⟩
  · rintro c w hf
    exact hf.elim
end
end Go.Proofs.YtcibiidebknkgaaGreat
/-! A solver without conflicts. -/
set_option linter.unusedVariables false
set_option linter.unusedSimpArgs false
namespace Go.Proofs.YtcibiidebknkgaaGreat
open Go Go.Vc Go.Watch Go.Lit
open Go.Trail (Ent value find upto okLit litsV)
set_option maxHeartbeats 4000000
set_option maxRecDepth 100000
section
variable {w0 w : World} {l : List Res} {b : Nat} {x : Sol} {n k m : Nat} {L : List (List Int)} {cs : List Int} {ca : Option Addr} {cc eb : Nat}
theorem Sol.Ok.ext (h : x.Ok n L k m) {s' : St} {m' : Nat} (hv : Sv n L (x.lr.map (·.1)) k m' s') (hx : Ext x.s s') (hm : m ≤ m') : ({ x with s := s' } : Sol).Ok n L k m' := by
  refine { h with sv := hv, wt := fun v h1 h2 h3 => ?_, lg := Nat.le_trans h.lg hm }
  have h4 := h.wt v h1 h2 h3
  obtain ⟨G, hG, _⟩ := hx.E
  show find s'.E (v : Int) ≠ none
  rw [hG]
  unfold Trail.find at h4 ⊢
  rw [List.find?_append]
  intro h5
  rw [Option.or_eq_none_iff] at h5
  exact h4 h5.1
/-- Propagate. -/
theorem sProp (H : Sep w0 w (engR eb x.s :: l)) (h : x.Ok n L k m) (hm : m + (n + 1) * (k + 1) ≤ 400000000000) :
    Does Tryz.prog 50 #[.pointer (some ⟨eb, 0, none⟩)] w fun v w' => ∃ s', ({ x with s := s' } : Sol).Ok n L k (m + (n + 1) * (k + 1)) ∧ Ext x.s s' ∧ Sep w0 w' (engR eb s' :: l) ∧
      ((v = .int .i64 (-1) ∧ s'.F = [] ∧ s'.h = s'.E.length) ∨ ∃ id c, v = idV id ∧ id < k ∧ s'.C[id]? = some c ∧ c.on = true ∧ c.idle = false ∧ ∀ y ∈ c.lits, tru s'.E (-y)) := by
  have hfew := h.sv.few
  have hC := h.sv.fewC
  have hk := h.kk
  have hl : loadS x.s + x.s.C.length ≤ m + (n + 1) * (k + 1) := by
    unfold loadS
    rw [h.sv.n]
    have h1 : (n - x.s.h) * (x.s.C.length + 1) ≤ n * (k + 1) := Nat.mul_le_mul (by omega) (by omega)
    rw [Nat.succ_mul]
    omega
  refine (ePropagate H h.sv.good (by omega) (by omega)).mono ?_
  rintro v w' ⟨s', g, hx, lo, H, hv⟩
  have h' := h.sv.ext g hx (m' := m + (n + 1) * (k + 1)) (by unfold loadS at lo; unfold loadS at hl; omega)
  refine ⟨s', h.ext h' hx (by omega), hx, H, hv.imp id ?_⟩
  rintro ⟨id, c, h1, h2, h3⟩
  have := (List.getElem?_eq_some_iff.1 h2).1
  have := h'.fewC
  exact ⟨id, c, h1, by omega, h2, h3⟩

theorem Sol.Ok.setM (h : x.Ok n L k m) (ms : List Bool) : ({ x with model := ms } : Sol).Ok n L k m := { h with }
/-- All have a value: they hold. -/
theorem Sol.Ok.model (h : x.Ok n L k m) (hF : x.s.F = []) (hh : x.s.h = x.s.E.length) (hall : ∀ v : Nat, 1 ≤ v → v ≤ n → find x.s.E (v : Int) ≠ none) : ∀ c ∈ L, hol (modelS x n) c :=
  h.sv.model hF hh hall model_len fun i hi => by
    unfold modelS
    rw [List.getD_eq_getElem?_getD, List.getElem?_map, List.getElem?_range hi]; rfl
/-- At the level 0 there is no conflict where they can hold. -/
theorem Sol.Ok.noConf (h : x.Ok n L k m) (hD : x.s.D = 0) {vs : List Bool} (hv : ∀ c ∈ L, hol vs c) {id : Nat} {c : Cls} (hc : x.s.C[id]? = some c) (h1 : c.on = true) (h2 : c.idle = false) (hf : ∀ y ∈ c.lits, tru x.s.E (-y)) : False := by
  refine h.sv.never hc h1 h2 hf (fun y hy => ?_) vs hv
  have := (h.sv.good.lv_few (Trail.var y)).2
  omega
/-- A solver's search that ends at the level 0: they hold. -/
theorem sSearchY (H : Sep w0 w (solR b x :: l)) (h : x.Ok n L k m) (hD : x.s.D = 0) {vs : List Bool} (hv : ∀ c ∈ L, hol vs c) (hm : m + (n + 1) * (k + 1) ≤ 400000000000)
    (hall : ∀ s', Sv n L (x.lr.map (·.1)) k (m + (n + 1) * (k + 1)) s' → s'.D = 0 → s'.F = [] → s'.h = s'.E.length → ∀ v : Nat, 1 ≤ v → v ≤ n → find s'.E (v : Int) ≠ none) :
    Does Tryz.prog 24 #[.pointer (some ⟨b, 0, none⟩), .int .i64 (-1), .slice none 0 0] w fun v w' => v = .int .i64 1 ∧ ∃ y : Sol, y.Ok n L k (m + (n + 1) * (k + 1)) ∧ y.s.D = 0 ∧ y.model.length = n ∧ (∀ c ∈ L, hol y.model c) ∧ y.core = x.core ∧ Sep w0 w' (solR b y :: l) := by
  refine Does_intro tok (Tryz.call24 _ _) Tryz.func24 rfl (by rfl) ?_
  have hbr : x.broken = false := by
    cases hb : x.broken with
    | false => rfl
    | true => exact (h.brk hb vs hv).elim
  obtain ⟨r, H⟩ := solOpen H
  (repeat first | refine go ?_ | ((try conv => whnf); (first | (refine St_gate ?_; refine xS ?_) | (refine StN_gate ?_; refine xN ?_)); clear H; intro w H))
  refine Loop_intro (fun _ : Unit => []) (fun _ w' => w = w') (fun _ => 0) () trivial rfl ?_
  rintro _ _ rfl
  (repeat first | refine go ?_ | ((try conv => whnf); (first | (refine St_gate ?_; refine xS ?_) | (refine StN_gate ?_; refine xN ?_)); clear H; intro w H))
  refine xC ?_ hbr
  (repeat first | refine go ?_ | ((try conv => whnf); (first | (refine St_gate ?_; refine xS ?_) | (refine StN_gate ?_; refine xN ?_)); clear H; intro w H))
  replace H := H.tp 1
  refine Call_of (sProp H h hm) ?_
  clear H
  rintro _ w ⟨s', h', hx, H, ⟨rfl, hF, hh⟩ | ⟨id, c, rfl, _, h1, h2, h3, h4⟩⟩
  case inr => exact (h'.noConf (hx.D.trans hD) hv h1 h2 h3 h4).elim
  replace H := H.tp 1
  (repeat first | refine go ?_ | ((try conv => whnf); (first | (refine St_gate ?_; refine xS ?_) | (refine StN_gate ?_; refine xN ?_)); clear H; intro w H))
  replace H := solClose (x := { x with s := s' }) H
  refine Call_of (sNext H h') ?_
  clear H
  rintro _ w ⟨K, y, rfl, hnx, hy, H⟩
  have hall' := hall s' h'.sv (hx.D.trans hD) hF hh
  have hy0 : y = 0 := by
    rcases hy with ⟨hy, _⟩ | ⟨h1, h2, h3⟩
    · exact hy
    · have h4 : find s'.E (Trail.var y : Int) = none := val_zero h'.sv.good.inv h1 h3
      exact (hall' _ (Trail.var_pos.2 h1) h2 h4).elim
  subst hy0
  have hok : ({ x with s := s', K := K } : Sol).Ok n L k (m + (n + 1) * (k + 1)) := { h' with kl := hnx.kl, wt := fun v h1 h2 _ => hall' v h1 h2 }
  (repeat first | refine go ?_ | ((try conv => whnf); (first | (refine St_gate ?_; refine xS ?_) | (refine StN_gate ?_; refine xN ?_)); clear H; intro w H))
  refine Call_of (sYes H hok) ?_
  clear H
  rintro _ w ⟨rfl, H⟩
  (repeat first | refine go ?_ | ((try conv => whnf); (first | (refine St_gate ?_; refine xS ?_) | (refine StN_gate ?_; refine xN ?_)); clear H; intro w H))
  exact Ret_in ⟨rfl, { x with s := s', K := K, model := modelS { x with s := s', K := K } n }, hok.setM _, hx.D.trans hD, model_len, hok.model hF hh hall', rfl, H⟩
/-- The same, but with an assumption that is false. -/
theorem sNextA (H : Sep w0 w (solR b x :: l)) (h : x.Ok n L k m) {a : Option Addr} {c : Nat} {y : Int} (hs : ∀ {w' : World} {l' : List Res}, Sep w0 w' (l' ++ l) → Src w' a 1 1 [lV y]) (hv : value x.s.E y = -1) : Does Tryz.prog 53 #[.pointer (some ⟨b, 0, none⟩), .slice a 1 c] w fun v w' => v = .tuple #[lV y, .bool true] ∧ w = w' := by
  refine Does_intro tok (Tryz.call53 _ _) Tryz.func53 rfl (by rfl) ?_
  have hsrc := hs (l' := [_]) H
  obtain ⟨yb, yo, rfl⟩ := hsrc.addr (by simp)
  (repeat first | refine go ?_ | ((try conv => whnf); (first | (refine St_gate ?_; refine xS ?_) | (refine StN_gate ?_; refine xN ?_)); clear H; intro w H))
  refine Loop_intro (fun _ : Unit => [(13, .int .i64 0)]) (fun _ w' => w = w') (fun _ => 0) () ⟨rfl, trivial⟩ rfl ?_
  rintro _ _ rfl
  refine Br_dec_yes (by omega) ?_
  refine Ix_in 0 rfl (by omega) ?_
  refine Ld_src (j := 0) hsrc (v := lV y) rfl ?_
  clear hsrc
  obtain ⟨r, H⟩ := solOpen H
  (repeat first | refine go ?_ | ((try conv => whnf); (first | (refine St_gate ?_; refine xS ?_) | (refine StN_gate ?_; refine xN ?_)); clear H; intro w H))
  replace H := H.tp 1
  obtain ⟨q, hq, H⟩ := engOpen H
  (repeat first | refine go ?_ | ((try conv => whnf); (first | (refine St_gate ?_; refine xS ?_) | (refine StN_gate ?_; refine xN ?_)); clear H; intro w H))
  refine Call_of (sTrailValue H mm) ?_
  rintro _ _ ⟨rfl, rfl⟩
  rw [hv]
  (repeat first | refine go ?_ | ((try conv => whnf); (first | (refine St_gate ?_; refine xS ?_) | (refine StN_gate ?_; refine xN ?_)); clear H; intro w H))
  exact Ret_in ⟨rfl, rfl⟩
theorem sSearchN (H : Sep w0 w (solR b x :: l)) (h : x.Ok n L k m) (hD : x.s.D = 0) {vs : List Bool} (hv : ∀ c ∈ L, hol vs c) (hm : m + (n + 1) * (k + 1) ≤ 400000000000)
    {a : Option Addr} {c : Nat} {y : Int} (hs : ∀ {w' : World} {l' : List Res}, Sep w0 w' (l' ++ l) → Src w' a 1 1 [lV y]) (hyb : -2147483647 ≤ y ∧ y ≤ 2147483647)
    (hall : ∀ s', Sv n L (x.lr.map (·.1)) k (m + (n + 1) * (k + 1)) s' → s'.D = 0 → s'.F = [] → s'.h = s'.E.length → value s'.E y = -1) :
    Does Tryz.prog 24 #[.pointer (some ⟨b, 0, none⟩), .int .i64 (-1), .slice a 1 c] w fun v w' => v = .int .i64 2 ∧ ∃ z : Sol, z.Ok n L k (m + (n + 1) * (k + 1) + 1) ∧ z.s.D = 0 ∧ z.model = x.model ∧ z.core = [y] ∧ Sep w0 w' (solR b z :: l) := by
  refine Does_intro tok (Tryz.call24 _ _) Tryz.func24 rfl (by rfl) ?_
  have hbr : x.broken = false := by
    cases hb : x.broken with
    | false => rfl
    | true => exact (h.brk hb vs hv).elim
  obtain ⟨r, H⟩ := solOpen H
  (repeat first | refine go ?_ | ((try conv => whnf); (first | (refine St_gate ?_; refine xS ?_) | (refine StN_gate ?_; refine xN ?_)); clear H; intro w H))
  refine Loop_intro (fun _ : Unit => []) (fun _ w' => w = w') (fun _ => 0) () trivial rfl ?_
  rintro _ _ rfl
  (repeat first | refine go ?_ | ((try conv => whnf); (first | (refine St_gate ?_; refine xS ?_) | (refine StN_gate ?_; refine xN ?_)); clear H; intro w H))
  refine xC ?_ hbr
  (repeat first | refine go ?_ | ((try conv => whnf); (first | (refine St_gate ?_; refine xS ?_) | (refine StN_gate ?_; refine xN ?_)); clear H; intro w H))
  replace H := H.tp 1
  refine Call_of (sProp H h hm) ?_
  clear H
  rintro _ w ⟨s', h', hx, H, ⟨rfl, hF, hh⟩ | ⟨id, c, rfl, _, h1, h2, h3, h4⟩⟩
  case inr => exact (h'.noConf (hx.D.trans hD) hv h1 h2 h3 h4).elim
  replace H := H.tp 1
  (repeat first | refine go ?_ | ((try conv => whnf); (first | (refine St_gate ?_; refine xS ?_) | (refine StN_gate ?_; refine xN ?_)); clear H; intro w H))
  replace H := solClose (x := { x with s := s' }) H
  refine Call_of (sNextA H h' hs (hall s' h'.sv (hx.D.trans hD) hF hh)) ?_
  rintro _ _ ⟨rfl, rfl⟩
  (repeat first | refine go ?_ | ((try conv => whnf); (first | (refine St_gate ?_; refine xS ?_) | (refine StN_gate ?_; refine xN ?_)); clear H; intro w H))
  refine Call_of (sBlame0 H h' (hx.D.trans hD)) ?_
  clear H
  rintro _ w ⟨ba, bc, rfl, H⟩
  (repeat first | refine go ?_ | ((try conv => whnf); (first | (refine St_gate ?_; refine xS ?_) | (refine StN_gate ?_; refine xN ?_)); clear H; intro w H))
  refine Call_of (sNo (cs := [y]) H h' (by show 1 ≤ 1000000; decide) (fun z hz => by rw [List.mem_singleton] at hz; subst hz; exact hyb) (by omega)) ?_
  clear H
  rintro _ w ⟨rfl, H⟩
  (repeat first | refine go ?_ | ((try conv => whnf); (first | (refine St_gate ?_; refine xS ?_) | (refine StN_gate ?_; refine xN ?_)); clear H; intro w H))
  exact Ret_in ⟨rfl, { x with s := s', core := [y], lg := x.lg + 1 }, { h' with sv := h'.sv.mono (Nat.le_refl _) (Nat.le_succ _), lg := Nat.succ_le_succ h'.lg }, hx.D.trans hD, rfl, rfl, H⟩

/-- Back to the level at which one is. -/
theorem sBack0 (H : Sep w0 w (solR b x :: l)) (hD : x.s.D = 0) : Does Tryz.prog 25 #[.pointer (some ⟨b, 0, none⟩), .int .i64 0] w fun v w' => Sep w0 w' (solR b x :: l) := by
  refine DoesM_intro tok (Tryz.call25 _ _) Tryz.func25 rfl (by rfl) ?_
  (repeat first | refine go ?_ | ((try conv => whnf); (first | (refine St_gate ?_; refine xS ?_) | (refine StN_gate ?_; refine xN ?_)); clear H; intro w H))
  (refine Nw_sep H ?_; clear H; intro sb w H; (try simp only [Value.cells, List.toList_toArray, List.append_nil, List.cons_append, List.nil_append] at H))
  (repeat first | refine go ?_ | ((try conv => whnf); (first | (refine St_gate ?_; refine xS ?_) | (refine StN_gate ?_; refine xN ?_)); clear H; intro w H))
  (refine Nw_sep H ?_; clear H; intro vb w H; (try simp only [Value.cells, List.toList_toArray, List.append_nil, List.cons_append, List.nil_append] at H))
  (repeat first | refine go ?_ | ((try conv => whnf); (first | (refine St_gate ?_; refine xS ?_) | (refine StN_gate ?_; refine xN ?_)); clear H; intro w H))
  refine Draw_intro mixed [0, 1, 2, 3, 4, 5, 6, 7, 8, 9] (by decide +kernel) (fun w _ fd => ?_); replace H := H.fr fd; clear fd
  replace H := H.tp 2
  obtain ⟨r, H⟩ := solOpen H
  (repeat first | refine go ?_ | ((try conv => whnf); (first | (refine St_gate ?_; refine xS ?_) | (refine StN_gate ?_; refine xN ?_)); clear H; intro w H))
  replace H := H.tp 1
  obtain ⟨q, hq, H⟩ := engOpen H
  (repeat first | refine go ?_ | ((try conv => whnf); (first | (refine St_gate ?_; refine xS ?_) | (refine StN_gate ?_; refine xN ?_)); clear H; intro w H))
  refine Call_of (sTrailDepth H mm) ?_
  rintro _ _ ⟨rfl, rfl⟩
  rw [hD]
  (try conv => whnf)
  (repeat (refine Kept_gate ?_; refine xK ?_))
  replace H := engClose hq H
  replace H := H.tp 1
  (repeat first | refine go ?_ | ((try conv => whnf); (first | (refine St_gate ?_; refine xS ?_) | (refine StN_gate ?_; refine xN ?_)); clear H; intro w H))
  refine Ret_in ?_
  have H2 := solClose H
  exact (H2.drop 2 rfl rfl).drop 1 rfl rfl
end
end Go.Proofs.YtcibiidebknkgaaGreat
/-! A solver: Solve, Model, Core. -/
set_option linter.unusedVariables false
set_option linter.unusedSimpArgs false
namespace Go.Proofs.YtcibiidebknkgaaGreat
open Go Go.Vc Go.Watch Go.Lit
open Go.Trail (Ent value find upto okLit litsV)
set_option maxHeartbeats 4000000
set_option maxRecDepth 100000
theorem cloneB {w0 w : World} {l : List Res} (H : Sep w0 w l) {a : Option Addr} {m c : Nat} {ys : List Value} (h : Src w a m 1 ys) (h1 : ∀ u ∈ ys, oneCell u = true) (hm : m ≤ 35184372087808) : Does Tryz.prog 29 #[.slice a m c] w fun v w' =>
    ∃ a' c', v = .slice a' m c' ∧ Sep w0 w' (ownR a' m c' 4 1 ys :: l) := by
  refine Does_intro tok (Tryz.call29 _ _) Tryz.func29 rfl (by rfl) ?_
  refine Do_slice_eq_nil tok rfl ?_
  cases a with
  | none =>
    refine Br_true ?_
    have hm0 : m = 0 := by
      have hl := h.1
      cases m with
      | zero => rfl
      | succ m =>
        have hlt : 0 < ys.length := by omega
        obtain ⟨p, hp, _⟩ := h.2 0 _ (List.getElem?_eq_getElem hlt)
        cases hp
    subst hm0
    have : ys = [] := List.length_eq_zero_iff.1 (by have := h.1; omega)
    subst this
    exact Ret_in ⟨none, 0, rfl, Own.nilR H _ _⟩
  | some p =>
    refine Br_false ?_
    have H0 := Sep.nil w
    refine Nw_sep H0 (cs := []) fun b1 w1 H1 => ?_
    have hs1 := H1.rd h
    replace H := H.add H1
    refine DoN_gate ?_
    refine append_new tok H rfl rfl rfl rfl rfl (by decide) (.head _) hs1 h1 (by omega) (by unfold maxLen; omega) ?_
    intro a' c' w' H2
    (repeat first | refine go ?_ | ((try conv => whnf); (first | (refine St_gate ?_; refine xS ?_) | (refine StN_gate ?_; refine xN ?_)); clear H; intro w H))
    exact Ret_in ⟨a', c', rfl, H2 _ .head⟩

section
variable {w0 w : World} {l : List Res} {b : Nat} {x : Sol} {n k m : Nat} {L : List (List Int)} {cs : List Int} {ca : Option Addr} {cc eb : Nat}
def clrS (x : Sol) : Sol := { x with model := [], core := [] }
theorem Sol.Ok.clr (h : x.Ok n L k m) : (clrS x).Ok n L k m := { h with }
theorem srcNil (w : World) : Src w none ([] : List Int).length 1 (([] : List Int).map lV) := ⟨rfl, fun j u hj => by simp at hj⟩
/-- A part of Solve: what was answered is forgotten. -/
theorem sSolve (H : Sep w0 w (solR b x :: l)) (h : x.Ok n L k m) {bu : Int} {xs : List Int} {a : Option Addr} {c : Nat} (hs : ∀ {w' : World} {l' : List Res}, Sep w0 w' (l' ++ l) → Src w' a xs.length 1 (xs.map lV)) (hx : xs.length ≤ 35184372087808) (hf : fitB n xs = true) {v0 : Int} {Q : Sol → Prop}
    (hq : ∀ y, Q y → y.s.D = 0)
    (hc : ∀ {w}, Sep w0 w (solR b (clrS x) :: l) → Does Tryz.prog 24 #[.pointer (some ⟨b, 0, none⟩), .int .i64 bu, .slice a xs.length c] w fun v w' => v = .int .i64 v0 ∧ ∃ y, Q y ∧ Sep w0 w' (solR b y :: l)) :
    Does Tryz.prog 10 #[.pointer (some ⟨b, 0, none⟩), .int .i64 bu, .slice a xs.length c] w fun v w' => v = .tuple #[.int .i64 v0, .int .i64 0] ∧ ∃ y, Q y ∧ Sep w0 w' (solR b y :: l) := by
  refine Does_intro tok (Tryz.call10 _ _) Tryz.func10 rfl (by rfl) ?_
  (repeat first | refine go ?_ | ((try conv => whnf); (first | (refine St_gate ?_; refine xS ?_) | (refine StN_gate ?_; refine xN ?_)); clear H; intro w H))
  refine Call_of (sKnown H h hs hx) ?_
  clear H
  rintro _ w ⟨rfl, H⟩
  rw [hf]
  obtain ⟨r, H⟩ := solOpen H
  (repeat first | refine go ?_ | ((try conv => whnf); (first | (refine St_gate ?_; refine xS ?_) | (refine StN_gate ?_; refine xN ?_)); clear H; intro w H))
  replace H := H.drop 7 rfl rfl
  replace H := H.drop 6 rfl rfl
  replace H := Own.nilR H 29 1
  replace H := Own.nilR H 4 1
  replace H := H.tp 7
  replace H := H.tp 7
  replace H := H.tp 7
  replace H := H.tp 7
  replace H := H.tp 7
  replace H := H.tp 7
  replace H := solClose (x := clrS x) (r := { r with ma := none, mm := 0, ca := none, ck := 0 }) H
  refine Call_of (hc H) ?_
  clear H
  rintro _ w ⟨rfl, y, hy, H⟩
  (repeat first | refine go ?_ | ((try conv => whnf); (first | (refine St_gate ?_; refine xS ?_) | (refine StN_gate ?_; refine xN ?_)); clear H; intro w H))
  refine Call_of (sBack0 H (hq y hy)) ?_
  clear H
  rintro _ w H
  (repeat first | refine go ?_ | ((try conv => whnf); (first | (refine St_gate ?_; refine xS ?_) | (refine StN_gate ?_; refine xN ?_)); clear H; intro w H))
  exact Ret_in ⟨rfl, y, hy, H⟩
/-- What can't be assumed. -/
theorem sSolve_no (H : Sep w0 w (solR b x :: l)) (h : x.Ok n L k m) {bu : Int} {xs : List Int} {a : Option Addr} {c : Nat} (hs : ∀ {w' : World} {l' : List Res}, Sep w0 w' (l' ++ l) → Src w' a xs.length 1 (xs.map lV)) (hx : xs.length ≤ 35184372087808) (hf : fitB n xs = false) :
    Does Tryz.prog 10 #[.pointer (some ⟨b, 0, none⟩), .int .i64 bu, .slice a xs.length c] w fun v w' => v = .tuple #[.int .i64 0, .int .i64 81] ∧ Sep w0 w' (solR b x :: l) := by
  refine Does_intro tok (Tryz.call10 _ _) Tryz.func10 rfl (by rfl) ?_
  (repeat first | refine go ?_ | ((try conv => whnf); (first | (refine St_gate ?_; refine xS ?_) | (refine StN_gate ?_; refine xN ?_)); clear H; intro w H))
  refine Call_of (sKnown H h hs hx) ?_
  clear H
  rintro _ w ⟨rfl, H⟩
  rw [hf]
  (repeat first | refine go ?_ | ((try conv => whnf); (first | (refine St_gate ?_; refine xS ?_) | (refine StN_gate ?_; refine xN ?_)); clear H; intro w H))
  exact Ret_in ⟨rfl, H⟩
theorem sModel (H : Sep w0 w (solR b x :: l)) (hl : x.model.length ≤ 1000000) : Does Tryz.prog 14 #[.pointer (some ⟨b, 0, none⟩)] w fun v w' => ∃ a c, v = .slice a x.model.length c ∧ Sep w0 w' (ownR a x.model.length c 4 1 (x.model.map boV) :: solR b x :: l) := by
  refine Does_intro tok (Tryz.call14 _ _) Tryz.func14 rfl (by rfl) ?_
  obtain ⟨r, H⟩ := solOpen H
  (repeat first | refine go ?_ | ((try conv => whnf); (first | (refine St_gate ?_; refine xS ?_) | (refine StN_gate ?_; refine xN ?_)); clear H; intro w H))
  refine Call_of (cloneB H (H.srcM (a := r.ma) (n := x.model.length) (cap := r.mm) (el := 4) (sz := 1) (xs := x.model.map boV) mm) (fun u hu => by obtain ⟨z, _, rfl⟩ := List.mem_map.1 hu; rfl) (by omega)) ?_
  clear H
  rintro _ w ⟨a, c, rfl, H⟩
  (repeat first | refine go ?_ | ((try conv => whnf); (first | (refine St_gate ?_; refine xS ?_) | (refine StN_gate ?_; refine xN ?_)); clear H; intro w H))
  replace H := H.tp 9
  replace H := H.tp 9
  replace H := H.tp 9
  replace H := H.tp 9
  replace H := H.tp 9
  replace H := H.tp 9
  replace H := H.tp 9
  replace H := H.tp 9
  replace H := H.tp 9
  replace H := solClose H
  replace H := H.tp 1
  exact Ret_in ⟨a, c, rfl, H⟩
theorem sCore (H : Sep w0 w (solR b x :: l)) (hl : x.core.length ≤ 1000000) : Does Tryz.prog 16 #[.pointer (some ⟨b, 0, none⟩)] w fun v w' => ∃ a c, v = .slice a x.core.length c ∧ Sep w0 w' (ownR a x.core.length c 29 1 (x.core.map lV) :: solR b x :: l) := by
  refine Does_intro tok (Tryz.call16 _ _) Tryz.func16 rfl (by rfl) ?_
  obtain ⟨r, H⟩ := solOpen H
  (repeat first | refine go ?_ | ((try conv => whnf); (first | (refine St_gate ?_; refine xS ?_) | (refine StN_gate ?_; refine xN ?_)); clear H; intro w H))
  refine Call_of (cloneL H (H.srcM (a := r.ca) (n := x.core.length) (cap := r.ck) (el := 29) (sz := 1) (xs := x.core.map lV) mm) (fun u hu => by obtain ⟨z, _, rfl⟩ := List.mem_map.1 hu; rfl) (by omega)) ?_
  clear H
  rintro _ w ⟨a, c, rfl, H⟩
  (repeat first | refine go ?_ | ((try conv => whnf); (first | (refine St_gate ?_; refine xS ?_) | (refine StN_gate ?_; refine xN ?_)); clear H; intro w H))
  replace H := H.tp 9
  replace H := H.tp 9
  replace H := H.tp 9
  replace H := H.tp 9
  replace H := H.tp 9
  replace H := H.tp 9
  replace H := H.tp 9
  replace H := H.tp 9
  replace H := H.tp 9
  replace H := solClose H
  replace H := H.tp 1
  exact Ret_in ⟨a, c, rfl, H⟩
end
end Go.Proofs.YtcibiidebknkgaaGreat
/-! The chapter's examples. -/
set_option linter.unusedVariables false
set_option linter.unusedSimpArgs false
namespace Go.Proofs.YtcibiidebknkgaaGreat
open Go Go.Vc Go.Watch Go.Lit
open Go.Trail (Ent value find upto okLit litsV)
set_option maxHeartbeats 8000000
set_option maxRecDepth 100000
section
variable {w : World}
theorem rSame {xs ys : List Int} {a b : Option Addr} {c d : Nat} (hs : Src w a xs.length 1 (xs.map lV)) (ht : Src w b ys.length 1 (ys.map lV)) (hm : xs.length ≤ 9223372036854775807) : Does Tryz.prog 26 #[.slice a xs.length c, .slice b ys.length d] w fun v w' => v = .bool (decide (xs = ys)) ∧ Sep w w' [] := by
  have H := Sep.nil w
  refine Does_intro tok (Tryz.call26 _ _) Tryz.func26 rfl (by rfl) ?_
  by_cases hl : xs.length = ys.length
  case neg =>
    (repeat first | refine go ?_ | ((try conv => whnf); (first | (refine St_gate ?_; refine xS ?_) | (refine StN_gate ?_; refine xN ?_)); clear H; intro w H))
    exact Ret_in ⟨vbool (decide_eq_false (fun e => hl (by rw [e]))).symm, H⟩
  (repeat first | refine go ?_ | ((try conv => whnf); (first | (refine St_gate ?_; refine xS ?_) | (refine StN_gate ?_; refine xN ?_)); clear H; intro w H))
  refine Loop_intro (fun i : Nat => [(13, .int .i64 (i : Int))]) (fun i w' => Sep w w' [] ∧ i ≤ xs.length ∧ xs.take i = ys.take i) (fun i => xs.length - i) 0 ⟨rfl, trivial⟩ ⟨H, Nat.zero_le _, by simp⟩ ?_
  clear H
  rintro i w1 ⟨H, hi, hno⟩
  simp only [] at hi hno ⊢
  refine Br_dec (fun k1 => ?_) (fun k1 => ?_)
  · have hlt : i < xs.length := by omega
    obtain ⟨b1, o1, rfl⟩ := hs.addr (by rw [List.length_map]; omega)
    obtain ⟨b2, o2, rfl⟩ := ht.addr (by rw [List.length_map]; omega)
    have hx : xs[i]? = some xs[i] := List.getElem?_eq_getElem hlt
    have hy : ys[i]? = some (ys[i]'(by omega)) := List.getElem?_eq_getElem (by omega)
    generalize xs[i] = x at *
    generalize ys[i]'(by omega) = y at *
    (repeat first | refine go ?_ | ((try conv => whnf); (first | (refine St_gate ?_; refine xS ?_) | (refine StN_gate ?_; refine xN ?_)); clear H; intro w H))
    refine Draw_intro mixed [0, 1, 2, 3, 4, 5, 6, 7, 8] (by decide +kernel) (fun w _ fd => ?_); replace H := H.fr fd; clear fd
    (repeat first | refine go ?_ | ((try conv => whnf); (first | (refine St_gate ?_; refine xS ?_) | (refine StN_gate ?_; refine xN ?_)); clear H; intro w H))
    refine Ix_in i rfl hlt ?_
    refine Ld_src (j := i) (H.rd hs) (v := lV x) (by rw [List.getElem?_map, hx]; rfl) ?_
    (repeat first | refine go ?_ | ((try conv => whnf); (first | (refine St_gate ?_; refine xS ?_) | (refine StN_gate ?_; refine xN ?_)); clear H; intro w H))
    refine Ix_in i rfl (by omega) ?_
    refine Ld_src (j := i) (H.rd ht) (v := lV y) (by rw [List.getElem?_map, hy]; rfl) ?_
    (repeat first | refine go ?_ | ((try conv => whnf); (first | (refine St_gate ?_; refine xS ?_) | (refine StN_gate ?_; refine xN ?_)); clear H; intro w H))
    by_cases he : x = y
    · subst he
      (repeat first | refine go ?_ | ((try conv => whnf); (first | (refine St_gate ?_; refine xS ?_) | (refine StN_gate ?_; refine xN ?_)); clear H; intro w H))
      refine ⟨i + 1, ⟨congrArg some (vint (by omega)), trivial⟩, ⟨H, by omega, ?_⟩, by omega⟩
      rw [List.take_add_one, List.take_add_one, hno, hx, hy]
    · (repeat first | refine go ?_ | ((try conv => whnf); (first | (refine St_gate ?_; refine xS ?_) | (refine StN_gate ?_; refine xN ?_)); clear H; intro w H))
      refine Ret_in ⟨vbool (decide_eq_false (fun e => he ?_)).symm, H⟩
      subst e
      rw [hx] at hy
      exact Option.some.inj hy
  · obtain rfl : i = xs.length := by omega
    rw [List.take_length, hl, List.take_length] at hno
    (repeat first | refine go ?_ | ((try conv => whnf); (first | (refine St_gate ?_; refine xS ?_) | (refine StN_gate ?_; refine xN ?_)); clear H; intro w H))
    exact Ret_in ⟨vbool (decide_eq_true hno).symm, H⟩
end
section
variable {w0 w : World} {l : List Res} {b : Nat} {x : Sol} {n k m : Nat} {L : List (List Int)}
theorem sameS {xs ys : List Int} {a b : Option Addr} {c d : Nat} (H : Sep w0 w l) (hs : Src w a xs.length 1 (xs.map lV)) (ht : Src w b ys.length 1 (ys.map lV)) (hm : xs.length ≤ 9223372036854775807) : Does Tryz.prog 26 #[.slice a xs.length c, .slice b ys.length d] w fun v w' => v = .bool (decide (xs = ys)) ∧ Sep w0 w' l :=
  (rSame hs ht hm).mono fun _ _ h => ⟨h.1, H.add h.2⟩
/-- What is led to in the example. -/
theorem alive_led {lr : List Nat} {s : St} (h : Sv 2 [[1, 2], [-1]] lr k m s) (hD : s.D = 0) (hF : s.F = []) (hh : s.h = s.E.length) : tru s.E (-1) ∧ tru s.E 2 := by
  have h1 := h.unit (y := -1) hD hF hh (by simp) (by decide)
  exact ⟨h1, h.unit2 (y := 1) (z := 2) hD hF hh (by simp) (by decide) h1⟩
theorem alive_sat : ∀ c ∈ [[1, 2], [-1]], hol [false, true] c := by
  intro c hc
  simp only [List.mem_cons, List.not_mem_nil, or_false] at hc
  rcases hc with rfl | rfl
  · exact ⟨2, by simp, by decide⟩
  · exact ⟨-1, by simp, by decide⟩
theorem alive_model {ms : List Bool} (hl : ms.length = 2) (h : ∀ c ∈ [[1, 2], [-1]], hol ms c) : ms = [false, true] := by
  match ms, hl with
  | [p, q], _ =>
    obtain ⟨x, hx, h1⟩ := h [-1] (by simp)
    obtain ⟨z, hz, h2⟩ := h [1, 2] (by simp)
    rw [List.mem_singleton] at hx
    subst hx
    simp only [List.mem_cons, List.not_mem_nil, or_false] at hz
    cases p with
    | true => cases q <;> exact absurd h1 (by decide)
    | false =>
      cases q with
      | true => rfl
      | false => rcases hz with rfl | rfl <;> exact absurd h2 (by decide)
theorem qAliveS (W : World) : Does Tryz.prog 11 #[] W fun v w' => v = .bool true ∧ Sep W w' [] := by
  refine Does_intro tok (Tryz.call11 _ _) Tryz.func11 rfl (by rfl) ?_
  have H := Sep.nil W
  (repeat first | refine go ?_ | ((try conv => whnf); (first | (refine St_gate ?_; refine xS ?_) | (refine StN_gate ?_; refine xN ?_)); clear H; intro w H))
  refine Call_of (sNew H 0 0 0) ?_
  clear H
  rintro _ w ⟨b, pc, rfl, hpc, _, H⟩
  have h0 := Sol.Ok.sol0 (seed := 0) hpc
  have hD0 : (sol0 0 pc).s.D = 0 := rfl
  generalize sol0 0 pc = x0 at H h0 hD0
  (repeat first | refine go ?_ | ((try conv => whnf); (first | (refine St_gate ?_; refine xS ?_) | (refine StN_gate ?_; refine xN ?_)); clear H; intro w H))
  refine Call_of (sVar H h0 (by decide)) ?_
  clear H
  rintro _ w ⟨rfl, q1, H⟩
  have h1 := h0.grow (by decide) q1
  have hD1 : (growS x0 q1).s.D = 0 := hD0
  generalize growS x0 q1 = x1 at H h1 hD1
  (repeat first | refine go ?_ | ((try conv => whnf); (first | (refine St_gate ?_; refine xS ?_) | (refine StN_gate ?_; refine xN ?_)); clear H; intro w H))
  refine Call_of (sVar H h1 (by decide)) ?_
  clear H
  rintro _ w ⟨rfl, q2, H⟩
  have h2 := h1.grow (by decide) q2
  have hD2 : (growS x1 q2).s.D = 0 := hD1
  generalize growS x1 q2 = x2 at H h2 hD2
  (repeat first | refine go ?_ | ((try conv => whnf); (first | (refine St_gate ?_; refine xS ?_) | (refine StN_gate ?_; refine xN ?_)); clear H; intro w H))
  (refine Nw_sep H ?_; clear H; intro nb w H; (try simp only [Value.cells, List.toList_toArray, List.append_nil, List.cons_append, List.nil_append] at H))
  replace H := H.tp 1
  (repeat first | refine go ?_ | ((try conv => whnf); (first | (refine St_gate ?_; refine xS ?_) | (refine StN_gate ?_; refine xN ?_)); clear H; intro w H))
  refine Call_of (sAdd (xs := [1, 2]) H h2 (fun h => h.srcCM 2 1 (List.mem_append_right _ mm) rfl (by decide)) (by decide) (by decide) (by decide)) ?_
  clear H
  rintro _ w (⟨hf, _⟩ | ⟨hf, rfl, out, hcl, H⟩)
  · exact absurd hf (by decide)
  have h3 := h2.add hf hcl hD2 (by decide)
  have hD3 : (addS x2 [1, 2] out).s.D = 0 := (addP_E _ _ _).2.1.trans hD2
  generalize addS x2 [1, 2] out = x3 at H h3 hD3
  clear hcl hf
  (repeat first | refine go ?_ | ((try conv => whnf); (first | (refine St_gate ?_; refine xS ?_) | (refine StN_gate ?_; refine xN ?_)); clear H; intro w H))
  (refine Nw_sep H ?_; clear H; intro nc w H; (try simp only [Value.cells, List.toList_toArray, List.append_nil, List.cons_append, List.nil_append] at H))
  replace H := H.tp 1
  (repeat first | refine go ?_ | ((try conv => whnf); (first | (refine St_gate ?_; refine xS ?_) | (refine StN_gate ?_; refine xN ?_)); clear H; intro w H))
  refine Call_of (sAdd (xs := [-1]) H h3 (fun h => h.srcCM 1 1 (List.mem_append_right _ mm) rfl (by decide)) (by decide) (by decide) (by decide)) ?_
  clear H
  rintro _ w (⟨hf, _⟩ | ⟨hf, rfl, out2, hcl, H⟩)
  · exact absurd hf (by decide)
  have h4 : (addS x3 [-1] out2).Ok 2 [[1, 2], [-1]] 2 2 := h3.add hf hcl hD3 (by decide)
  have hD4 : (addS x3 [-1] out2).s.D = 0 := (addP_E _ _ _).2.1.trans hD3
  generalize addS x3 [-1] out2 = x4 at H h4 hD4
  clear hcl hf
  (repeat first | refine go ?_ | ((try conv => whnf); (first | (refine St_gate ?_; refine xS ?_) | (refine StN_gate ?_; refine xN ?_)); clear H; intro w H))
  refine Call_of (sSolve (xs := []) (v0 := 1) (Q := fun y : Sol => y.Ok 2 [[1, 2], [-1]] 2 11 ∧ y.s.D = 0 ∧ y.model.length = 2 ∧ (∀ c ∈ [[1, 2], [-1]], hol y.model c)) H h4 (fun _ => srcNil _) (by decide) (by decide) (fun y hy => hy.2.1) (fun H => (sSearchY H h4.clr hD4 alive_sat (by decide) ?_).mono ?_)) ?_
  · intro s' hs hd hF hh v hv1 hv2
    obtain ⟨e1, e2⟩ := alive_led hs hd hF hh
    rcases (by omega : v = 1 ∨ v = 2) with rfl | rfl
    · exact (hs.at_ (by decide) e1).2.2
    · exact (hs.at_ (by decide) e2).2.2
  · rintro v w' ⟨rfl, y, hy1, hy2, hy3, hy4, _, H⟩
    exact ⟨rfl, y, ⟨hy1, hy2, hy3, hy4⟩, H⟩
  clear H h0 h1 h2 h3 hD0 hD1 hD2 hD3 hD4 h4
  rintro _ w ⟨rfl, x5, ⟨h5, hD5, hl5, hm5⟩, H⟩
  have hm6 := alive_model hl5 hm5
  (repeat first | refine go ?_ | ((try conv => whnf); (first | (refine St_gate ?_; refine xS ?_) | (refine StN_gate ?_; refine xN ?_)); clear H; intro w H))
  refine Call_of (sModel H (by omega)) ?_
  clear H
  rintro _ w ⟨ma, mc, rfl, H⟩
  rw [hm6] at H
  rw [hl5]
  obtain ⟨mb, rfl⟩ := (H.ownM (a := ma) (n := [false, true].length) (cap := mc) (el := 4) (sz := 1) (xs := [false, true].map boV) mm).some (by decide)
  (repeat first | refine go ?_ | ((try conv => whnf); (first | (refine St_gate ?_; refine xS ?_) | (refine StN_gate ?_; refine xN ?_)); clear H; intro w H))
  (refine Nw_sep H ?_; clear H; intro na w H; (try simp only [Value.cells, List.toList_toArray, List.append_nil, List.cons_append, List.nil_append] at H))
  replace H := H.tp 2
  (repeat first | refine go ?_ | ((try conv => whnf); (first | (refine St_gate ?_; refine xS ?_) | (refine StN_gate ?_; refine xN ?_)); clear H; intro w H))
  refine Call_of (sSolve (xs := [-2]) (v0 := 2) (Q := fun y : Sol => y.Ok 2 [[1, 2], [-1]] 2 21 ∧ y.s.D = 0 ∧ y.model = [] ∧ y.core = [-2]) H h5 (fun h => h.srcCM 1 1 (List.mem_append_right _ mm) rfl (by decide)) (by decide) (by decide) (fun y hy => hy.2.1) (fun H => (sSearchN (y := -2) H h5.clr hD5 alive_sat (by decide) (fun h => h.srcCM 1 1 (List.mem_append_right _ mm) rfl (by decide)) (by decide) ?_).mono ?_)) ?_
  · intro s' hs hd hF hh
    exact (hs.at_ (by decide) (alive_led hs hd hF hh).2).2.1
  · rintro v w' ⟨rfl, y, hy1, hy2, hy3, hy4, H⟩
    exact ⟨rfl, y, ⟨hy1, hy2, hy3, hy4⟩, H⟩
  clear H
  rintro _ w ⟨rfl, x6, ⟨h6, hD6, hm6, hc6⟩, H⟩
  clear h5 hl5 hm5
  (repeat first | refine go ?_ | ((try conv => whnf); (first | (refine St_gate ?_; refine xS ?_) | (refine StN_gate ?_; refine xN ?_)); clear H; intro w H))
  refine Ix_in 0 rfl (by omega) ?_
  (repeat first | refine go ?_ | ((try conv => whnf); (first | (refine St_gate ?_; refine xS ?_) | (refine StN_gate ?_; refine xN ?_)); clear H; intro w H))
  refine Ld_mO (j := 0) H mm (v := .bool false) rfl ?_
  (repeat first | refine go ?_ | ((try conv => whnf); (first | (refine St_gate ?_; refine xS ?_) | (refine StN_gate ?_; refine xN ?_)); clear H; intro w H))
  refine Ix_in 1 rfl (by omega) ?_
  (repeat first | refine go ?_ | ((try conv => whnf); (first | (refine St_gate ?_; refine xS ?_) | (refine StN_gate ?_; refine xN ?_)); clear H; intro w H))
  refine Ld_mO (j := 1) H mm (v := .bool true) rfl ?_
  (repeat first | refine go ?_ | ((try conv => whnf); (first | (refine St_gate ?_; refine xS ?_) | (refine StN_gate ?_; refine xN ?_)); clear H; intro w H))
  refine Call_of (sCore H (by rw [hc6]; decide)) ?_
  clear H
  rintro _ w ⟨ca, cc, rfl, H⟩
  rw [hc6] at H
  rw [hc6]
  (repeat first | refine go ?_ | ((try conv => whnf); (first | (refine St_gate ?_; refine xS ?_) | (refine StN_gate ?_; refine xN ?_)); clear H; intro w H))
  (refine Nw_sep H ?_; clear H; intro nd w H; (try simp only [Value.cells, List.toList_toArray, List.append_nil, List.cons_append, List.nil_append] at H))
  (repeat first | refine go ?_ | ((try conv => whnf); (first | (refine St_gate ?_; refine xS ?_) | (refine StN_gate ?_; refine xN ?_)); clear H; intro w H))
  refine Call_of (sameS (xs := [-2]) (ys := [-2]) H (H.srcM (a := ca) (n := [-2].length) (cap := cc) (el := 29) (sz := 1) (xs := [-2].map lV) mm) (H.srcCM 1 1 (.head _) rfl (by decide)) (by decide)) ?_
  clear H
  rintro v w ⟨hv, H⟩
  obtain rfl : v = .bool true := hv
  replace H := H.tp 2
  (repeat first | refine go ?_ | ((try conv => whnf); (first | (refine St_gate ?_; refine xS ?_) | (refine StN_gate ?_; refine xN ?_)); clear H; intro w H))
  refine Call_of (sModel H (by rw [hm6]; decide)) ?_
  clear H
  rintro _ w ⟨mc2, mcc, rfl, H⟩
  rw [hm6]
  (repeat first | refine go ?_ | ((try conv => whnf); (first | (refine St_gate ?_; refine xS ?_) | (refine StN_gate ?_; refine xN ?_)); clear H; intro w H))
  exact Ret_in ⟨rfl, H.all⟩
theorem uNames8 (W : World) : Does Tryz.prog 3 #[] W fun v w' => v = .bool true ∧ Sep W w' [] := by
  refine Does_intro tok (Tryz.call3 _ _) Tryz.func3 rfl (by rfl) ?_
  have H := Sep.nil W
  (repeat first | refine go ?_ | ((try conv => whnf); (first | (refine St_gate ?_; refine xS ?_) | (refine StN_gate ?_; refine xN ?_)); clear H; intro w H))
  refine Call_of (sNew H 0 0 0) ?_
  clear H
  rintro _ w ⟨b, pc, rfl, hpc, _, H⟩
  have h0 := Sol.Ok.sol0 (seed := 0) hpc
  have hD0 : (sol0 0 pc).s.D = 0 := rfl
  generalize sol0 0 pc = x0 at H h0 hD0
  (repeat first | refine go ?_ | ((try conv => whnf); (first | (refine St_gate ?_; refine xS ?_) | (refine StN_gate ?_; refine xN ?_)); clear H; intro w H))
  (refine Nw_sep H ?_; clear H; intro na w H; (try simp only [Value.cells, List.toList_toArray, List.append_nil, List.cons_append, List.nil_append] at H))
  replace H := H.tp 1
  (repeat first | refine go ?_ | ((try conv => whnf); (first | (refine St_gate ?_; refine xS ?_) | (refine StN_gate ?_; refine xN ?_)); clear H; intro w H))
  refine Call_of (sAdd (xs := [1]) H h0 (fun h => h.srcCM 1 1 (List.mem_append_right _ mm) rfl (by decide)) (by decide) (by decide) (by decide)) ?_
  clear H
  rintro _ w (⟨_, rfl, H⟩ | ⟨hf, _⟩)
  case inr => exact absurd hf (by decide)
  (repeat first | refine go ?_ | ((try conv => whnf); (first | (refine St_gate ?_; refine xS ?_) | (refine StN_gate ?_; refine xN ?_)); clear H; intro w H))
  (refine Nw_sep H ?_; clear H; intro nb w H; (try simp only [Value.cells, List.toList_toArray, List.append_nil, List.cons_append, List.nil_append] at H))
  replace H := H.tp 1
  (repeat first | refine go ?_ | ((try conv => whnf); (first | (refine St_gate ?_; refine xS ?_) | (refine StN_gate ?_; refine xN ?_)); clear H; intro w H))
  refine Call_of (sSolve_no (xs := [1]) H h0 (fun h => h.srcCM 1 1 (List.mem_append_right _ mm) rfl (by decide)) (by decide) (by decide)) ?_
  clear H
  rintro _ w ⟨rfl, H⟩
  (repeat first | refine go ?_ | ((try conv => whnf); (first | (refine St_gate ?_; refine xS ?_) | (refine StN_gate ?_; refine xN ?_)); clear H; intro w H))
  refine Call_of (sSolve (xs := []) (v0 := 1) (Q := fun y : Sol => y.s.D = 0) H h0 (fun _ => srcNil _) (by decide) (by decide) (fun y hy => hy) (fun H => (sSearchY (vs := []) H h0.clr hD0 (fun c hc => (by cases hc)) (by decide) (fun s' hs hd hF hh v hv1 hv2 => by omega)).mono ?_)) ?_
  · rintro v w' ⟨rfl, y, _, hy2, _, _, _, H⟩
    exact ⟨rfl, y, hy2, H⟩
  clear H
  rintro _ w ⟨rfl, x5, _, H⟩
  (repeat first | refine go ?_ | ((try conv => whnf); (first | (refine St_gate ?_; refine xS ?_) | (refine StN_gate ?_; refine xN ?_)); clear H; intro w H))
  refine Call_of (qAliveS w) ?_
  rintro _ w' ⟨rfl, HH⟩
  replace H := H.add HH
  (repeat first | refine go ?_ | ((try conv => whnf); (first | (refine St_gate ?_; refine xS ?_) | (refine StN_gate ?_; refine xN ?_)); clear H; intro w H))
  exact Ret_in ⟨rfl, H.all⟩
end
end Go.Proofs.YtcibiidebknkgaaGreat
