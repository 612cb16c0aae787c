/- Back along the trail, till one literal of the greatest level is left. -/
import Derived.Test.YtcibiidebknkgaaGreatLearnW
import Derived.Test.YtcibiidebknkgaaGreatRng
import Derived.Test.YtcibiidebknkgaaGreatWatchF
set_option linter.unusedVariables false
set_option linter.unusedSimpArgs false
namespace Go.Watch
def litL (s : St) : List Int := s.E.map fun e => e.lit
theorem litL_len (s : St) : (litL s).length = s.E.length := List.length_map ..
theorem litL_mem {s : St} (x : Int) : x ∈ litL s ↔ tru s.E x := List.mem_map
theorem litL_get {s : St} {i : Nat} {e : Go.Trail.Ent} (h : s.E[i]? = some e) : (litL s)[i]? = some e.lit := by unfold litL; rw [List.getElem?_map, h]; rfl
end Go.Watch
namespace Go.Proofs.YtcibiidebknkgaaGreat
open Go Go.Vc Go.Watch
open Go.Trail (Ent value find upto okLit litsV)
set_option maxHeartbeats 4000000
set_option maxRecDepth 100000

theorem noCells_of {o : Obj} (h : o.isCells = false) : noCells o = true := by cases o <;> first | rfl | (simp [Obj.isCells] at h)
/-- Backward gives literals, the last one first. -/
theorem backL {a : Option Addr} {n c : Nat} {xs : List Int} {sb : Nat} {Rd : World → Prop} (hl : xs.length = n) (hn : n ≤ 1048576)
    (hR : ∀ w, Rd w → w.cell? ⟨sb, 0, none⟩ = some (.slice a n c) ∧ Src w a n 1 (xs.map lV)) :
    IterOk Tryz.prog 88 [.pointer (some ⟨sb, 0, none⟩)] n (fun k => [.int .i64 ((n - 1 - k : Nat) : Int), lV (xs[n - 1 - k]?.getD 0)]) Rd := by
  refine Iter_intro tok (fun args w => Tryz.call88 _ _) Tryz.func88 rfl (by rfl) ?_
  intro l J Jx W hJ hG h0
  refine Ld_of (hR _ (hJ 0 W (Nat.zero_le _) h0)).1 ?_
  (repeat first | refine go ?_ | ((try conv => whnf); (first | (refine St_gate ?_; refine xS ?_) | (refine StN_gate ?_; refine xN ?_)); clear H; intro w H))
  refine Loop_intro (fun i : Nat => [(3, .int .i64 ((n : Int) - 1 - i))]) (fun i w' => J i w' ∧ i ≤ n) (fun i => n - i) 0 ⟨congrArg some (vint (by omega)), trivial⟩ ⟨h0, by omega⟩ ?_
  rintro i w ⟨hj, hi⟩
  simp only [] at hi hj ⊢
  have hRd := hR _ (hJ i w hi hj)
  refine Br_dec (fun k1 => ?_) (fun k1 => ?_)
  · refine Ld_of hRd.1 ?_
    obtain ⟨pb, po, rfl⟩ := hRd.2.addr (by rw [List.length_map]; omega)
    have hget : xs[n - 1 - i]? = some (xs[n - 1 - i]'(by omega)) := List.getElem?_eq_getElem (by omega)
    (repeat first | refine go ?_ | ((try conv => whnf); (first | (refine St_gate ?_; refine xS ?_) | (refine StN_gate ?_; refine xN ?_)); clear H; intro w H))
    refine Ix_in (n - 1 - i) (by omega) (by omega) ?_
    refine Ld_src hRd.2 (j := n - 1 - i) (v := lV (xs[n - 1 - i]'(by omega))) (by rw [List.getElem?_map, hget]; rfl) ?_
    have hk := fun K => hG i w K (by omega) hj
    simp only [hget, Option.getD_some] at hk
    have e : ((n - 1 - i : Nat) : Int) = (n : Int) - 1 - i := by omega
    rw [e] at hk
    refine hk _ (fun w' hj' => ?_) (fun w' hj' => ?_)
    · (repeat first | refine go ?_ | ((try conv => whnf); (first | (refine St_gate ?_; refine xS ?_) | (refine StN_gate ?_; refine xN ?_)); clear H; intro w H))
      exact ⟨i + 1, ⟨congrArg some (vint (by omega)), trivial⟩, ⟨hj', by omega⟩, by omega⟩
    · (repeat first | refine go ?_ | ((try conv => whnf); (first | (refine St_gate ?_; refine xS ?_) | (refine StN_gate ?_; refine xN ?_)); clear H; intro w H))
      exact Ret_in (.inr hj')
  · obtain rfl : i = n := by omega
    exact Ret_in (.inl hj)

section
variable {w0 w : World} {l : List Res} {eb : Nat} {s : St} {S : Nat → Prop} {p : Spot} {top : Int} {T R : List Int}
theorem eTrue2 (H : Sep w0 w (engR eb s :: l)) (hE : s.E.length ≤ 1000000) : Does Tryz.prog 58 #[.pointer (some ⟨eb, 0, none⟩)] w fun v w' =>
    ∃ a c, v = .slice a (litL s).length c ∧ Sep w0 w' (ownR a (litL s).length c 29 1 ((litL s).map lV) :: engR eb s :: l) := by
  rw [litL_len]
  exact eTrue H hE
theorem lBackward (H : Sep w0 w l) {a : Option Addr} {n c : Nat} : Does Tryz.prog 57 #[.slice a n c] w fun v w' => ∃ qb, v = .func (.func 88) #[] #[.pointer (some ⟨qb, 0, none⟩)] ∧ Sep w0 w' (cellsR qb 37 [.slice a n c] :: l) := by
  refine Does_intro tok (Tryz.call57 _ _) Tryz.func57 rfl (by rfl) ?_
  (repeat first | refine go ?_ | ((try conv => whnf); (first | (refine St_gate ?_; refine xS ?_) | (refine StN_gate ?_; refine xN ?_)); clear H; intro w H))
  (refine Nw_sep H ?_; clear H; intro qb w H; (try simp only [Value.cells, List.toList_toArray, List.append_nil, List.cons_append, List.nil_append] at H))
  (repeat first | refine go ?_ | ((try conv => whnf); (first | (refine St_gate ?_; refine xS ?_) | (refine StN_gate ?_; refine xN ?_)); clear H; intro w H))
  exact Ret_in ⟨qb, rfl, H⟩

theorem lFirst (H : Sep w0 w (engR eb s :: stu p eb s.E top T R l)) (hg : Watch.Good S s) (hd : Dp s.E) {c0 : List Int} {M : Nat → Prop} (hf : Fst s c0 top s.E.length T R M) (hlits : ∀ c ∈ s.C, c.lits.length ≤ 1000000) (hC : s.C.length ≤ 1048576) :
    Does Tryz.prog 99 #[.pointer (some ⟨p.sb, 0, none⟩)] w fun v w' => ∃ x R' M' p', v = lV x ∧ Sho s c0 top x R' M' ∧ p'.sb = p.sb ∧ p'.mb = p.mb ∧
      Sep w0 w' (engR eb s :: stu p' eb s.E top [x] R' l) := by
  have hdl := hg.deepLe
  refine DoesM_intro tok (Tryz.call99 _ _) Tryz.func99 rfl (by rfl) ?_
  obtain ⟨sb, mb, n, ra, rc⟩ := p
  (repeat first | refine go ?_ | ((try conv => whnf); (first | (refine St_gate ?_; refine xS ?_) | (refine StN_gate ?_; refine xN ?_)); clear H; intro w H))
  (refine Nw_sep H ?_; clear H; intro qs w H; (try simp only [Value.cells, List.toList_toArray, List.append_nil, List.cons_append, List.nil_append] at H))
  (repeat first | refine go ?_ | ((try conv => whnf); (first | (refine St_gate ?_; refine xS ?_) | (refine StN_gate ?_; refine xN ?_)); clear H; intro w H))
  (refine Nw_sep H ?_; clear H; intro rb w H; (try simp only [Value.cells, List.toList_toArray, List.append_nil, List.cons_append, List.nil_append] at H))
  (repeat first | refine go ?_ | ((try conv => whnf); (first | (refine St_gate ?_; refine xS ?_) | (refine StN_gate ?_; refine xN ?_)); clear H; intro w H))
  replace H := H.tp 2
  refine Call_of (eTrue2 H (by omega)) ?_
  clear H
  rintro _ w ⟨ta, tc, rfl, H⟩
  (repeat first | refine go ?_ | ((try conv => whnf); (first | (refine St_gate ?_; refine xS ?_) | (refine StN_gate ?_; refine xN ?_)); clear H; intro w H))
  refine Call_of (lBackward H) ?_
  clear H
  rintro _ w ⟨qb, rfl, H⟩
  have hll := litL_len s
  generalize hn : (litL s).length = nn at H ⊢
  (repeat first | refine go ?_ | ((try conv => whnf); (first | (refine St_gate ?_; refine xS ?_) | (refine StN_gate ?_; refine xN ?_)); clear H; intro w H))
  refine Range_intro (backL (a := ta) (n := nn) (c := tc) (xs := litL s) (sb := qb) hn (by omega) (fun w h => h)) rfl (fun k _ => rfl) (by decide) ?_
  intro rl D rec hD hrl hrec
  have hrec' : ∀ s p, noCells (rec s p) = true := fun s p => noCells_of (hrec s p)
  refine ⟨fun k w => ∃ T R M n ra rc, Fst s c0 top (s.E.length - k) T R M ∧ Sep w0 w (engR eb s :: stu ⟨sb, mb, n, ra, rc⟩ eb s.E top T R (objR rl (rec .ready none) :: objR D (.deferred (some [])) :: cellsR qb 37 [.slice ta nn tc] :: ownR ta nn tc 29 1 ((litL s).map lV) :: cellsR rb 29 [lV 0] :: cellsR qs 148 [.pointer (some ⟨sb, 0, none⟩)] :: l)),
    fun c w => c = .ret ∧ ∃ x R M n ra rc, Sho s c0 top x R M ∧ Sep w0 w (engR eb s :: stu ⟨sb, mb, n, ra, rc⟩ eb s.E top [x] R (objR rl (rec .done (some .ret)) :: objR D (.deferred (some [])) :: cellsR qb 37 [.slice ta nn tc] :: ownR ta nn tc 29 1 ((litL s).map lV) :: cellsR rb 29 [lV x] :: cellsR qs 148 [.pointer (some ⟨sb, 0, none⟩)] :: l)), ?_, ?_, ?_, ?_, ?_⟩
  · refine ⟨T, R, M, n, ra, rc, hf, ?_⟩
    have H3 := (H.newObj (o := .deferred (some [])) rfl).newObj (hrec' .ready none)
    rw [World.size_alloc, ← hrl, ← hD] at H3
    replace H := H3
    replace H := H.tp 9
    replace H := H.tp 9
    replace H := H.tp 9
    replace H := H.tp 7
    exact H
  · rintro k w hk ⟨T, R, M, n, ra, rc, hf, H⟩
    exact ⟨H.cellAt mm rfl, H.srcM mm⟩
  · rintro k w hk ⟨T, R, M, n, ra, rc, hf, H⟩
    refine ⟨H.objE mm, ?_⟩
    have hkl : k < s.E.length := by omega
    obtain ⟨m, hm⟩ : ∃ m, s.E.length - k = m + 1 := ⟨s.E.length - k - 1, by omega⟩
    have hm2 : nn - 1 - k = m := by omega
    have he : s.E[m]? = some (s.E[m]'(by omega)) := List.getElem?_eq_getElem (by omega)
    have hem := List.getElem_mem (l := s.E) (n := m) (by omega)
    generalize s.E[m]'(by omega) = e at he hem
    rw [hm] at hf
    have hlm : (litL s)[nn - 1 - k]?.getD 0 = e.lit := by rw [hm2, litL_get he]; rfl
    rw [hlm]
    have hkm : s.E.length - (k + 1) = m := by omega
    simp only [hkm]
    have hen : e.lit ≠ -2147483648 := by
      have := (hg.inv.ok e hem).1
      have := Trail.okLit_iff.1 this
      omega
    have few := hf.ok.few hg
    rw [List.length_append] at few
    (repeat first | refine go ?_ | ((try conv => whnf); (first | (refine St_gate ?_; refine xS ?_) | (refine StN_gate ?_; refine xN ?_)); clear H; intro w H))
    refine ⟨H.objE mm, ?_⟩
    replace H := H.putO (o' := rec .busy none) mm (hrec' _ _) _ (by repeat first | exact Upd.head | apply Upd.tail)
    generalize w.putObj rl (rec .busy none) = w at H ⊢
    (repeat first | refine go ?_ | ((try conv => whnf); (first | (refine St_gate ?_; refine xS ?_) | (refine StN_gate ?_; refine xN ?_)); clear H; intro w H))
    refine Call_of (fVar (x := e.lit) w) ?_
    rintro _ _ ⟨rfl, rfl⟩
    rw [var_var]
    (repeat first | refine go ?_ | ((try conv => whnf); (first | (refine St_gate ?_; refine xS ?_) | (refine StN_gate ?_; refine xN ?_)); clear H; intro w H))
    refine Do_lookupD tok keyI H mm rfl rfl (Trail.var e.lit : Int) ?_
    by_cases hseen : SeenB T R (Trail.var e.lit)
    case neg =>
      rw [seenM_none hseen]
      (repeat first | refine go ?_ | ((try conv => whnf); (first | (refine St_gate ?_; refine xS ?_) | (refine StN_gate ?_; refine xN ?_)); clear H; intro w H))
      refine Br_false ?_
      (repeat first | refine go ?_ | ((try conv => whnf); (first | (refine St_gate ?_; refine xS ?_) | (refine StN_gate ?_; refine xN ?_)); clear H; intro w H))
      refine ⟨H.objE mm, T, R, M, n, ra, rc, hf.skip he (fun x hx hv => hseen ⟨x, List.mem_append_left _ hx, hv⟩), ?_⟩
      replace H := H.putO (o' := rec .ready none) mm (hrec' _ _) _ (by repeat first | exact Upd.head | apply Upd.tail)
      exact H
    rw [seenM_some hseen]
    (repeat first | refine go ?_ | ((try conv => whnf); (first | (refine St_gate ?_; refine xS ?_) | (refine StN_gate ?_; refine xN ?_)); clear H; intro w H))
    refine Br_true ?_
    (repeat first | refine go ?_ | ((try conv => whnf); (first | (refine St_gate ?_; refine xS ?_) | (refine StN_gate ?_; refine xN ?_)); clear H; intro w H))
    have hle := (hg.lv_at hem (x := e.lit) rfl).1
    by_cases hT : ∃ x ∈ T, Trail.var x = Trail.var e.lit
    case neg =>
      have hlow : lvE s.E (Trail.var e.lit : Int) ≠ top := by
        obtain ⟨x, hx, hv⟩ := hseen
        rw [List.mem_append] at hx
        rcases hx with hx | hx
        · exact (hT ⟨x, hx, hv⟩).elim
        · have := (hf.ok.low x hx).2
          rw [hv] at this
          omega
      (repeat first | refine go ?_ | ((try conv => whnf); (first | (refine St_gate ?_; refine xS ?_) | (refine StN_gate ?_; refine xN ?_)); clear H; intro w H))
      refine ⟨H.objE mm, T, R, M, n, ra, rc, hf.skip he (fun x hx hv => hT ⟨x, hx, hv⟩), ?_⟩
      replace H := H.putO (o' := rec .ready none) mm (hrec' _ _) _ (by repeat first | exact Upd.head | apply Upd.tail)
      exact H
    have htop : lvE s.E (Trail.var e.lit : Int) = top := by
      obtain ⟨x, hx, hv⟩ := hT
      rw [← hv]; exact hf.ok.tops x hx
    (repeat first | refine go ?_ | ((try conv => whnf); (first | (refine St_gate ?_; refine xS ?_) | (refine StN_gate ?_; refine xN ?_)); clear H; intro w H))
    by_cases hone : T.length = 1
    · have hTe := hf.last hg he hT hone
      subst hTe
      have hlo := Trail.okLit_iff.1 (hg.inv.ok e hem).1
      (repeat first | refine go ?_ | ((try conv => whnf); (first | (refine St_gate ?_; refine xS ?_) | (refine StN_gate ?_; refine xN ?_)); clear H; intro w H))
      refine ⟨H.objE mm, by simp, -e.lit, R, M, n, ra, rc, hf.sho, ?_⟩
      replace H := H.putO (o' := rec .done (some .ret)) mm (hrec' _ _) _ (by repeat first | exact Upd.head | apply Upd.tail)
      rw [Int.zero_sub] at H
      exact H
    obtain ⟨id, c, hr1, hr2, hr3, hok1, hoR, hlen1, hstep⟩ := hf.step hg hd he hT hone
    have hre := (hg.lv_at hem (x := e.lit) rfl).2
    rw [hr1] at hre
    (repeat first | refine go ?_ | ((try conv => whnf); (first | (refine St_gate ?_; refine xS ?_) | (refine StN_gate ?_; refine xN ?_)); clear H; intro w H))
    refine Draw_intro mixed [0, 1, 2, 3, 4, 5, 6, 7, 8, 9, 10, 11, 12, 13, 14, 15, 16, 17, 18] (by decide +kernel) (fun w _ fd => ?_); replace H := H.fr fd; clear fd
    obtain ⟨r, hr, H⟩ := engOpen H
    (repeat first | refine go ?_ | ((try conv => whnf); (first | (refine St_gate ?_; refine xS ?_) | (refine StN_gate ?_; refine xN ?_)); clear H; intro w H))
    (try conv => whnf)
    refine Call_of (sTrailReason H mm) ?_
    clear H
    rintro _ w ⟨rfl, H⟩
    rw [show (knownOf s.E (Trail.var e.lit : Int)).2.2 = (id : Int) from hre]
    (try conv => whnf)
    (repeat (refine Kept_gate ?_; refine xK ?_))
    (try conv => whnf)
    replace H := engClose hr H
    refine Call_of (eClause H hr2 hr3 (fun x hx => by rw [one_ok]; exact ((hg.cl c (List.mem_of_getElem? hr2)).1 x hx).1) (by have := hlits c (List.mem_of_getElem? hr2); omega) hC) ?_
    clear H
    rintro _ w ⟨ca, cc, out, rfl, hcl, hln, H⟩
    obtain ⟨hstep1, hstep2⟩ := hstep out hcl.mem
    have hol := hlits c (List.mem_of_getElem? hr2)
    (try conv => whnf)
    (repeat (refine Kept_gate ?_; refine xK ?_))
    (repeat first | refine go ?_ | ((try conv => whnf); (first | (refine St_gate ?_; refine xS ?_) | (refine StN_gate ?_; refine xN ?_)); clear H; intro w H))
    replace H := H.tp 4
    replace H := H.tp 4
    replace H := H.tp 4
    replace H := H.tp 4
    refine DoN_delD iI_inj tok keyI rfl H mm rfl (Trail.var e.lit : Int) ?_
    clear H
    intro w H
    replace H := H _ (by repeat first | exact Upd.head | apply Upd.tail)
    obtain ⟨n2, hn2⟩ : ∃ n2, (if (seenM s.E T R (Trail.var e.lit : Int)).isSome = true then n - 1 else n) = n2 := ⟨_, rfl⟩
    rw [hn2, seenM_del (T' := offV T (Trail.var e.lit)) (R' := R) (by
      intro x
      simp only [List.mem_append, offV_mem]
      have hR : ∀ x ∈ R, Trail.var x ≠ Trail.var e.lit := fun x hx => by rw [← hoR] at hx; exact (offV_mem.1 hx).2
      constructor
      · rintro (⟨h1, h2⟩ | h1)
        · exact ⟨.inl h1, h2⟩
        · exact ⟨.inr h1, hR x h1⟩
      · rintro ⟨h1 | h1, h2⟩
        · exact .inl ⟨h1, h2⟩
        · exact .inr h1)] at H
    (repeat first | refine go ?_ | ((try conv => whnf); (first | (refine St_gate ?_; refine xS ?_) | (refine StN_gate ?_; refine xN ?_)); clear H; intro w H))
    have ec : (T.length : Int) - 1 = ((offV T (Trail.var e.lit)).length : Nat) := by omega
    rw [ec] at H
    replace H : Vc.Sep w0 w (engR eb s :: stu ⟨sb, mb, n2, ra, rc⟩ eb s.E top (offV T (Trail.var e.lit)) R _) := H
    refine Call_of (lAdd H hg (fun h => h.srcM (List.mem_append_right _ (.head _))) (by omega) hok1 hstep1) ?_
    clear H
    rintro _ w ⟨rfl, ⟨sb', mb', n3, ra', rc'⟩, hsb, hmb, H⟩
    simp only [] at hsb hmb
    have hsb := hsb.symm
    have hmb := hmb.symm
    subst hsb hmb
    replace H := H.drop 4 rfl rfl
    (repeat first | refine go ?_ | ((try conv => whnf); (first | (refine St_gate ?_; refine xS ?_) | (refine StN_gate ?_; refine xN ?_)); clear H; intro w H))
    refine ⟨H.objE mm, _, _, _, n3, ra', rc', hstep2, ?_⟩
    replace H := H.putO (o' := rec .ready none) mm (hrec' _ _) _ (by repeat first | exact Upd.head | apply Upd.tail)
    exact H
  · rintro w ⟨T, R, M, n, ra, rc, hf, H⟩
    rw [show s.E.length - nn = 0 by omega] at hf
    exact hf.nope.elim
  · rintro c w ⟨rfl, x, R, M, n, ra, rc, hf, H⟩
    refine ⟨H.objE mm, ?_⟩
    replace H := H.putO (o' := rec .exhausted (some .ret)) mm (hrec' _ _) _ (by repeat first | exact Upd.head | apply Upd.tail)
    generalize w.putObj rl (rec .exhausted (some .ret)) = w at H ⊢
    refine ⟨H.objE mm, ?_⟩
    replace H := H.putO (b := D) (o' := .deferred none) mm rfl _ (by repeat first | exact Upd.head | apply Upd.tail)
    (repeat first | refine go ?_ | ((try conv => whnf); (first | (refine St_gate ?_; refine xS ?_) | (refine StN_gate ?_; refine xN ?_)); clear H; intro w H))
    exact Ret_in ⟨x, R, M, ⟨sb, mb, n, ra, rc⟩, rfl, hf, rfl, rfl, ((((((H.drop 4 rfl rfl).drop 4 rfl rfl).drop 4 rfl rfl).drop 4 rfl rfl).drop 4 rfl rfl).drop 4 rfl rfl)⟩
end
end Go.Proofs.YtcibiidebknkgaaGreat
