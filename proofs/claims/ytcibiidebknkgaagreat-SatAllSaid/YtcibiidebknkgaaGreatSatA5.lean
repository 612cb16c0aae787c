/- How many levels. -/
import Derived.Test.YtcibiidebknkgaaGreatLearnV
import Derived.Test.YtcibiidebknkgaaGreatSatA4
set_option linter.unusedVariables false
set_option linter.unusedSimpArgs false
namespace Go.Proofs.YtcibiidebknkgaaGreat
open Go Go.Vc Go.Watch Go.Lit
open Go.Trail (Ent value find upto okLit litsV)
set_option maxHeartbeats 4000000
set_option maxRecDepth 100000
section
variable {w0 w : World} {l : List Res} {eb : Nat} {s : St}
/-! How many levels -/
def lvStep (E : List Ent) (acc : List Int) (y : Int) : List Int := if 0 ≤ lvE E (Trail.var y) ∧ lvE E (Trail.var y) ∉ acc then acc ++ [lvE E (Trail.var y)] else acc
def lvs (E : List Ent) (ys : List Int) : List Int := ys.foldl (lvStep E) []
theorem lvs_next {E : List Ent} {ys : List Int} {i : Nat} {y : Int} (h : ys[i]? = some y) : lvs E (ys.take (i + 1)) = lvStep E (lvs E (ys.take i)) y := by
  unfold lvs
  rw [List.take_add_one, h, List.foldl_append]; rfl
theorem lvs_len {E : List Ent} : ∀ {ys : List Int} {i : Nat}, i ≤ ys.length → (lvs E (ys.take i)).length ≤ i
  | ys, 0, _ => by simp [lvs]
  | ys, i + 1, h => by
    have hy : ys[i]? = some ys[i] := List.getElem?_eq_getElem (by omega)
    rw [lvs_next hy]
    have := lvs_len (E := E) (ys := ys) (i := i) (by omega)
    unfold lvStep
    split
    · simp; omega
    · omega
/-- Which levels a map has: how often, too. -/
def LvM (acc : List Int) (f : Int → Option Int) (i : Nat) : Prop := ∀ v, (v ∈ acc → ∃ z : Int, f v = some z ∧ 0 ≤ z ∧ z ≤ i) ∧ (v ∉ acc → f v = none)

theorem lLevels (H : Sep w0 w (engR eb s :: l)) (hg : Watch.Good (fun _ => True) s) {ys : List Int} {a : Option Addr} {c : Nat} (hs : ∀ {w' : World} {l' : List Res}, Sep w0 w' (l' ++ l) → Src w' a ys.length 1 (ys.map lV)) (hm : ys.length ≤ 1000000000) :
    Does Tryz.prog 78 #[.pointer (some ⟨eb, 0, none⟩), .slice a ys.length c] w fun v w' => v = .int .i64 (lvs s.E ys).length ∧ Sep w0 w' (engR eb s :: l) := by
  have hdl := hg.deepLe
  refine Does_intro tok (Tryz.call78 _ _) Tryz.func78 rfl (by rfl) ?_
  (repeat first | refine go ?_ | ((try conv => whnf); (first | (refine St_gate ?_; refine xS ?_) | (refine StN_gate ?_; refine xN ?_)); clear H; intro w H))
  refine Nw_mapD (enc := iI) H ?_
  clear H
  intro mb w H
  rw [plM_nil] at H
  replace H := H.tp 1
  (repeat first | refine go ?_ | ((try conv => whnf); (first | (refine St_gate ?_; refine xS ?_) | (refine StN_gate ?_; refine xN ?_)); clear H; intro w H))
  refine Loop_intro (fun q : Nat × (Int → Option Int) => [(12, .int .i64 (q.1 : Int))]) (fun q w => (q.1 ≤ ys.length ∧ LvM (lvs s.E (ys.take q.1)) q.2 q.1) ∧ Sep w0 w (engR eb s :: mapD mb iI (plM q.2) (lvs s.E (ys.take q.1)).length :: l)) (fun q => ys.length - q.1)
    (0, fun _ => none) ⟨rfl, trivial⟩ ⟨⟨Nat.zero_le _, fun v => ⟨fun h => by simp [lvs] at h, fun _ => rfl⟩⟩, H⟩ ?_
  clear H
  rintro ⟨i, f⟩ w ⟨⟨hi, hf⟩, H⟩
  simp only [] at hi hf H ⊢
  refine Br_dec (fun k1 => ?_) (fun k1 => ?_)
  · have hlt : i < ys.length := by omega
    have hsrc : Src w a ys.length 1 (ys.map lV) := hs (l' := [_, _]) H
    obtain ⟨yb, yo, rfl⟩ := hsrc.addr (by rw [List.length_map]; omega)
    have hyi : ys[i]? = some ys[i] := List.getElem?_eq_getElem hlt
    have hnx := lvs_next (E := s.E) hyi
    generalize ys[i] = y at *
    refine Ix_in i rfl hlt ?_
    refine Ld_src (j := i) hsrc (v := lV y) (by rw [List.getElem?_map, hyi]; rfl) ?_
    clear hsrc
    (repeat first | refine go ?_ | ((try conv => whnf); (first | (refine St_gate ?_; refine xS ?_) | (refine StN_gate ?_; refine xN ?_)); clear H; intro w H))
    refine Draw_intro mixed [0, 1, 2, 3, 4, 5, 6, 7] (by decide +kernel) (fun w _ fd => ?_); replace H := H.fr fd; clear fd
    obtain ⟨r, hr, H⟩ := engOpen H
    (repeat first | refine go ?_ | ((try conv => whnf); (first | (refine St_gate ?_; refine xS ?_) | (refine StN_gate ?_; refine xN ?_)); clear H; intro w H))
    refine Call_of (fVar (x := y) _) ?_
    rintro _ _ ⟨rfl, rfl⟩
    rw [var_var]
    (try conv => whnf)
    (repeat (refine Kept_gate ?_; refine xK ?_))
    (try conv => whnf)
    refine Call_of (sTrailLevel H mm) ?_
    clear H
    rintro _ w ⟨rfl, H⟩
    rw [show (knownOf s.E (Trail.var y : Int)).2.1 = lvE s.E (Trail.var y) from rfl]
    (try conv => whnf)
    (repeat (refine Kept_gate ?_; refine xK ?_))
    replace H := engClose hr H
    have hll := lvs_len (E := s.E) (ys := ys) hi
    generalize lvs s.E (ys.take i) = acc at *
    by_cases h0 : 0 ≤ lvE s.E (Trail.var y)
    · obtain ⟨z, hz1, hz2, hz3⟩ : ∃ z : Int, (plM f (lvE s.E (Trail.var y))).getD (.int .i64 0) = iI z ∧ 0 ≤ z ∧ z ≤ i := by
        by_cases hin : lvE s.E (Trail.var y) ∈ acc
        · obtain ⟨z, h1, h2, h3⟩ := (hf _).1 hin
          exact ⟨z, by unfold plM; rw [h1]; rfl, h2, h3⟩
        · exact ⟨0, by unfold plM; rw [(hf _).2 hin]; rfl, Int.le_refl _, by omega⟩
      (repeat first | refine go ?_ | ((try conv => whnf); (first | (refine St_gate ?_; refine xS ?_) | (refine StN_gate ?_; refine xN ?_)); clear H; intro w H))
      refine Do_lookupD tok keyI H mm rfl rfl (lvE s.E (Trail.var y)) ?_
      rw [if_neg Bool.false_ne_true, hz1]
      (repeat first | refine go ?_ | ((try conv => whnf); (first | (refine St_gate ?_; refine xS ?_) | (refine StN_gate ?_; refine xN ?_)); clear H; intro w H))
      refine DoU_putD iI_inj tok keyI H mm rfl (lvE s.E (Trail.var y)) (iI (z + 1)) ?_
      clear H
      intro w H
      replace H := H _ (by repeat first | exact Upd.head | apply Upd.tail)
      rw [plM_put] at H
      (repeat first | refine go ?_ | ((try conv => whnf); (first | (refine St_gate ?_; refine xS ?_) | (refine StN_gate ?_; refine xN ?_)); clear H; intro w H))
      by_cases hin : lvE s.E (Trail.var y) ∈ acc
      · have e : lvStep s.E acc y = acc := if_neg fun h => h.2 hin
        obtain ⟨z0, h1, h2, h3⟩ := (hf _).1 hin
        rw [if_pos (by unfold plM; rw [h1]; rfl)] at H
        rw [e] at hnx
        refine ⟨(i + 1, putP f (lvE s.E (Trail.var y)) (z + 1)), ⟨congrArg some (vint (by simp)), trivial⟩, ⟨⟨by omega, ?_⟩, ?_⟩, by simp; omega⟩
        · simp only []
          rw [hnx]
          intro v
          unfold putP
          by_cases hv : v = lvE s.E (Trail.var y)
          · rw [if_pos hv]
            exact ⟨fun _ => ⟨z + 1, rfl, by omega, by omega⟩, fun h => (h (hv ▸ hin)).elim⟩
          · rw [if_neg hv]
            exact ⟨fun h => by obtain ⟨u, u1, u2, u3⟩ := (hf v).1 h; exact ⟨u, u1, u2, by omega⟩, (hf v).2⟩
        · simp only []
          rw [hnx]; exact H
      · have e : lvStep s.E acc y = acc ++ [lvE s.E (Trail.var y)] := if_pos ⟨h0, hin⟩
        rw [if_neg (by unfold plM; rw [(hf _).2 hin]; exact Bool.false_ne_true)] at H
        rw [e] at hnx
        refine ⟨(i + 1, putP f (lvE s.E (Trail.var y)) (z + 1)), ⟨congrArg some (vint (by simp)), trivial⟩, ⟨⟨by omega, ?_⟩, ?_⟩, by simp; omega⟩
        · simp only []
          rw [hnx]
          intro v
          unfold putP
          rw [List.mem_append, List.mem_singleton]
          by_cases hv : v = lvE s.E (Trail.var y)
          · rw [if_pos hv]
            exact ⟨fun _ => ⟨z + 1, rfl, by omega, by omega⟩, fun h => (h (.inr hv)).elim⟩
          · rw [if_neg hv]
            refine ⟨fun h => ?_, fun h => (hf v).2 fun h1 => h (.inl h1)⟩
            rcases h with h | h
            · obtain ⟨u, u1, u2, u3⟩ := (hf v).1 h; exact ⟨u, u1, u2, by omega⟩
            · exact (hv h).elim
        · simp only []
          rw [hnx, List.length_append]; exact H
    · have e : lvStep s.E acc y = acc := if_neg fun h => h0 h.1
      rw [e] at hnx
      (repeat first | refine go ?_ | ((try conv => whnf); (first | (refine St_gate ?_; refine xS ?_) | (refine StN_gate ?_; refine xN ?_)); clear H; intro w H))
      refine ⟨(i + 1, f), ⟨congrArg some (vint (by simp)), trivial⟩, ⟨⟨by omega, ?_⟩, ?_⟩, by simp; omega⟩
      · simp only []
        rw [hnx]
        exact fun v => ⟨fun h => by obtain ⟨u, u1, u2, u3⟩ := (hf v).1 h; exact ⟨u, u1, u2, by omega⟩, (hf v).2⟩
      · simp only []
        rw [hnx]; exact H
  · obtain rfl : i = ys.length := by omega
    rw [List.take_length] at H
    (repeat first | refine go ?_ | ((try conv => whnf); (first | (refine St_gate ?_; refine xS ?_) | (refine StN_gate ?_; refine xN ?_)); clear H; intro w H))
    refine DoN_lenD tok rfl H mm rfl ?_
    (repeat first | refine go ?_ | ((try conv => whnf); (first | (refine St_gate ?_; refine xS ?_) | (refine StN_gate ?_; refine xN ?_)); clear H; intro w H))
    exact Ret_in ⟨rfl, H.drop 1 rfl rfl⟩
end
end Go.Proofs.YtcibiidebknkgaaGreat
/-! A solver meets a conflict. -/
set_option linter.unusedVariables false
set_option linter.unusedSimpArgs false
namespace Go.Proofs.YtcibiidebknkgaaGreat
open Go Go.Vc Go.Watch Go.Lit
open Go.Trail (Ent value find upto okLit litsV)
set_option maxHeartbeats 16000000
set_option maxRecDepth 100000
section
variable {w0 w : World} {l : List Res} {b : Nat} {x : Sol} {n k m : Nat} {L : List (List Int)} {cs : List Int} {ca : Option Addr} {cc eb : Nat}
theorem bumpE_wts' {K : List Entry} {v : Nat} {y : Int} (hv : v < K.length) (u : Nat) : wts (bumpE K v y) u = wts K u := by
  unfold bumpE
  rw [wts_set hv]
  split
  · rename_i h; rw [h]
  · rfl
theorem halfE_wts' {K : List Entry} (u : Nat) : wts (halfE K) u = wts K u := by
  unfold wts halfE
  rw [List.getD_eq_getElem?_getD, List.getD_eq_getElem?_getD, List.getElem?_map]
  cases K[u]? <;> rfl
theorem Ar_bump {v : Int} {K : Int → Prop} (h0 : 0 ≤ v) (h1 : v ≤ 1099511627776) (hk : ∀ r : Int, 0 ≤ r → r ≤ 2199023255552 → K r) : Ar .i64 (v + v.fdiv (2 ^ min (Int.toNat 4) IntKind.i64.bits)) K := by
  have e : v.fdiv (2 ^ min (Int.toNat 4) IntKind.i64.bits) = v / 16 := by
    rw [show (2 : Int) ^ min (Int.toNat 4) IntKind.i64.bits = 16 from rfl, Int.fdiv_eq_ediv_of_nonneg _ (by decide)]
  rw [e]
  exact Ar_i64 (by omega) (by omega) (hk _ (by omega) (by omega))
theorem Ar_halve {v : Int} {K : Int → Prop} (h0 : 0 ≤ v) (h1 : v ≤ 2199023255552) (hk : ∀ r : Int, 0 ≤ r → r ≤ 1099511627776 → r * 2 ≤ v → K r) : Ar .i64 (v.tdiv 2) K := by
  rw [Int.tdiv_eq_ediv_of_nonneg h0]
  exact Ar_i64 (by omega) (by omega) (hk _ (by omega) (by omega) (by omega))
/-- What a conflict leaves. -/
structure Mt (n : Nat) (L : List (List Int)) (k m : Nat) (x y : Sol) : Prop where
  ok : y.Ok n L (k + 1) (m + 2 + x.lr.length)
  a : y.pc.a = x.pc.a + 1
  r : y.pc.r = x.pc.r
  conf : y.conf = x.conf + 1
  few : (x.lr.length : Int) + 1 < x.pc.r + ((x.pc.a + 1 : Nat) : Int) / 10 → y.lr.length = x.lr.length + 1
  core : y.core = x.core
  model : y.model = x.model
theorem sHome (H : Sep w0 w (solR b x :: l)) (h : x.Ok n L k m) (hm : m ≤ 800000000000) : Does Tryz.prog 25 #[.pointer (some ⟨b, 0, none⟩), .int .i64 0] w fun v w' => ∃ y : Sol, y.Ok n L k m ∧ y.s.D = 0 ∧ y.pc = x.pc ∧ y.conf = x.conf ∧ y.lr = x.lr ∧ y.core = x.core ∧ y.broken = x.broken ∧ y.model = x.model ∧ y.s.C = x.s.C ∧ Sep w0 w' (solR b y :: l) := by
  by_cases hD : x.s.D = 0
  · refine (sBack0 H hD).mono ?_
    rintro v w' H
    exact ⟨x, h, hD, rfl, rfl, rfl, rfl, rfl, rfl, rfl, H⟩
  · refine (sBack H h (j := 0) (by omega) hm).mono ?_
    rintro v w' ⟨K, ph, h, H⟩
    exact ⟨_, h, rfl, rfl, rfl, rfl, rfl, rfl, rfl, rfl, H⟩
theorem sMet (H : Sep w0 w (solR b x :: l)) (h : x.Ok n L k m) {id : Nat} {c : Cls} (hc : x.s.C[id]? = some c) (ho : c.on = true) (hi : c.idle = false) (hf : ∀ y ∈ c.lits, tru x.s.E (-y))
    (ha : x.pc.a ≤ 1000000) (hcf : x.conf ≤ 1000000000) (hlr : x.lr.length ≤ 100000) (hk : k < 1048576) (hm : m ≤ 700000000000) : Does Tryz.prog 51 #[.pointer (some ⟨b, 0, none⟩), idV id] w fun v w' =>
      (v = .bool true ∧ ∃ y : Sol, Mt n L k m x y ∧ Sep w0 w' (solR b y :: l)) ∨
      (v = .bool false ∧ ∃ y : Sol, y.broken = true ∧ y.Ok n L k (m + 1) ∧ y.conf = x.conf + 1 ∧ y.s = x.s ∧ y.core = x.core ∧ y.pc = x.pc ∧ y.lr = x.lr ∧ y.model = x.model ∧ Sep w0 w' (solR b y :: l)) := by
  have hg := h.sv.good
  have hfC := h.sv.fewC
  have hdl := hg.deepLe
  have hsn := h.sv.n
  have hn := h.few
  have hb0 := h.b0
  have hb1 := h.b1
  have hlg := h.lg
  have hkl := h.kl
  refine Does_intro tok (Tryz.call51 _ _) Tryz.func51 rfl (by rfl) ?_
  obtain ⟨r, H⟩ := solOpen H
  (repeat first | refine go ?_ | ((try conv => whnf); (first | (refine St_gate ?_; refine xS ?_) | (refine StN_gate ?_; refine xN ?_)); clear H; intro w H))
  replace H := H.tp 1
  refine Call_of (lLearn H hg h.sv.dp hc ho (fun c hc => Nat.le_trans (hg.lits_few hc) (by decide)) (by omega)) ?_
  clear H
  rintro _ w (⟨hno, rfl, H⟩ | ⟨top, x0, R, back, qa, qk, _, rfl, hL, H⟩)
  · have hnv : ∀ vs, ¬ ∀ c ∈ L, hol vs c := by
      rcases hno with ⟨y, hy, hny⟩ | hz
      · exact (hny (hf y hy)).elim
      · exact h.sv.never hc ho hi hf hz
    replace H := H.tp 1
    (repeat first | refine go ?_ | ((try conv => whnf); (first | (refine St_gate ?_; refine xS ?_) | (refine StN_gate ?_; refine xN ?_)); clear H; intro w H))
    (refine Nw_sep H ?_; clear H; intro nb w H; (try simp only [Value.cells, List.toList_toArray, List.append_nil, List.cons_append, List.nil_append] at H))
    (repeat first | refine go ?_ | ((try conv => whnf); (first | (refine St_gate ?_; refine xS ?_) | (refine StN_gate ?_; refine xN ?_)); clear H; intro w H))
    refine DoN_gate ?_
    refine append_one tok H rfl rfl rfl rfl rfl (by decide) (List.Mem.tail _ (List.Mem.tail _ (List.Mem.tail _ (List.Mem.tail _ (List.Mem.tail _ (List.Mem.tail _ (List.Mem.tail _ (List.Mem.tail _ (List.Mem.head _))))))))) (n := x.lg) (xs := r.gs) (m := 1) rfl (by simp [oneCell]) (by omega) (by unfold maxLen; omega) ?_
    clear H
    intro ga' gk' w H
    replace H := H _ (by repeat first | exact Upd.head | apply Upd.tail)
    (repeat first | refine go ?_ | ((try conv => whnf); (first | (refine St_gate ?_; refine xS ?_) | (refine StN_gate ?_; refine xN ?_)); clear H; intro w H))
    exact Ret_in (.inr ⟨rfl, { x with conf := x.conf + 1, broken := true, lg := x.lg + 1 }, rfl, { h with sv := h.sv.mono (Nat.le_refl _) (Nat.le_succ _), brk := fun _ => hnv, lg := Nat.succ_le_succ hlg }, rfl, rfl, rfl, rfl, rfl, rfl, solClose (x := { x with conf := x.conf + 1, broken := true, lg := x.lg + 1 }) (r := { r with ga := ga', gk := gk', gs := r.gs ++ [Value.bool false, Value.slice none 0 0] }) H⟩)
  have hent := hL.entS hg
  have hbl := hL.back_ltS
  have htl := hL.top_leS hg
  have hb00 := hL.b0
  have hfew := hL.fewS hg
  obtain ⟨bk, rfl⟩ : ∃ bk : Nat, back = bk := ⟨back.toNat, by omega⟩
  obtain ⟨xs, hxs⟩ : ∃ xs, xs = x0 :: R := ⟨_, rfl⟩
  rw [← hxs] at H hent hfew ⊢
  replace H := H.tp 1
  (repeat first | refine go ?_ | ((try conv => whnf); (first | (refine St_gate ?_; refine xS ?_) | (refine StN_gate ?_; refine xN ?_)); clear H; intro w H))
  refine Call_of (lLevels (ys := xs) H hg (fun h => h.srcM (a := qa) (n := xs.length) (cap := qk) (el := 29) (sz := 1) (xs := xs.map lV) (List.mem_append_right _ (.head _))) (by omega)) ?_
  clear H
  rintro _ w ⟨rfl, H⟩
  have hlvs : (lvs x.s.E xs).length ≤ xs.length := by
    have := lvs_len (E := x.s.E) (ys := xs) (i := xs.length) (Nat.le_refl _)
    rwa [List.take_length] at this
  generalize (lvs x.s.E xs).length = lvn at *
  (repeat first | refine go ?_ | ((try conv => whnf); (first | (refine St_gate ?_; refine xS ?_) | (refine StN_gate ?_; refine xN ?_)); clear H; intro w H))
  refine Loop_intro (fun q : Nat × List Entry => [(52, .int .i64 (q.1 : Int))]) (fun q w => (q.1 ≤ xs.length ∧ q.2.length = n + 1 ∧ ∀ v, wts q.2 v = wts x.K v) ∧ Sep w0 w (engR r.eb x.s :: ownR qa xs.length qk 29 1 (xs.map lV) :: soP b { x with conf := x.conf + 1 } r :: rkR r.rb q.2 :: paceR r.pb x.pc :: phP x r :: lrP x r :: moP x r :: coP x r :: lgP x r :: l)) (fun q => xs.length - q.1) (0, x.K) ⟨rfl, trivial⟩ ⟨⟨Nat.zero_le _, hkl, fun v => rfl⟩, H⟩ ?_
  clear H
  rintro ⟨i, K⟩ w ⟨⟨hi2, hK, hw⟩, H⟩
  simp only [] at hi2 hK hw H ⊢
  refine Br_dec (fun k1 => ?_) (fun k1 => ?_)
  · have hlt : i < xs.length := by omega
    have hsrc := H.srcM (a := qa) (n := xs.length) (cap := qk) (el := 29) (sz := 1) (xs := xs.map lV) mm
    obtain ⟨yb, yo, hqa⟩ := hsrc.addr (by rw [List.length_map]; omega)
    have hyi : xs[i]? = some xs[i] := List.getElem?_eq_getElem hlt
    have hye := hent _ (List.getElem_mem hlt)
    generalize xs[i] = y at hyi hye
    have hvp := Trail.var_pos.2 hye.2.1
    rw [hqa] at hsrc ⊢
    refine Ix_in i rfl hlt ?_
    refine Ld_src (j := i) hsrc (v := lV y) (by rw [List.getElem?_map, hyi]; rfl) ?_
    clear hsrc
    rw [← hqa]
    (repeat first | refine go ?_ | ((try conv => whnf); (first | (refine St_gate ?_; refine xS ?_) | (refine StN_gate ?_; refine xN ?_)); clear H; intro w H))
    refine Draw_intro mixed [0, 1, 2, 3, 4, 6, 7, 8, 9, 5, 10] (by decide +kernel) (fun w _ fd => ?_); replace H := H.fr fd; clear fd
    (repeat first | refine go ?_ | ((try conv => whnf); (first | (refine St_gate ?_; refine xS ?_) | (refine StN_gate ?_; refine xN ?_)); clear H; intro w H))
    refine Call_of (litVar y _) ?_
    rintro _ _ ⟨rfl, rfl⟩
    (try conv => whnf)
    (repeat (refine Kept_gate ?_; refine xK ?_))
    (repeat first | refine go ?_ | ((try conv => whnf); (first | (refine St_gate ?_; refine xS ?_) | (refine StN_gate ?_; refine xN ?_)); clear H; intro w H))
    refine Call_of (kBump H mm) ?_
    clear H
    rintro _ w ⟨rfl, H⟩
    replace H := H _ (by repeat first | exact Upd.head | apply Upd.tail)
    (try conv => whnf)
    (repeat (refine Kept_gate ?_; refine xK ?_))
    (repeat first | refine go ?_ | ((try conv => whnf); (first | (refine St_gate ?_; refine xS ?_) | (refine StN_gate ?_; refine xN ?_)); clear H; intro w H))
    refine ⟨(i + 1, if bumpOkE K (Trail.var y : Int) x.bump = true then bumpE K (Trail.var y : Int).toNat x.bump else K), ⟨congrArg some (vint (by simp)), trivial⟩, ⟨⟨by omega, ?_, fun v => ?_⟩, H⟩, by simp; omega⟩
    · simp only []
      split
      · unfold bumpE; rw [List.length_set]; exact hK
      · exact hK
    · simp only []
      split
      · rw [bumpE_wts' (by rw [Int.toNat_natCast]; omega)]; exact hw v
      · exact hw v
  · (repeat first | refine go ?_ | ((try conv => whnf); (first | (refine St_gate ?_; refine xS ?_) | (refine StN_gate ?_; refine xN ?_)); clear H; intro w H))
    refine Draw_intro mixed [0, 1, 2, 3, 4, 5, 6, 7, 8, 9, 10, 11, 12] (by decide +kernel) (fun w _ fd => ?_); replace H := H.fr fd; clear fd
    (repeat first | refine go ?_ | ((try conv => whnf); (first | (refine St_gate ?_; refine xS ?_) | (refine StN_gate ?_; refine xN ?_)); clear H; intro w H))
    refine Ar_bump hb0 hb1 fun bp hp0 hp1 => ?_
    (repeat first | refine go ?_ | ((try conv => whnf); (first | (refine St_gate ?_; refine xS ?_) | (refine StN_gate ?_; refine xN ?_)); clear H; intro w H))
    refine Br_dec (fun k2 => ?a1) (fun k2 => ?a2)
    case' a1 =>
      (repeat first | refine go ?_ | ((try conv => whnf); (first | (refine St_gate ?_; refine xS ?_) | (refine StN_gate ?_; refine xN ?_)); clear H; intro w H))
      refine Loop_intro (fun q : List Entry × Int => []) (fun q w => (0 ≤ q.2 ∧ q.2 ≤ 2199023255552 ∧ q.1.length = n + 1 ∧ ∀ v, wts q.1 v = wts x.K v) ∧ Sep w0 w (engR r.eb x.s :: ownR qa xs.length qk 29 1 (xs.map lV) :: soP b { x with conf := x.conf + 1, bump := q.2 } r :: rkR r.rb q.1 :: paceR r.pb x.pc :: phP x r :: lrP x r :: moP x r :: coP x r :: lgP x r :: l)) (fun q => q.2.toNat) (K, bp) trivial ⟨⟨hp0, hp1, hK, hw⟩, H⟩ ?_
      clear H
      rintro ⟨K, bp⟩ w ⟨⟨hp0, hp1, hK, hw⟩, H⟩
      simp only [] at hp0 hp1 hK hw H ⊢
      (repeat first | refine go ?_ | ((try conv => whnf); (first | (refine St_gate ?_; refine xS ?_) | (refine StN_gate ?_; refine xN ?_)); clear H; intro w H))
      refine Br_dec (fun k3 => ?b1) (fun k3 => ?b2)
      case' b1 =>
        have k3' : 1024 < bp := k3
        (repeat first | refine go ?_ | ((try conv => whnf); (first | (refine St_gate ?_; refine xS ?_) | (refine StN_gate ?_; refine xN ?_)); clear H; intro w H))
        refine Call_of (kHalve H mm) ?_
        clear H
        rintro _ w ⟨rfl, H⟩
        replace H := H _ (by repeat first | exact Upd.head | apply Upd.tail)
        (try conv => whnf)
        (repeat (refine Kept_gate ?_; refine xK ?_))
        (repeat first | refine go ?_ | ((try conv => whnf); (first | (refine St_gate ?_; refine xS ?_) | (refine StN_gate ?_; refine xN ?_)); clear H; intro w H))
        refine Ar_halve (v := bp) hp0 hp1 fun br hb0 hb1 hb2 => ?_
        (repeat first | refine go ?_ | ((try conv => whnf); (first | (refine St_gate ?_; refine xS ?_) | (refine StN_gate ?_; refine xN ?_)); clear H; intro w H))
        exact ⟨(halfE K, br), trivial, ⟨⟨hb0, by simp only []; omega, by unfold halfE; rw [List.length_map]; exact hK, fun v => by simp only []; rw [halfE_wts']; exact hw v⟩, H⟩, by simp only []; omega⟩
      case' b2 =>
        have k3' : ¬ 1024 < bp := k3
        (repeat first | refine go ?_ | ((try conv => whnf); (first | (refine St_gate ?_; refine xS ?_) | (refine StN_gate ?_; refine xN ?_)); clear H; intro w H))
        have hp1 : bp ≤ 1099511627776 := by omega
    case' a2 =>
      (repeat first | refine go ?_ | ((try conv => whnf); (first | (refine St_gate ?_; refine xS ?_) | (refine StN_gate ?_; refine xN ?_)); clear H; intro w H))
      have hp1 : bp ≤ 1099511627776 := by omega
    all_goals
      replace H : Sep w0 w (engR r.eb x.s :: ownR qa xs.length qk 29 1 (xs.map lV) :: soP b { x with conf := x.conf + 1, bump := bp } r :: rkR r.rb K :: paceR r.pb x.pc :: phP x r :: lrP x r :: moP x r :: coP x r :: lgP x r :: l) := H
      replace H := H.tp 1
      replace H := H.perm (List.perm_middle (l₁ := [_, _, _, _, _, _, _, _, _])).symm
      have hok : Sol.Ok n L k m { x with conf := x.conf + 1, K := K, bump := bp } := { h with kl := hK, wt := fun v h1 h2 h3 => h.wt v h1 h2 (by rw [← hw v]; exact h3), b0 := hp0, b1 := hp1 }
      replace H : Sep w0 w (engR r.eb x.s :: soP b { x with conf := x.conf + 1, K := K, bump := bp } r :: rkR r.rb K :: paceR r.pb x.pc :: phP x r :: lrP x r :: moP x r :: coP x r :: lgP x r :: ownR qa xs.length qk 29 1 (xs.map lV) :: l) := H
      replace H := H.tp 1
      refine Call_of (sBack (solClose (x := { x with conf := x.conf + 1, K := K, bump := bp }) (r := r) H) hok (j := bk) (show bk < x.s.D by omega) (by omega)) ?_
      clear H
      rintro v w ⟨K2, ph2, hok2, H⟩
      generalize hy2 : backS { x with conf := x.conf + 1, K := K, bump := bp } bk K2 ph2 = y2 at hok2 H
      have e1 : y2.s = Watch.back x.s bk := by rw [← hy2]; rfl
      have e2 : y2.lr = x.lr := by rw [← hy2]; rfl
      have e3 : y2.pc = x.pc := by rw [← hy2]; rfl
      have e4 : y2.lg = x.lg := by rw [← hy2]; rfl
      have e5 : y2.conf = x.conf + 1 := by rw [← hy2]; rfl
      have e6 : y2.core = x.core := by rw [← hy2]; rfl
      have e8 : y2.model = x.model := by rw [← hy2]; rfl
      have e7 : y2.s.D = bk := by rw [e1]; rfl
      clear hy2
      obtain ⟨r, H⟩ := solOpen H
      (repeat first | refine go ?_ | ((try conv => whnf); (first | (refine St_gate ?_; refine xS ?_) | (refine StN_gate ?_; refine xN ?_)); clear H; intro w H))
      have hg2 := hok2.sv.good
      have hn2 := hok2.sv.n
      have hF2 := hok2.sv.few
      have hC2 := hok2.sv.fewC
      have hfit : ∀ y ∈ xs, Lit.one y = true ∧ Trail.var y ≤ n := fun y hy => ⟨by rw [one_ok]; exact (hent y hy).2.1, by rw [← hsn]; exact (hent y hy).2.2⟩
      have hs' : ∀ {w' : World} {l' : List Res}, Sep w0 w' (l' ++ (soP b y2 r :: rkR r.rb y2.K :: paceR r.pb y2.pc :: phP y2 r :: lrP y2 r :: moP y2 r :: coP y2 r :: lgP y2 r :: ownR qa xs.length qk 29 1 (xs.map lV) :: l)) → Src w' qa xs.length 1 (xs.map lV) := fun h => h.srcM (a := qa) (n := xs.length) (cap := qk) (el := 29) (sz := 1) (xs := xs.map lV) (List.mem_append_right _ mm)
      replace H := H.tp 1
      refine Call_of (eAdd H hs' (by omega) (fun y hy => (hfit y hy).1) (fun y hy => by rw [hn2]; exact (hfit y hy).2) (by omega) (by omega) hg2.wl hg2.inv.vars (fun y h1 h2 => by have := hg2.wat_few h1 h2; omega)) ?_
      clear H
      rintro _ w ⟨rfl, own, hcl, _, H⟩
      have hsv : Sv n L (y2.lr.map (·.1) ++ [y2.s.C.length]) (k + 1) (m + 1) (addP y2.s (leadP y2.s.E own) (Lit.bothB xs)) := by
        rw [e1, e2, hxs]
        exact h.sv.learn hL rfl (hxs ▸ hcl)
      replace H := H.tp 1
      (repeat first | refine go ?_ | ((try conv => whnf); (first | (refine St_gate ?_; refine xS ?_) | (refine StN_gate ?_; refine xN ?_)); clear H; intro w H))
      (refine Nw_sep H ?_; clear H; intro nb w H; (try simp only [Value.cells, List.toList_toArray, List.append_nil, List.cons_append, List.nil_append] at H))
      (repeat first | refine go ?_ | ((try conv => whnf); (first | (refine St_gate ?_; refine xS ?_) | (refine StN_gate ?_; refine xN ?_)); clear H; intro w H))
      refine DoN_gate ?_
      refine append_one tok H rfl rfl rfl rfl rfl (by decide) (List.Mem.tail _ (List.Mem.tail _ (List.Mem.tail _ (List.Mem.tail _ (List.Mem.tail _ (List.Mem.tail _ (List.Mem.tail _ (List.Mem.tail _ (List.Mem.head _))))))))) (n := y2.lg) (xs := r.gs) (m := 1) rfl (by simp [oneCell]) (by omega) (by unfold maxLen; omega) ?_
      clear H
      intro ga' gk' w H
      replace H := H _ (by repeat first | exact Upd.head | apply Upd.tail)
      (repeat first | refine go ?_ | ((try conv => whnf); (first | (refine St_gate ?_; refine xS ?_) | (refine StN_gate ?_; refine xN ?_)); clear H; intro w H))
      have hlr2 : y2.lr.length ≤ 100000 := by rw [e2]; exact hlr
      have hpa2 : y2.pc.a ≤ 1000000 := by rw [e3]; exact ha
      (refine Nw_sep H ?_; clear H; intro mb w H; (try simp only [Value.cells, List.toList_toArray, List.append_nil, List.cons_append, List.nil_append] at H))
      (repeat first | refine go ?_ | ((try conv => whnf); (first | (refine St_gate ?_; refine xS ?_) | (refine StN_gate ?_; refine xN ?_)); clear H; intro w H))
      refine DoN_gate ?_
      refine append_one tok H rfl rfl rfl rfl rfl (by decide) (List.Mem.tail _ (List.Mem.tail _ (List.Mem.tail _ (List.Mem.tail _ (List.Mem.tail _ (List.Mem.head _)))))) (n := y2.lr.length) (xs := y2.lr.flatMap ln2) (m := 1) rfl (by simp [oneCell, idV]) (by omega) (by unfold maxLen; omega) ?_
      clear H
      intro la' lk' w H
      replace H := H _ (by repeat first | exact Upd.head | apply Upd.tail)
      (repeat first | refine go ?_ | ((try conv => whnf); (first | (refine St_gate ?_; refine xS ?_) | (refine StN_gate ?_; refine xN ?_)); clear H; intro w H))
      refine Call_of (pConflict H mm hok2.pc (by omega)) ?_
      clear H
      rintro _ w ⟨cc, q, rfl, hq, hqa, hqr, H⟩
      replace H := H _ (by repeat first | exact Upd.head | apply Upd.tail)
      (try conv => whnf)
      (repeat (refine Kept_gate ?_; refine xK ?_))
      (repeat first | refine go ?_ | ((try conv => whnf); (first | (refine St_gate ?_; refine xS ?_) | (refine StN_gate ?_; refine xN ?_)); clear H; intro w H))
      have hll : (y2.lr ++ [(y2.s.C.length, (lvn : Int))]).length = y2.lr.length + 1 := by simp
      have hfm : (y2.lr ++ [(y2.s.C.length, (lvn : Int))]).flatMap ln2 = y2.lr.flatMap ln2 ++ [idV y2.s.C.length, Value.int .i64 (lvn : Int)] := by simp [ln2]
      rw [← hll, ← hfm] at H
      have H2 : ∃ y3 : Sol, y3.Ok n L (k + 1) (m + 1) ∧ y3.pc = q ∧ y3.conf = x.conf + 1 ∧ y3.lr.length = x.lr.length + 1 ∧ y3.core = x.core ∧ y3.model = x.model ∧ y3.s.D = bk ∧ Sep w0 w (solR b y3 :: l) := by
        refine ⟨{ y2 with s := addP y2.s (leadP y2.s.E own) (Lit.bothB xs), lr := y2.lr ++ [(y2.s.C.length, (lvn : Int))], lg := y2.lg + 1, pc := q }, { hok2 with sv := by simpa using hsv, wt := fun v h1 h2 h3 => ?_, pc := hq, lv := fun p hp => ?_, lg := ?_, kk := by omega }, rfl, e5, ?_, e6, e8, ?_, ?_⟩
        · show find (addP y2.s (leadP y2.s.E own) (Lit.bothB xs)).E (v : Int) ≠ none
          rw [(addP_E _ _ _).1]
          exact hok2.wt v h1 h2 h3
        · rcases List.mem_append.1 hp with hp | hp
          · exact hok2.lv p hp
          · rw [List.mem_singleton.1 hp]
            show (0 : Int) ≤ (lvn : Int) ∧ (lvn : Int) ≤ 1000000
            omega
        · show y2.lg + 1 ≤ m + 1
          omega
        · show (y2.lr ++ [(y2.s.C.length, (lvn : Int))]).length = x.lr.length + 1
          rw [hll, e2]
        · show (addP y2.s (leadP y2.s.E own) (Lit.bothB xs)).D = bk
          rw [(addP_E _ _ _).2.1]; exact e7
        · exact (solClose (x := { y2 with s := addP y2.s (leadP y2.s.E own) (Lit.bothB xs), lr := y2.lr ++ [(y2.s.C.length, (lvn : Int))], lg := y2.lg + 1, pc := q }) (r := { r with la := la', lk := lk', ga := ga', gk := gk', gs := r.gs ++ [Value.bool false, Value.slice qa xs.length qk] }) H).drop 1 rfl rfl
      clear H hsv
      obtain ⟨y3, hy3, p1, p2, p3, p4, p6, p5, H⟩ := H2
      cases cc with
      | true =>
        (repeat first | refine go ?_ | ((try conv => whnf); (first | (refine St_gate ?_; refine xS ?_) | (refine StN_gate ?_; refine xN ?_)); clear H; intro w H))
        refine Call_of (sHome H hy3 (by omega)) ?_
        clear H
        rintro v w ⟨y4, hy4, q0, q1, q2, q3, q4, _, q5, _, H⟩
        (repeat first | refine go ?_ | ((try conv => whnf); (first | (refine St_gate ?_; refine xS ?_) | (refine StN_gate ?_; refine xN ?_)); clear H; intro w H))
        refine Call_of (sForget H hy4 q0 (by rw [q1, p1]; omega) (by rw [q3, p3]; omega) (by rw [q3, p3]; omega)) ?_
        clear H
        rintro v w ⟨y5, hy5, hft, H⟩
        (repeat first | refine go ?_ | ((try conv => whnf); (first | (refine St_gate ?_; refine xS ?_) | (refine StN_gate ?_; refine xN ?_)); clear H; intro w H))
        refine Ret_in (.inl ⟨rfl, y5, ⟨?_, by rw [hft.pc, q1, p1, hqa, e3], by rw [hft.pc, q1, p1, hqr, e3], by rw [hft.conf, q2, p2], fun hz => ?_, by rw [hft.core, q4, p4], by rw [hft.model, q5, p6]⟩, H⟩)
        · have hs5 := hy5.sv
          rw [q3, p3] at hy5
          exact { hy5 with sv := hy5.sv.mono (Nat.le_refl _) (by omega), lg := Nat.le_trans hy5.lg (by omega) }
        · rw [hft.few ?_, q3, p3]
          rw [q1, p1, q3, p3, hqr, hqa, e3]
          omega
      | false =>
        (repeat first | refine go ?_ | ((try conv => whnf); (first | (refine St_gate ?_; refine xS ?_) | (refine StN_gate ?_; refine xN ?_)); clear H; intro w H))
        exact Ret_in (.inl ⟨rfl, y3, ⟨{ hy3 with sv := hy3.sv.mono (Nat.le_refl _) (by omega), lg := Nat.le_trans hy3.lg (by omega) }, by rw [p1, hqa, e3], by rw [p1, hqr, e3], p2, fun _ => p3, p4, p6⟩, H⟩)
end
end Go.Proofs.YtcibiidebknkgaaGreat
/-! A solver's search. -/
set_option linter.unusedVariables false
set_option linter.unusedSimpArgs false
namespace Go.Proofs.YtcibiidebknkgaaGreat
open Go Go.Vc Go.Watch Go.Lit
open Go.Trail (Ent value find upto okLit litsV)
set_option maxHeartbeats 8000000
set_option maxRecDepth 100000
theorem free_yes2 {k : Nat} {E : List Ent} {x : Int} (h1 : okLit x = true) (h2 : Trail.var x ≤ k) (h3 : find E (Trail.var x) = none) : freeNo k E x = 0 := by
  unfold freeNo
  have := Trail.var_pos.2 h1
  rw [if_pos ⟨by omega, h2⟩, if_pos h3]
section
variable {w0 w : World} {l : List Res} {b : Nat} {x : Sol} {n k m : Nat} {L : List (List Int)} {cs : List Int} {ca : Option Addr} {cc eb kU C : Nat}
theorem Sol.Ok.mono (h : x.Ok n L k m) {m' : Nat} (hm : m ≤ m') : x.Ok n L k m' := { h with sv := h.sv.mono (Nat.le_refl _) hm, lg := Nat.le_trans h.lg hm }
/-- How far a solver of few variables can be. -/
structure Sr (n kU C : Nat) (L : List (List Int)) (x : Sol) (m : Nat) : Prop where
  ok : x.Ok n L (kU + x.pc.a) m
  le : m ≤ C + 1800000 * x.pc.a
  t : x.pc.a ≤ 10 * 3 ^ n + 10 + x.lr.length
  c1 : x.broken = false → x.conf ≤ x.pc.a
  c2 : x.conf ≤ x.pc.a + 1
theorem pow3 (hn : n ≤ 7) : 3 ^ n ≤ 2187 := Nat.pow_le_pow_right (by decide) hn
theorem Sr.few (h : Sr n kU C L x m) : x.lr.length ≤ 3 ^ n := by
  have := h.ok.sv.count
  rwa [List.length_map] at this
theorem Sr.many (h : Sr n kU C L x m) (hn : n ≤ 7) : x.pc.a ≤ 24067 ∧ x.lr.length ≤ 2187 := by
  have h1 := h.few
  have h2 := pow3 hn
  have h3 := h.t
  omega
def mu (q : Sol) : Nat := 9 * (24068 - q.pc.a) + (8 - q.s.E.length) + (if q.broken then 0 else 1)
/-- The search of a solver of at most seven variables, without assumptions. -/
theorem sSearch (H : Sep w0 w (solR b x :: l)) (h : Sr n kU C L x m) (hn : n ≤ 7) (hkU : kU ≤ 500) (hC : C ≤ 300000000000) :
    Does Tryz.prog 24 #[.pointer (some ⟨b, 0, none⟩), .int .i64 (-1), .slice none 0 0] w fun v w' => ∃ y m', Sr n kU (C + 1800000) L y m' ∧
      ((v = .int .i64 1 ∧ y.model.length = n ∧ (∀ c ∈ L, hol y.model c)) ∨ (v = .int .i64 2 ∧ y.model = x.model ∧ ∀ vs, ¬ ∀ c ∈ L, hol vs c)) ∧ Sep w0 w' (solR b y :: l) := by
  refine Does_intro tok (Tryz.call24 _ _) Tryz.func24 rfl (by rfl) ?_
  obtain ⟨r, H⟩ := solOpen H
  (repeat first | refine go ?_ | ((try conv => whnf); (first | (refine St_gate ?_; refine xS ?_) | (refine StN_gate ?_; refine xN ?_)); clear H; intro w H))
  replace H := solClose H
  refine Loop_intro (fun q : Sol => []) (fun q w => (∃ m', Sr n kU (C + 1800000) L q m' ∧ m' ≤ C + 1800000 * q.pc.a + 200000 * q.s.E.length + (if q.broken then 200000 else 0) ∧ q.model = x.model) ∧ Sep w0 w (solR b q :: l)) mu x trivial ⟨⟨m, ⟨h.ok, by have := h.le; omega, h.t, h.c1, h.c2⟩, by have := h.le; omega, rfl⟩, H⟩ ?_
  clear H h r
  rintro q w ⟨⟨m, h, hm, hmd⟩, H⟩
  have hok := h.ok
  obtain ⟨ha, hlr⟩ := h.many hn
  have hel := hok.sv.good.deepLe.2.2.1
  rw [hok.sv.n] at hel
  obtain ⟨r, H⟩ := solOpen H
  (repeat first | refine go ?_ | ((try conv => whnf); (first | (refine St_gate ?_; refine xS ?_) | (refine StN_gate ?_; refine xN ?_)); clear H; intro w H))
  cases hbr : q.broken with
  | true =>
    rw [hbr, if_pos rfl] at hm
    (repeat first | refine go ?_ | ((try conv => whnf); (first | (refine St_gate ?_; refine xS ?_) | (refine StN_gate ?_; refine xN ?_)); clear H; intro w H))
    replace H := solClose H
    replace H := Own.nilR H 29 1
    refine Call_of (sNo (cs := []) H hok (by decide) (fun z hz => (by cases hz)) (by omega)) ?_
    clear H
    rintro _ w ⟨rfl, H⟩
    (repeat first | refine go ?_ | ((try conv => whnf); (first | (refine St_gate ?_; refine xS ?_) | (refine StN_gate ?_; refine xN ?_)); clear H; intro w H))
    exact Ret_in ⟨{ q with core := [], lg := q.lg + 1 }, m + 1, ⟨{ hok with sv := hok.sv.mono (Nat.le_refl _) (Nat.le_succ _), lg := Nat.succ_le_succ hok.lg }, by show m + 1 ≤ C + 1800000 + 1800000 * q.pc.a; omega, h.t, h.c1, h.c2⟩, .inr ⟨rfl, hmd, hok.brk hbr⟩, H⟩
  | false =>
    rw [hbr] at hm
    simp only [Bool.false_eq_true, if_false] at hm
    (repeat first | refine go ?_ | ((try conv => whnf); (first | (refine St_gate ?_; refine xS ?_) | (refine StN_gate ?_; refine xN ?_)); clear H; intro w H))
    replace H := H.tp 1
    have hnk : (n + 1) * (kU + q.pc.a + 1) ≤ 198000 := Nat.le_trans (Nat.mul_le_mul (show n + 1 ≤ 8 by omega) (show kU + q.pc.a + 1 ≤ 24600 by omega)) (by decide)
    refine Call_of (sProp H hok (by omega)) ?_
    clear H
    rintro _ w ⟨s', h', hx, H, hcase⟩
    have hel' := h'.sv.good.deepLe.2.2.1
    rw [h'.sv.n] at hel'
    have hee : q.s.E.length ≤ s'.E.length := by
      obtain ⟨G, hG, _⟩ := hx.E
      rw [hG, List.length_append]; omega
    generalize hm2 : m + (n + 1) * (kU + q.pc.a + 1) = m2 at h'
    replace H := H.tp 1
    rcases hcase with ⟨rfl, hF, hh⟩ | ⟨id, c, rfl, hid, h1, h2, h3, h4⟩
    · (repeat first | refine go ?_ | ((try conv => whnf); (first | (refine St_gate ?_; refine xS ?_) | (refine StN_gate ?_; refine xN ?_)); clear H; intro w H))
      replace H := solClose (x := { q with s := s' }) H
      refine Call_of (sNext H h') ?_
      clear H
      rintro _ w ⟨K, y, rfl, hnx, ⟨rfl, hall⟩ | ⟨o1, o2, o3⟩, H⟩
      · have hok2 : ({ q with s := s', K := K } : Sol).Ok n L (kU + q.pc.a) m2 := { h' with kl := hnx.kl, wt := fun v h1 h2 _ => hall v h1 h2 }
        (repeat first | refine go ?_ | ((try conv => whnf); (first | (refine St_gate ?_; refine xS ?_) | (refine StN_gate ?_; refine xN ?_)); clear H; intro w H))
        refine Call_of (sYes H hok2) ?_
        clear H
        rintro _ w ⟨rfl, H⟩
        (repeat first | refine go ?_ | ((try conv => whnf); (first | (refine St_gate ?_; refine xS ?_) | (refine StN_gate ?_; refine xN ?_)); clear H; intro w H))
        exact Ret_in ⟨{ q with s := s', K := K, model := modelS { q with s := s', K := K } n }, m2, ⟨hok2.setM _, by show m2 ≤ C + 1800000 + 1800000 * q.pc.a; omega, h.t, h.c1, h.c2⟩, .inl ⟨rfl, model_len, hok2.model hF hh hall⟩, H⟩
      · have hfn := val_zero h'.sv.good.inv o1 o3
        have hy0 : y ≠ 0 := by
          intro e; subst e; exact absurd o1 (by decide)
        have hfree : freeNo s'.n s'.E y = 0 := free_yes2 o1 (by rw [h'.sv.n]; exact o2) hfn
        have hdl : s'.D ≤ 262144 := h'.sv.good.deepLe.2.1
        have hsd := h'.sv.decide hF hh o1 o2 o3
        have hlen := hsd.good.deepLe.2.2.1
        rw [hsd.n] at hlen
        have hle2 : (Watch.decide' s' y).E.length = s'.E.length + 1 := by show (s'.E ++ [_]).length = _; rw [List.length_append]; rfl
        (repeat first | refine go ?_ | ((try conv => whnf); (first | (refine St_gate ?_; refine xS ?_) | (refine StN_gate ?_; refine xN ?_)); clear H; intro w H))
        obtain ⟨r, H⟩ := solOpen H
        (repeat first | refine go ?_ | ((try conv => whnf); (first | (refine St_gate ?_; refine xS ?_) | (refine StN_gate ?_; refine xN ?_)); clear H; intro w H))
        replace H := H.tp 1
        refine Call_of (eDecide H (x := y) (by show s'.D ≤ 1000000; omega)) ?_
        clear H
        rintro _ w ⟨rfl, H⟩
        rw [show freeNo (({ q with s := s', K := K } : Sol).s).n (({ q with s := s', K := K } : Sol).s).E y = 0 from hfree, if_pos rfl] at H
        replace H := H.tp 1
        (repeat first | refine go ?_ | ((try conv => whnf); (first | (refine St_gate ?_; refine xS ?_) | (refine StN_gate ?_; refine xN ?_)); clear H; intro w H))
        replace H := solClose (x := { q with s := Watch.decide' s' y, K := K }) H
        refine ⟨{ q with s := Watch.decide' s' y, K := K }, trivial, ⟨⟨m2, ⟨{ h' with sv := hsd, kl := hnx.kl, wt := fun v h1 h2 h3 => ?_ }, by show m2 ≤ C + 1800000 + 1800000 * q.pc.a; omega, h.t, h.c1, h.c2⟩, ?_, hmd⟩, H⟩, ?_⟩
        · show find (s'.E ++ [⟨y, s'.D + 1, -1⟩]) (v : Int) ≠ none
          intro hz
          rw [Trail.find_none (by omega)] at hz
          rcases hnx.wt v h1 h2 h3 with h5 | h5 | h5
          · exact h5 ((Trail.find_none (by omega)).2 fun e he => hz e (List.mem_append_left _ he))
          · refine hz ⟨y, s'.D + 1, -1⟩ (List.mem_append_right _ (.head _)) ?_
            show ((Trail.var y : Nat) : Int) = v
            rw [Trail.var_ok o1]; omega
          · refine hz ⟨y, s'.D + 1, -1⟩ (List.mem_append_right _ (.head _)) ?_
            show ((Trail.var y : Nat) : Int) = v
            rw [Trail.var_ok o1]; omega
        · show m2 ≤ C + 1800000 * q.pc.a + 200000 * (Watch.decide' s' y).E.length + (if q.broken = true then 200000 else 0)
          rw [hle2]; omega
        · show mu { q with s := Watch.decide' s' y, K := K } < mu q
          unfold mu
          simp only []
          rw [hle2]; omega
    · (repeat first | refine go ?_ | ((try conv => whnf); (first | (refine St_gate ?_; refine xS ?_) | (refine StN_gate ?_; refine xN ?_)); clear H; intro w H))
      replace H := solClose (x := { q with s := s' }) H
      have hc1 := h.c1 hbr
      have hfewq := h.few
      have hr1 := hok.pc.r1
      have ht := h.t
      have h3n := pow3 hn
      refine Call_of (sMet H h' h1 h2 h3 h4 (by show q.pc.a ≤ 1000000; omega) (by show q.conf ≤ 1000000000; omega) (by show q.lr.length ≤ 100000; omega) (by omega) (by omega)) ?_
      clear H
      rintro _ w (⟨rfl, y, hy, H⟩ | ⟨rfl, y, hyb, hyo, hyc, hys, _, hyp, hyl, hym, H⟩)
      · have hya : y.pc.a = q.pc.a + 1 := hy.a
        have hyc : y.conf = q.conf + 1 := hy.conf
        have hye := hy.ok.sv.good.deepLe.2.2.1
        rw [hy.ok.sv.n] at hye
        (repeat first | refine go ?_ | ((try conv => whnf); (first | (refine St_gate ?_; refine xS ?_) | (refine StN_gate ?_; refine xN ?_)); clear H; intro w H))
        refine ⟨y, trivial, ⟨⟨m2 + 2 + q.lr.length, ⟨by rw [hya]; exact hy.ok, by rw [hya]; omega, ?_, fun _ => by omega, by omega⟩, by rw [hya]; omega, hy.model.trans hmd⟩, H⟩, ?_⟩
        · by_cases hz : (q.lr.length : Int) + 1 < q.pc.r + ((q.pc.a + 1 : Nat) : Int) / 10
          · have := hy.few hz
            have h9 : y.lr.length = q.lr.length + 1 := this
            omega
          · omega
        · unfold mu
          rw [hya, hbr]
          simp only [Bool.false_eq_true, if_false]
          split <;> omega
      · obtain ⟨r, H⟩ := solOpen H
        (repeat first | refine go ?_ | ((try conv => whnf); (first | (refine St_gate ?_; refine xS ?_) | (refine StN_gate ?_; refine xN ?_)); clear H; intro w H))
        rw [hyb]
        (repeat first | refine go ?_ | ((try conv => whnf); (first | (refine St_gate ?_; refine xS ?_) | (refine StN_gate ?_; refine xN ?_)); clear H; intro w H))
        replace H := solClose H
        have hye : y.s.E.length = s'.E.length := by rw [hys]
        refine ⟨y, trivial, ⟨⟨m2 + 1, ⟨by rw [hyp]; exact hyo, by rw [hyp]; show m2 + 1 ≤ C + 1800000 + 1800000 * q.pc.a; omega, by rw [hyp, hyl]; exact ht, fun he => (by rw [hyb] at he; cases he), ?_⟩, ?_, hym.trans hmd⟩, H⟩, ?_⟩
        · have hc9 : y.conf = q.conf + 1 := hyc
          rw [hyp, hc9]
          show q.conf + 1 ≤ q.pc.a + 1
          omega
        · rw [hyp, hye, hyb, if_pos rfl]
          show m2 + 1 ≤ C + 1800000 * q.pc.a + 200000 * s'.E.length + 200000
          omega
        · unfold mu
          rw [hyp, hye, hyb, hbr]
          simp only [Bool.false_eq_true, if_false, if_true]
          omega
theorem sSolveF (H : Sep w0 w (solR b x :: l)) (h : Sr n kU C L x m) (hn : n ≤ 7) (hkU : kU ≤ 500) (hC : C ≤ 300000000000) :
    Does Tryz.prog 10 #[.pointer (some ⟨b, 0, none⟩), .int .i64 (-1), .slice none 0 0] w fun v w' => ∃ y m', Sr n kU (C + 1800000) L y m' ∧ y.s.D = 0 ∧
      ((v = .tuple #[.int .i64 1, .int .i64 0] ∧ y.model.length = n ∧ (∀ c ∈ L, hol y.model c)) ∨ (v = .tuple #[.int .i64 2, .int .i64 0] ∧ y.model = [] ∧ ∀ vs, ¬ ∀ c ∈ L, hol vs c)) ∧ Sep w0 w' (solR b y :: l) := by
  refine Does_intro tok (Tryz.call10 _ _) Tryz.func10 rfl (by rfl) ?_
  (repeat first | refine go ?_ | ((try conv => whnf); (first | (refine St_gate ?_; refine xS ?_) | (refine StN_gate ?_; refine xN ?_)); clear H; intro w H))
  refine Call_of (sKnown (xs := []) H h.ok (fun _ => srcNil _) (by decide)) ?_
  clear H
  rintro _ w ⟨rfl, H⟩
  rw [show fitB n [] = true from rfl]
  obtain ⟨r, H⟩ := solOpen H
  (repeat first | refine go ?_ | ((try conv => whnf); (first | (refine St_gate ?_; refine xS ?_) | (refine StN_gate ?_; refine xN ?_)); clear H; intro w H))
  replace H := H.drop 7 rfl rfl
  replace H := H.drop 6 rfl rfl
  replace H := Own.nilR H 29 1
  replace H := Own.nilR H 4 1
  replace H := H.tp 7
  replace H := H.tp 7
  replace H := H.tp 7
  replace H := H.tp 7
  replace H := H.tp 7
  replace H := H.tp 7
  replace H := solClose (x := clrS x) (r := { r with ma := none, mm := 0, ca := none, ck := 0 }) H
  refine Call_of (sSearch H (m := m) ⟨h.ok.clr, h.le, h.t, h.c1, h.c2⟩ hn hkU hC) ?_
  clear H
  rintro _ w ⟨y, m', hy, hv, H⟩
  have hmb : m' ≤ 700000000000 := by
    have := (hy.many hn).1
    have := hy.le
    omega
  have hfin : ∀ z : Sol, z.Ok n L (kU + y.pc.a) m' → z.pc = y.pc → z.conf = y.conf → z.lr = y.lr → z.broken = y.broken → Sr n kU (C + 1800000) L z m' := by
    intro z hz e1 e2 e3 e4
    exact ⟨by rw [e1]; exact hz, by rw [e1]; exact hy.le, by rw [e1, e3]; exact hy.t, by rw [e1, e2, e4]; exact hy.c1, by rw [e1, e2]; exact hy.c2⟩
  rcases hv with ⟨rfl, q1, q2⟩ | ⟨rfl, q1, q2⟩
  · (repeat first | refine go ?_ | ((try conv => whnf); (first | (refine St_gate ?_; refine xS ?_) | (refine StN_gate ?_; refine xN ?_)); clear H; intro w H))
    refine Call_of (sHome H hy.ok (by omega)) ?_
    clear H
    rintro _ w ⟨z, hz, z0, z1, z2, z3, z4, z5, z6, _, H⟩
    (repeat first | refine go ?_ | ((try conv => whnf); (first | (refine St_gate ?_; refine xS ?_) | (refine StN_gate ?_; refine xN ?_)); clear H; intro w H))
    exact Ret_in ⟨z, m', hfin z hz z1 z2 z3 z5, z0, .inl ⟨rfl, by rw [z6]; exact q1, by rw [z6]; exact q2⟩, H⟩
  · (repeat first | refine go ?_ | ((try conv => whnf); (first | (refine St_gate ?_; refine xS ?_) | (refine StN_gate ?_; refine xN ?_)); clear H; intro w H))
    refine Call_of (sHome H hy.ok (by omega)) ?_
    clear H
    rintro _ w ⟨z, hz, z0, z1, z2, z3, z4, z5, z6, _, H⟩
    (repeat first | refine go ?_ | ((try conv => whnf); (first | (refine St_gate ?_; refine xS ?_) | (refine StN_gate ?_; refine xN ?_)); clear H; intro w H))
    exact Ret_in ⟨z, m', hfin z hz z1 z2 z3 z5, z0, .inr ⟨rfl, z6.trans q1, q2⟩, H⟩
end
end Go.Proofs.YtcibiidebknkgaaGreat
/-! The document's answers on formulas. -/
set_option linter.unusedVariables false
set_option linter.unusedSimpArgs false
namespace Go.Watch
/-- Are all literals of the variables up to z? -/
def fitZ (z : Int) (c : List Int) : Bool := c.all fun x => Lit.one x && decide ((Trail.var x : Int) ≤ z)
theorem fitZ_nat {n : Nat} {c : List Int} : fitZ n c = fitB n c := by
  unfold fitZ fitB
  congr 1
  funext x
  congr 1
  rw [Bool.eq_iff_iff, decide_eq_true_iff, decide_eq_true_iff]
  omega
def sumL (C : List (List Int)) : Nat := (C.map fun c => c.length).sum
def rightZ (z : Int) (C : List (List Int)) : Bool := decide (0 ≤ z) && decide (z ≤ 262144) && decide (C.length ≤ 1048576) && decide (sumL C ≤ 4194304) && C.all (fitZ z)
theorem sumL_next {C : List (List Int)} {i : Nat} {c : List Int} (h : C[i]? = some c) : sumL (C.take (i + 1)) = sumL (C.take i) + c.length := by
  unfold sumL
  rw [List.take_add_one, h, List.map_append, List.sum_append]; simp
theorem fit_bound {n : Nat} {c : List Int} (h : fitZ n c = true) : ∀ x ∈ c, Lit.one x = true ∧ x ≠ 0 ∧ x.natAbs ≤ n ∧ -262144 ≤ x ∧ x ≤ 262144 := by
  intro x hx
  have h1 := List.all_eq_true.1 h x hx
  simp only [Bool.and_eq_true, decide_eq_true_eq] at h1
  have h2 := Lit.one_iff.1 h1.1
  have h3 : Trail.okLit x = true := by rw [← one_ok]; exact h1.1
  have h4 := Trail.var_ok h3
  exact ⟨h1.1, by omega, by omega, by omega, by omega⟩
end Go.Watch
namespace Go.Proofs.YtcibiidebknkgaaGreat
open Go Go.Vc Go.Watch Go.Lit
open Go.Trail (Ent value find upto okLit litsV)
set_option maxHeartbeats 4000000
set_option maxRecDepth 100000
def outV : Option Nat → Int
  | none => -1
  | some i => i
abbrev Fl := Option Addr × Nat × List Int
def flV (x : Fl) : Value := .slice x.1 x.2.2.length x.2.1
/-- A formula's clauses in memory. -/
structure FSrc (w : World) (a : Option Addr) (C : List (List Int)) (R : List Fl) : Prop where
  eq : R.map (fun x : Fl => x.2.2) = C
  rows : Src w a C.length 1 (R.map flV)
  cls : ∀ x ∈ R, Src w x.1 x.2.2.length 1 (x.2.2.map lV) ∧ x.2.2.length ≤ 9223372036854775807
theorem FSrc.len {w : World} {a : Option Addr} {C : List (List Int)} {R : List Fl} (h : FSrc w a C R) : R.length = C.length := by rw [← h.eq, List.length_map]
theorem FSrc.at {w : World} {a : Option Addr} {C : List (List Int)} {R : List Fl} (h : FSrc w a C R) {i : Nat} (hi : i < C.length) : ∃ x, R[i]? = some x ∧ C[i]? = some x.2.2 ∧ Src w x.1 x.2.2.length 1 (x.2.2.map lV) ∧ x.2.2.length ≤ 9223372036854775807 := by
  have hl := h.len
  have hx : R[i]? = some R[i] := List.getElem?_eq_getElem (by omega)
  have e := congrArg (fun l : List (List Int) => l[i]?) h.eq
  simp only [List.getElem?_map, hx, Option.map_some] at e
  exact ⟨_, hx, e.symm, h.cls _ (List.getElem_mem _)⟩

section
variable {w : World}
theorem rOne {x : Int} (w : World) : Does Tryz.prog 27 #[lV x] w fun v w' => v = .bool (Lit.one x) ∧ w = w' := by
  refine Does_intro tok (Tryz.call27 _ _) Tryz.func27 rfl (by rfl) ?_
  by_cases h1 : 1 ≤ x
  · by_cases h2 : x ≤ 262144
    · (repeat first | refine go ?_ | ((try conv => whnf); (first | (refine St_gate ?_; refine xS ?_) | (refine StN_gate ?_; refine xN ?_)); clear H; intro w H))
      exact Ret_in ⟨vbool (by rw [one_iff.2 ⟨by omega, by omega, by omega⟩]), rfl⟩
    · (repeat first | refine go ?_ | ((try conv => whnf); (first | (refine St_gate ?_; refine xS ?_) | (refine StN_gate ?_; refine xN ?_)); clear H; intro w H))
      exact Ret_in ⟨vbool (by rw [one_not.2 (.inr (.inr (by omega)))]), rfl⟩
  · by_cases h2 : x ≤ -1
    · by_cases h3 : -262144 ≤ x
      · (repeat first | refine go ?_ | ((try conv => whnf); (first | (refine St_gate ?_; refine xS ?_) | (refine StN_gate ?_; refine xN ?_)); clear H; intro w H))
        exact Ret_in ⟨vbool (by rw [one_iff.2 ⟨by omega, by omega, by omega⟩, decide_eq_true (by omega)]), rfl⟩
      · (repeat first | refine go ?_ | ((try conv => whnf); (first | (refine St_gate ?_; refine xS ?_) | (refine StN_gate ?_; refine xN ?_)); clear H; intro w H))
        exact Ret_in ⟨vbool (by rw [one_not.2 (.inr (.inl (by omega))), decide_eq_false (by omega)]), rfl⟩
    · (repeat first | refine go ?_ | ((try conv => whnf); (first | (refine St_gate ?_; refine xS ?_) | (refine StN_gate ?_; refine xN ?_)); clear H; intro w H))
      exact Ret_in ⟨vbool (by rw [one_not.2 (.inl (by omega))]), rfl⟩

theorem rVar {x : Int} (w : World) : Does Tryz.prog 28 #[lV x] w fun v w' => v = .int .i64 (var x) ∧ w = w' := by
  refine Does_intro tok (Tryz.call28 _ _) Tryz.func28 rfl (by rfl) ?_
  have hv : var x = if Lit.one x then (if x < 0 then -x else x) else 0 := rfl
  rw [hv]
  (repeat first | refine go ?_ | ((try conv => whnf); (first | (refine St_gate ?_; refine xS ?_) | (refine StN_gate ?_; refine xN ?_)); clear H; intro w H))
  refine Call_of (rOne w) ?_
  rintro _ _ ⟨rfl, rfl⟩
  cases h : Lit.one x with
  | false =>
    (repeat first | refine go ?_ | ((try conv => whnf); (first | (refine St_gate ?_; refine xS ?_) | (refine StN_gate ?_; refine xN ?_)); clear H; intro w H))
    exact Ret_in ⟨rfl, rfl⟩
  | true =>
    have := one_iff.1 h
    by_cases h0 : x < 0
    · (repeat first | refine go ?_ | ((try conv => whnf); (first | (refine St_gate ?_; refine xS ?_) | (refine StN_gate ?_; refine xN ?_)); clear H; intro w H))
      exact Ret_in ⟨vint (by simp only [h0, if_true]; omega), rfl⟩
    · (repeat first | refine go ?_ | ((try conv => whnf); (first | (refine St_gate ?_; refine xS ?_) | (refine StN_gate ?_; refine xN ?_)); clear H; intro w H))
      exact Ret_in ⟨vint (by simp only [h0, if_true, if_false]), rfl⟩

end
section
variable {w0 w : World} {l : List Res} {n m fb : Nat} {z : Int} {v2 : Value} {C : List (List Int)} {R : List Fl} {ca : Option Addr} {cc : Nat} {vs : List Bool} {va : Option Addr} {vc : Nat}
/-! The document's -/
theorem rTrue2 (hs : Src w va vs.length 1 (vs.map fun b => Value.bool b)) {x : Int} (h0 : x ≠ 0) (hx : x.natAbs ≤ vs.length) (hb : -262144 ≤ x ∧ x ≤ 262144) :
    Does Tryz.prog 31 #[lV x, .slice va vs.length vc] w fun v w' => v = .bool (tv vs x) ∧ w = w' := by
  refine Does_intro tok (Tryz.call31 _ _) Tryz.func31 rfl (by rfl) ?_
  have hlt : x.natAbs - 1 < vs.length := by omega
  have hg : vs[x.natAbs - 1]? = some (vs.getD (x.natAbs - 1) false) := by rw [List.getD_eq_getElem?_getD, List.getElem?_eq_getElem hlt]; rfl
  obtain ⟨b, o, rfl⟩ := hs.addr (by rw [List.length_map]; omega)
  unfold tv
  by_cases hn : x < 0
  · rw [if_pos hn]
    (repeat first | refine go ?_ | ((try conv => whnf); (first | (refine St_gate ?_; refine xS ?_) | (refine StN_gate ?_; refine xN ?_)); clear H; intro w H))
    refine Ix_in (x.natAbs - 1) (by omega) hlt ?_
    refine Ld_src (j := x.natAbs - 1) hs (v := .bool (vs.getD (x.natAbs - 1) false)) (by rw [List.getElem?_map, hg]; rfl) ?_
    (repeat first | refine go ?_ | ((try conv => whnf); (first | (refine St_gate ?_; refine xS ?_) | (refine StN_gate ?_; refine xN ?_)); clear H; intro w H))
    exact Ret_in ⟨rfl, rfl⟩
  · rw [if_neg hn]
    (repeat first | refine go ?_ | ((try conv => whnf); (first | (refine St_gate ?_; refine xS ?_) | (refine StN_gate ?_; refine xN ?_)); clear H; intro w H))
    refine Ix_in (x.natAbs - 1) (by omega) hlt ?_
    refine Ld_src (j := x.natAbs - 1) hs (v := .bool (vs.getD (x.natAbs - 1) false)) (by rw [List.getElem?_map, hg]; rfl) ?_
    (repeat first | refine go ?_ | ((try conv => whnf); (first | (refine St_gate ?_; refine xS ?_) | (refine StN_gate ?_; refine xN ?_)); clear H; intro w H))
    exact Ret_in ⟨rfl, rfl⟩
theorem fit1b (x : Int) (z : Int) : (!Lit.one x || decide (z < Lit.var x)) = !(Lit.one x && decide ((Trail.var x : Int) ≤ z)) := by
  rw [var_var]
  cases Lit.one x with
  | true =>
    rw [Bool.not_true, Bool.false_or, Bool.true_and, Bool.eq_iff_iff]; simp
  | false => rfl
theorem rRight2 (H : Sep w0 w l) (hs : ∀ {w' : World} {l' : List Res}, Sep w0 w' (l' ++ l) → FSrc w' ca C R) (hsm : ∀ x ∈ R, x.2.2.length ≤ 35184372087808) (hC : C.length ≤ 1000) :
    Does Tryz.prog 30 #[.agg #[.int .i64 z, .slice ca C.length cc]] w fun v w' => v = .bool (rightZ z C) ∧ Sep w0 w' l := by
  refine Does_intro tok (Tryz.call30 _ _) Tryz.func30 rfl (by rfl) ?_
  (repeat first | refine go ?_ | ((try conv => whnf); (first | (refine St_gate ?_; refine xS ?_) | (refine StN_gate ?_; refine xN ?_)); clear H; intro w H))
  (refine Nw_sep H ?_; clear H; intro fb w H; (try simp only [Value.cells, List.toList_toArray, List.append_nil, List.cons_append, List.nil_append] at H))
  (repeat first | refine go ?_ | ((try conv => whnf); (first | (refine St_gate ?_; refine xS ?_) | (refine StN_gate ?_; refine xN ?_)); clear H; intro w H))
  by_cases h1 : z < 0
  · (repeat first | refine go ?_ | ((try conv => whnf); (first | (refine St_gate ?_; refine xS ?_) | (refine StN_gate ?_; refine xN ?_)); clear H; intro w H))
    exact Ret_in ⟨by unfold rightZ; rw [decide_eq_false (p := 0 ≤ z) (by omega)]; rfl, H.tail⟩
  by_cases h2 : 262144 < z
  · (repeat first | refine go ?_ | ((try conv => whnf); (first | (refine St_gate ?_; refine xS ?_) | (refine StN_gate ?_; refine xN ?_)); clear H; intro w H))
    exact Ret_in ⟨by unfold rightZ; rw [decide_eq_false (p := z ≤ 262144) (by omega), Bool.and_false]; rfl, H.tail⟩
  have hr : rightZ z C = (decide (sumL C ≤ 4194304) && C.all (fitZ z)) := by
    unfold rightZ
    rw [decide_eq_true (p := 0 ≤ z) (by omega), decide_eq_true (p := z ≤ 262144) (by omega), decide_eq_true (p := C.length ≤ 1048576) (by omega)]
    rfl
  rw [hr]
  (repeat first | refine go ?_ | ((try conv => whnf); (first | (refine St_gate ?_; refine xS ?_) | (refine StN_gate ?_; refine xN ?_)); clear H; intro w H))
  refine Loop_intro (fun i : Nat => [(25, .int .i64 (i : Int)), (3, .int .i64 (sumL (C.take i) : Nat))]) (fun i w => (i ≤ C.length ∧ sumL (C.take i) ≤ i * 35184372087808 ∧ ∀ c ∈ C.take i, fitZ z c = true) ∧ Sep w0 w (cellsR fb 35 [.int .i64 z, .slice ca C.length cc] :: l)) (fun i => C.length - i)
    0 ⟨rfl, rfl, trivial⟩ ⟨⟨Nat.zero_le _, by simp [sumL], by simp⟩, H⟩ ?_
  clear H
  rintro i w ⟨⟨hi, hsum, hfit⟩, H⟩
  refine Br_dec (fun k1 => ?_) (fun k1 => ?_)
  · have hlt : i < C.length := by omega
    have hf : FSrc w ca C R := hs (l' := [_]) H
    obtain ⟨⟨ya, yc, ys⟩, hy, hyC, hys, hyl⟩ := hf.at hlt
    have hysm := hsm _ (List.mem_of_getElem? hy)
    simp only [] at hyC hys hyl hysm
    have hnx := sumL_next hyC
    have htk : C.take (i + 1) = C.take i ++ [ys] := by rw [List.take_add_one, hyC]; rfl
    obtain ⟨rb, ro, rfl⟩ := hf.rows.addr (by rw [List.length_map, hf.len]; omega)
    refine Ix_in i rfl hlt ?_
    refine Ld_src (j := i) hf.rows (v := .slice ya ys.length yc) (by rw [List.getElem?_map, hy]; rfl) ?_
    (repeat first | refine go ?_ | ((try conv => whnf); (first | (refine St_gate ?_; refine xS ?_) | (refine StN_gate ?_; refine xN ?_)); clear H; intro w H))
    refine Loop_intro (fun k : Nat => [(35, .int .i64 (k : Int))]) (fun k w => (k ≤ ys.length ∧ fitZ z (ys.take k) = true) ∧ Sep w0 w (cellsR fb 35 [.int .i64 z, .slice (some ⟨rb, ro, none⟩) C.length cc] :: l)) (fun k => ys.length - k)
      0 ⟨rfl, trivial⟩ ⟨⟨Nat.zero_le _, rfl⟩, H⟩ ?_
    clear H hf hys
    rintro k w ⟨⟨hk, hfk⟩, H⟩
    refine Br_dec (fun k2 => ?_) (fun k2 => ?_)
    · have hlk : k < ys.length := by omega
      have hys : Src w ya ys.length 1 (ys.map lV) := by
        obtain ⟨x', hx', _, hs', _⟩ := (hs (l' := [_]) H).at hlt
        rw [hy] at hx'; cases hx'
        exact hs'
      obtain ⟨yb, yo, rfl⟩ := hys.addr (by rw [List.length_map]; omega)
      have hxi : ys[k]? = some ys[k] := List.getElem?_eq_getElem hlk
      have hxm := List.getElem_mem hlk
      have htx : ys.take (k + 1) = ys.take k ++ [ys[k]] := by rw [List.take_add_one, hxi]; rfl
      generalize ys[k] = x at *
      have hf1 := fit1b x z
      refine Ix_in k rfl hlk ?_
      refine Ld_src (j := k) hys (v := lV x) (by rw [List.getElem?_map, hxi]; rfl) ?_
      clear hys
      (repeat first | refine go ?_ | ((try conv => whnf); (first | (refine St_gate ?_; refine xS ?_) | (refine StN_gate ?_; refine xN ?_)); clear H; intro w H))
      refine Draw_intro mixed [0, 1, 2, 3, 4, 6, 7, 5, 8, 9] (by decide +kernel) (fun w _ fd => ?_); replace H := H.fr fd; clear fd
      (repeat first | refine go ?_ | ((try conv => whnf); (first | (refine St_gate ?_; refine xS ?_) | (refine StN_gate ?_; refine xN ?_)); clear H; intro w H))
      refine Call_of (rOne (x := x) _) ?_
      rintro _ _ ⟨rfl, rfl⟩
      have hbad : fitZ z [x] = false → (sumL C ≤ 4194304 → False) ∨ C.all (fitZ z) = false := fun h => .inr (List.all_eq_false.2 ⟨ys, List.mem_of_getElem? hyC, by
        rw [Bool.not_eq_true]
        unfold fitZ at h ⊢
        rw [List.all_eq_false]
        simp at h
        exact ⟨x, hxm, by simpa using h⟩⟩)
      have hend : fitZ z [x] = false → (decide (sumL C ≤ 4194304) && C.all (fitZ z)) = false := fun h => by
        rcases hbad h with h | h
        · rw [decide_eq_false h]; rfl
        · rw [h, Bool.and_false]
      cases ho : Lit.one x with
      | false =>
        (repeat first | refine go ?_ | ((try conv => whnf); (first | (refine St_gate ?_; refine xS ?_) | (refine StN_gate ?_; refine xN ?_)); clear H; intro w H))
        exact Ret_in ⟨by rw [hend (by unfold fitZ; simp [ho])]; rfl, H.tail⟩
      | true =>
        (repeat first | refine go ?_ | ((try conv => whnf); (first | (refine St_gate ?_; refine xS ?_) | (refine StN_gate ?_; refine xN ?_)); clear H; intro w H))
        (try conv => whnf)
        (repeat (refine Kept_gate ?_; refine xK ?_))
        (repeat first | refine go ?_ | ((try conv => whnf); (first | (refine St_gate ?_; refine xS ?_) | (refine StN_gate ?_; refine xN ?_)); clear H; intro w H))
        refine Call_of (rVar (x := x) _) ?_
        rintro _ _ ⟨rfl, rfl⟩
        (try conv => whnf)
        (repeat (refine Kept_gate ?_; refine xK ?_))
        rw [ho] at hf1
        simp only [Bool.not_true, Bool.false_or, Bool.true_and] at hf1
        by_cases hv : z < Lit.var x
        · (repeat first | refine go ?_ | ((try conv => whnf); (first | (refine St_gate ?_; refine xS ?_) | (refine StN_gate ?_; refine xN ?_)); clear H; intro w H))
          exact Ret_in ⟨by rw [hend (by unfold fitZ; simp [ho]; rw [var_var] at hv; omega)]; rfl, H.tail⟩
        · (repeat first | refine go ?_ | ((try conv => whnf); (first | (refine St_gate ?_; refine xS ?_) | (refine StN_gate ?_; refine xN ?_)); clear H; intro w H))
          refine ⟨k + 1, ⟨congrArg some (vint (by omega)), trivial⟩, ⟨⟨by omega, ?_⟩, H⟩, by omega⟩
          rw [htx]
          unfold fitZ at hfk ⊢
          rw [List.all_append, hfk]
          simp [ho]
          rw [var_var] at hv; omega
    · obtain rfl : k = ys.length := by omega
      rw [List.take_length] at hfk
      (repeat first | refine go ?_ | ((try conv => whnf); (first | (refine St_gate ?_; refine xS ?_) | (refine StN_gate ?_; refine xN ?_)); clear H; intro w H))
      refine ⟨i + 1, ⟨congrArg some (vint (by omega)), congrArg some (vint (by rw [hnx]; omega)), trivial⟩, ⟨⟨by omega, by rw [hnx, Nat.succ_mul]; omega, fun c hc => ?_⟩, H⟩, by omega⟩
      rw [htk, List.mem_append, List.mem_singleton] at hc
      rcases hc with hc | rfl
      · exact hfit c hc
      · exact hfk
  · obtain rfl : i = C.length := by omega
    rw [List.take_length] at hsum hfit
    (repeat first | refine go ?_ | ((try conv => whnf); (first | (refine St_gate ?_; refine xS ?_) | (refine StN_gate ?_; refine xN ?_)); clear H; intro w H))
    refine Ret_in ⟨?_, H.tail⟩
    rw [List.take_length, List.all_eq_true.2 hfit, Bool.and_true]
    exact vbool (by rw [Bool.eq_iff_iff]; simp; omega)
theorem rFalse2 (H : Sep w0 w l) (hs : ∀ {w' : World} {l' : List Res}, Sep w0 w' (l' ++ l) → FSrc w' ca C R) (hsm : ∀ x ∈ R, x.2.2.length ≤ 35184372087808) (hC : C.length ≤ 1000)
    (hv : ∀ {w' : World} {l' : List Res}, Sep w0 w' (l' ++ l) → Src w' va vs.length 1 (vs.map fun b => Value.bool b)) (hvm : vs.length ≤ 1000000) :
    Does Tryz.prog 15 #[.agg #[.int .i64 z, .slice ca C.length cc], .slice va vs.length vc] w fun v w' => ((¬(rightZ z C = true ∧ (vs.length : Int) = z) ∧ v = .tuple #[.int .i64 0, .int .i64 21]) ∨
      ((rightZ z C = true ∧ (vs.length : Int) = z) ∧ ∃ o : Option Nat, v = .tuple #[.int .i64 (outV o), .int .i64 0] ∧ (o = none ↔ ∀ c ∈ C, ∃ x ∈ c, tv vs x = true))) ∧ Sep w0 w' l := by
  refine Does_intro tok (Tryz.call15 _ _) Tryz.func15 rfl (by rfl) ?_
  (repeat first | refine go ?_ | ((try conv => whnf); (first | (refine St_gate ?_; refine xS ?_) | (refine StN_gate ?_; refine xN ?_)); clear H; intro w H))
  (refine Nw_sep H ?_; clear H; intro fb w H; (try simp only [Value.cells, List.toList_toArray, List.append_nil, List.cons_append, List.nil_append] at H))
  (repeat first | refine go ?_ | ((try conv => whnf); (first | (refine St_gate ?_; refine xS ?_) | (refine StN_gate ?_; refine xN ?_)); clear H; intro w H))
  refine Call_of (rRight2 H (fun {w'} {l'} h => hs (l' := l' ++ [_]) (by simpa using h)) hsm hC) ?_
  clear H
  rintro _ w ⟨rfl, H⟩
  cases hr : rightZ z C with
  | false =>
    (repeat first | refine go ?_ | ((try conv => whnf); (first | (refine St_gate ?_; refine xS ?_) | (refine StN_gate ?_; refine xN ?_)); clear H; intro w H))
    exact Ret_in ⟨.inl ⟨fun h => Bool.false_ne_true h.1, rfl⟩, H.tail⟩
  | true =>
    by_cases hz : (vs.length : Int) = z
    case neg =>
      (repeat first | refine go ?_ | ((try conv => whnf); (first | (refine St_gate ?_; refine xS ?_) | (refine StN_gate ?_; refine xN ?_)); clear H; intro w H))
      exact Ret_in ⟨.inl ⟨fun h => hz h.2, rfl⟩, H.tail⟩
    subst hz
    have hCf : ∀ c ∈ C, fitZ (vs.length : Int) c = true := by
      unfold rightZ at hr
      simp only [Bool.and_eq_true] at hr
      exact List.all_eq_true.1 hr.2
    (repeat first | refine go ?_ | ((try conv => whnf); (first | (refine St_gate ?_; refine xS ?_) | (refine StN_gate ?_; refine xN ?_)); clear H; intro w H))
    refine Loop_intro (fun i : Nat => [(24, .int .i64 (i : Int))]) (fun i w => (i ≤ C.length ∧ ∀ c ∈ C.take i, ∃ x ∈ c, tv vs x = true) ∧ Sep w0 w (cellsR fb 35 [.int .i64 (vs.length : Int), .slice ca C.length cc] :: l)) (fun i => C.length - i)
      0 ⟨rfl, trivial⟩ ⟨⟨Nat.zero_le _, by simp⟩, H⟩ ?_
    clear H
    rintro i w ⟨⟨hi, hall⟩, H⟩
    refine Br_dec (fun k1 => ?_) (fun k1 => ?_)
    · have hlt : i < C.length := by omega
      have hf : FSrc w ca C R := hs (l' := [_]) H
      obtain ⟨⟨ya, yc, ys⟩, hy, hyC, hys, hyl⟩ := hf.at hlt
      have hysm := hsm _ (List.mem_of_getElem? hy)
      simp only [] at hyC hys hyl hysm
      have htk : C.take (i + 1) = C.take i ++ [ys] := by rw [List.take_add_one, hyC]; rfl
      have hfb := fit_bound (hCf ys (List.mem_of_getElem? hyC))
      obtain ⟨rb, ro, rfl⟩ := hf.rows.addr (by rw [List.length_map, hf.len]; omega)
      refine Ix_in i rfl hlt ?_
      refine Ld_src (j := i) hf.rows (v := .slice ya ys.length yc) (by rw [List.getElem?_map, hy]; rfl) ?_
      (repeat first | refine go ?_ | ((try conv => whnf); (first | (refine St_gate ?_; refine xS ?_) | (refine StN_gate ?_; refine xN ?_)); clear H; intro w H))
      refine Loop_intro (fun q : Nat × Bool => [(31, .int .i64 (q.1 : Int)), (8, .bool q.2)]) (fun q w => (q.1 ≤ ys.length ∧ q.2 = (ys.take q.1).any (tv vs)) ∧ Sep w0 w (cellsR fb 35 [.int .i64 (vs.length : Int), .slice (some ⟨rb, ro, none⟩) C.length cc] :: l)) (fun q => ys.length - q.1)
        (0, false) ⟨rfl, rfl, trivial⟩ ⟨⟨Nat.zero_le _, rfl⟩, H⟩ ?_
      clear H hf hys
      rintro ⟨k, hb⟩ w ⟨⟨hk, hkb⟩, H⟩
      simp only [] at hk hkb H ⊢
      refine Br_dec (fun k2 => ?_) (fun k2 => ?_)
      · have hlk : k < ys.length := by omega
        have hys : Src w ya ys.length 1 (ys.map lV) := by
          obtain ⟨x', hx', _, hs', _⟩ := (hs (l' := [_]) H).at hlt
          rw [hy] at hx'; cases hx'
          exact hs'
        obtain ⟨yb, yo, rfl⟩ := hys.addr (by rw [List.length_map]; omega)
        have hxi : ys[k]? = some ys[k] := List.getElem?_eq_getElem hlk
        have hxm := List.getElem_mem hlk
        have htx : ys.take (k + 1) = ys.take k ++ [ys[k]] := by rw [List.take_add_one, hxi]; rfl
        generalize ys[k] = x at *
        obtain ⟨_, h0, hxn, hx1, hx2⟩ := hfb x hxm
        refine Ix_in k rfl hlk ?_
        refine Ld_src (j := k) hys (v := lV x) (by rw [List.getElem?_map, hxi]; rfl) ?_
        clear hys
        (repeat first | refine go ?_ | ((try conv => whnf); (first | (refine St_gate ?_; refine xS ?_) | (refine StN_gate ?_; refine xN ?_)); clear H; intro w H))
        cases hb with
        | true =>
          (repeat first | refine go ?_ | ((try conv => whnf); (first | (refine St_gate ?_; refine xS ?_) | (refine StN_gate ?_; refine xN ?_)); clear H; intro w H))
          exact ⟨(k + 1, true), ⟨congrArg some (vint (by simp)), rfl, trivial⟩, ⟨⟨by simp only []; omega, by rw [htx, List.any_append, ← hkb]; rfl⟩, H⟩, by simp; omega⟩
        | false =>
          (repeat first | refine go ?_ | ((try conv => whnf); (first | (refine St_gate ?_; refine xS ?_) | (refine StN_gate ?_; refine xN ?_)); clear H; intro w H))
          refine Call_of (rTrue2 (hv (l' := [_]) H) h0 hxn ⟨hx1, hx2⟩) ?_
          rintro _ _ ⟨rfl, rfl⟩
          (repeat first | refine go ?_ | ((try conv => whnf); (first | (refine St_gate ?_; refine xS ?_) | (refine StN_gate ?_; refine xN ?_)); clear H; intro w H))
          exact ⟨(k + 1, tv vs x), ⟨congrArg some (vint (by simp)), rfl, trivial⟩, ⟨⟨by simp only []; omega, by rw [htx, List.any_append, ← hkb]; simp⟩, H⟩, by simp; omega⟩
      · obtain rfl : k = ys.length := by omega
        rw [List.take_length] at hkb
        cases hb with
        | true =>
          (repeat first | refine go ?_ | ((try conv => whnf); (first | (refine St_gate ?_; refine xS ?_) | (refine StN_gate ?_; refine xN ?_)); clear H; intro w H))
          refine ⟨i + 1, ⟨congrArg some (vint (by omega)), trivial⟩, ⟨⟨by omega, fun c hc => ?_⟩, H⟩, by omega⟩
          rw [htk, List.mem_append, List.mem_singleton] at hc
          rcases hc with hc | rfl
          · exact hall c hc
          · exact List.any_eq_true.1 hkb.symm
        | false =>
          (repeat first | refine go ?_ | ((try conv => whnf); (first | (refine St_gate ?_; refine xS ?_) | (refine StN_gate ?_; refine xN ?_)); clear H; intro w H))
          refine Ret_in ⟨.inr ⟨⟨trivial, trivial⟩, some i, rfl, fun h => (by cases h), fun h => ?_⟩, H.tail⟩
          exfalso
          have := List.any_eq_true.2 (h ys (List.mem_of_getElem? hyC))
          rw [← hkb] at this; cases this
    · obtain rfl : i = C.length := by omega
      rw [List.take_length] at hall
      (repeat first | refine go ?_ | ((try conv => whnf); (first | (refine St_gate ?_; refine xS ?_) | (refine StN_gate ?_; refine xN ?_)); clear H; intro w H))
      exact Ret_in ⟨.inr ⟨⟨rfl, rfl⟩, none, rfl, fun _ => hall, fun _ => rfl⟩, H.tail⟩
end
end Go.Proofs.YtcibiidebknkgaaGreat
/-! Each model once. -/
set_option linter.unusedVariables false
set_option linter.unusedSimpArgs false
namespace Go.Proofs.YtcibiidebknkgaaGreat
open Go Go.Vc Go.Watch Go.Lit
open Go.Trail (Ent value find upto okLit litsV)
set_option maxHeartbeats 8000000
set_option maxRecDepth 100000
section
variable {w0 w : World} {l : List Res} {b : Nat} {x : Sol} {n k m : Nat} {L : List (List Int)} {C : List (List Int)} {R : List Fl} {ca : Option Addr} {cc kU : Nat} {z seed u r : Int}
/-- A solver that has met nothing. -/
structure Fresh (n : Nat) (L : List (List Int)) (x : Sol) : Prop where
  ok : x.Ok n L L.length L.length
  D : x.s.D = 0
  a : x.pc.a = 0
  lr : x.lr = []
  conf : x.conf = 0
  brk : x.broken = false
theorem uSolver (H : Sep w0 w l) (hs : ∀ {w' : World} {l' : List Res}, Sep w0 w' (l' ++ l) → FSrc w' ca C R) (hsm : ∀ x ∈ R, x.2.2.length ≤ 35184372087808) (hC : C.length ≤ 9223372036854775807) :
    Does Tryz.prog 12 #[.agg #[.int .u64 seed, .int .i64 u, .int .i64 r], .agg #[.int .i64 z, .slice ca C.length cc]] w fun v w' => (v = .pointer none ∧ Sep w0 w' l) ∨
      ∃ (b n : Nat) (y : Sol), v = .pointer (some ⟨b, 0, none⟩) ∧ z = n ∧ n ≤ 40 ∧ C.length ≤ 300 ∧ (∀ c ∈ C, c.length ≤ 20 ∧ fitB n c = true) ∧ Fresh n C y ∧ Sep w0 w' (solR b y :: l) := by
  refine Does_intro tok (Tryz.call12 _ _) Tryz.func12 rfl (by rfl) ?_
  (repeat first | refine go ?_ | ((try conv => whnf); (first | (refine St_gate ?_; refine xS ?_) | (refine StN_gate ?_; refine xN ?_)); clear H; intro w H))
  (refine Nw_sep H ?_; clear H; intro ob w H; (try simp only [Value.cells, List.toList_toArray, List.append_nil, List.cons_append, List.nil_append] at H))
  (repeat first | refine go ?_ | ((try conv => whnf); (first | (refine St_gate ?_; refine xS ?_) | (refine StN_gate ?_; refine xN ?_)); clear H; intro w H))
  (refine Nw_sep H ?_; clear H; intro fb w H; (try simp only [Value.cells, List.toList_toArray, List.append_nil, List.cons_append, List.nil_append] at H))
  (repeat first | refine go ?_ | ((try conv => whnf); (first | (refine St_gate ?_; refine xS ?_) | (refine StN_gate ?_; refine xN ?_)); clear H; intro w H))
  by_cases h1 : z < 0
  · (repeat first | refine go ?_ | ((try conv => whnf); (first | (refine St_gate ?_; refine xS ?_) | (refine StN_gate ?_; refine xN ?_)); clear H; intro w H))
    exact Ret_in (.inl ⟨rfl, H.tail.tail⟩)
  by_cases h2 : 40 < z
  · (repeat first | refine go ?_ | ((try conv => whnf); (first | (refine St_gate ?_; refine xS ?_) | (refine StN_gate ?_; refine xN ?_)); clear H; intro w H))
    exact Ret_in (.inl ⟨rfl, H.tail.tail⟩)
  by_cases h3 : 300 < C.length
  · (repeat first | refine go ?_ | ((try conv => whnf); (first | (refine St_gate ?_; refine xS ?_) | (refine StN_gate ?_; refine xN ?_)); clear H; intro w H))
    exact Ret_in (.inl ⟨rfl, H.tail.tail⟩)
  obtain ⟨n, rfl⟩ : ∃ n : Nat, z = n := ⟨z.toNat, by omega⟩
  (repeat first | refine go ?_ | ((try conv => whnf); (first | (refine St_gate ?_; refine xS ?_) | (refine StN_gate ?_; refine xN ?_)); clear H; intro w H))
  refine Call_of (sNew H seed u r) ?_
  clear H
  rintro _ w ⟨b, pc, rfl, hpc, hpa, H⟩
  have h0 : Fresh 0 [] (sol0 seed pc) := ⟨Sol.Ok.sol0 (seed := seed) hpc, rfl, hpa, rfl, rfl, rfl⟩
  generalize sol0 seed pc = x0 at H h0
  (repeat first | refine go ?_ | ((try conv => whnf); (first | (refine St_gate ?_; refine xS ?_) | (refine StN_gate ?_; refine xN ?_)); clear H; intro w H))
  refine Loop_intro (fun q : Nat × Sol => [(26, .int .i64 (q.1 : Int))]) (fun q w => (q.1 ≤ n ∧ Fresh q.1 [] q.2) ∧ Sep w0 w (solR b q.2 :: cellsR fb 35 [.int .i64 (n : Int), .slice ca C.length cc] :: cellsR ob 26 [.int .u64 seed, .int .i64 u, .int .i64 r] :: l)) (fun q => n - q.1)
    (0, x0) ⟨rfl, trivial⟩ ⟨⟨Nat.zero_le _, h0⟩, H⟩ ?_
  clear H h0 x0
  rintro ⟨i, x⟩ w ⟨⟨hi, h⟩, H⟩
  simp only [] at hi h H ⊢
  refine Br_dec (fun k1 => ?_) (fun k1 => ?_)
  · (repeat first | refine go ?_ | ((try conv => whnf); (first | (refine St_gate ?_; refine xS ?_) | (refine StN_gate ?_; refine xN ?_)); clear H; intro w H))
    refine Call_of (sVar H h.ok (by omega)) ?_
    clear H
    rintro _ w ⟨rfl, q, H⟩
    (repeat first | refine go ?_ | ((try conv => whnf); (first | (refine St_gate ?_; refine xS ?_) | (refine StN_gate ?_; refine xN ?_)); clear H; intro w H))
    exact ⟨(i + 1, growS x q), ⟨congrArg some (vint (by simp)), trivial⟩, ⟨⟨by simp only []; omega, ⟨h.ok.grow (by omega) q, h.D, h.a, h.lr, h.conf, h.brk⟩⟩, H⟩, by simp; omega⟩
  obtain rfl : i = n := by omega
  (repeat first | refine go ?_ | ((try conv => whnf); (first | (refine St_gate ?_; refine xS ?_) | (refine StN_gate ?_; refine xN ?_)); clear H; intro w H))
  refine Loop_intro (fun q : Nat × Sol => [(34, .int .i64 (q.1 : Int))]) (fun q w => (q.1 ≤ C.length ∧ Fresh i (C.take q.1) q.2 ∧ ∀ c ∈ C.take q.1, c.length ≤ 20 ∧ fitB i c = true) ∧ Sep w0 w (solR b q.2 :: cellsR fb 35 [.int .i64 (i : Int), .slice ca C.length cc] :: cellsR ob 26 [.int .u64 seed, .int .i64 u, .int .i64 r] :: l)) (fun q => C.length - q.1)
    (0, x) ⟨rfl, trivial⟩ ⟨⟨Nat.zero_le _, h, by simp⟩, H⟩ ?_
  clear H h x
  rintro ⟨j, x⟩ w ⟨⟨hj, h, hfit⟩, H⟩
  simp only [] at hj h hfit H ⊢
  refine Br_dec (fun k2 => ?_) (fun k2 => ?_)
  · have hlt : j < C.length := by omega
    have hf : FSrc w ca C R := hs (l' := [_, _, _]) H
    obtain ⟨⟨ya, yc, ys⟩, hy, hyC, hys, hyl⟩ := hf.at hlt
    have hysm := hsm _ (List.mem_of_getElem? hy)
    simp only [] at hyC hys hyl hysm
    have htk : C.take (j + 1) = C.take j ++ [ys] := by rw [List.take_add_one, hyC]; rfl
    have hll : (C.take j).length = j := by rw [List.length_take]; omega
    obtain ⟨rb, ro, rfl⟩ := hf.rows.addr (by rw [List.length_map, hf.len]; omega)
    refine Ix_in j rfl hlt ?_
    refine Ld_src (j := j) hf.rows (v := .slice ya ys.length yc) (by rw [List.getElem?_map, hy]; rfl) ?_
    (repeat first | refine go ?_ | ((try conv => whnf); (first | (refine St_gate ?_; refine xS ?_) | (refine StN_gate ?_; refine xN ?_)); clear H; intro w H))
    by_cases h20 : 20 < ys.length
    · (repeat first | refine go ?_ | ((try conv => whnf); (first | (refine St_gate ?_; refine xS ?_) | (refine StN_gate ?_; refine xN ?_)); clear H; intro w H))
      exact Ret_in (.inl ⟨rfl, H.tail.tail.tail⟩)
    have hk := h.ok
    rw [hll] at hk
    (repeat first | refine go ?_ | ((try conv => whnf); (first | (refine St_gate ?_; refine xS ?_) | (refine StN_gate ?_; refine xN ?_)); clear H; intro w H))
    have hys' : ∀ {w' : World} {l' : List Res}, Sep w0 w' (l' ++ (cellsR fb 35 [.int .i64 (i : Int), .slice (some ⟨rb, ro, none⟩) C.length cc] :: cellsR ob 26 [.int .u64 seed, .int .i64 u, .int .i64 r] :: l)) → Src w' ya ys.length 1 (ys.map lV) := by
      intro w' l' h
      obtain ⟨x', hx', _, hs', _⟩ := (hs (l' := l' ++ [_, _]) (by simpa using h)).at hlt
      rw [hy] at hx'; cases hx'
      exact hs'
    refine Call_of (sAdd H hk hys' (by omega) (by omega) (by omega)) ?_
    clear H
    rintro _ w (⟨hfb, rfl, H⟩ | ⟨hfb, rfl, out, hcl, H⟩)
    · (repeat first | refine go ?_ | ((try conv => whnf); (first | (refine St_gate ?_; refine xS ?_) | (refine StN_gate ?_; refine xN ?_)); clear H; intro w H))
      exact Ret_in (.inl ⟨rfl, H.tail.tail.tail⟩)
    · (repeat first | refine go ?_ | ((try conv => whnf); (first | (refine St_gate ?_; refine xS ?_) | (refine StN_gate ?_; refine xN ?_)); clear H; intro w H))
      refine ⟨(j + 1, addS x ys out), ⟨congrArg some (vint (by simp)), trivial⟩, ⟨⟨by simp only []; omega, ?_, fun c hc => ?_⟩, H⟩, by simp; omega⟩
      · simp only []
        rw [htk]
        refine ⟨?_, (addP_E _ _ _).2.1.trans h.D, h.a, h.lr, h.conf, h.brk⟩
        have := hk.add hfb hcl h.D (by omega)
        rw [List.length_append, hll]
        exact this
      · simp only [] at hc
        rw [htk, List.mem_append, List.mem_singleton] at hc
        rcases hc with hc | rfl
        · exact hfit c hc
        · exact ⟨by omega, hfb⟩
  · obtain rfl : j = C.length := by omega
    rw [List.take_length] at h hfit
    (repeat first | refine go ?_ | ((try conv => whnf); (first | (refine St_gate ?_; refine xS ?_) | (refine StN_gate ?_; refine xN ?_)); clear H; intro w H))
    exact Ret_in (.inr ⟨b, i, x, rfl, rfl, by omega, by omega, hfit, h, (H.drop 2 rfl rfl).drop 1 rfl rfl⟩)
end
end Go.Proofs.YtcibiidebknkgaaGreat
/-! How many models there are. -/
set_option linter.unusedVariables false
set_option linter.unusedSimpArgs false
namespace Go.Watch
/-- The values of the variables that a number stands for. -/
def vec (nv i : Nat) : List Bool := (List.range nv).map fun j => i.testBit j
theorem vec_len {nv i : Nat} : (vec nv i).length = nv := by unfold vec; rw [List.length_map, List.length_range]
theorem vec_get {nv i j : Nat} (h : j < nv) : (vec nv i).getD j false = i.testBit j := by
  unfold vec
  rw [List.getD_eq_getElem?_getD, List.getElem?_map, List.getElem?_range h]; rfl
theorem vec_inj {nv i j : Nat} (hi : i < 2 ^ nv) (hj : j < 2 ^ nv) (h : vec nv i = vec nv j) : i = j := by
  refine Nat.eq_of_testBit_eq fun a => ?_
  by_cases ha : a < nv
  · rw [← vec_get (i := i) ha, ← vec_get (i := j) ha, h]
  · rw [Nat.testBit_lt_two_pow (Nat.lt_of_lt_of_le hi (Nat.pow_le_pow_right (by decide) (by omega))), Nat.testBit_lt_two_pow (Nat.lt_of_lt_of_le hj (Nat.pow_le_pow_right (by decide) (by omega)))]
def idx : List Bool → Nat
  | [] => 0
  | b :: bs => b.toNat + 2 * idx bs
theorem idx_lt : ∀ {vs : List Bool}, idx vs < 2 ^ vs.length
  | [] => by decide
  | b :: bs => by
    have := idx_lt (vs := bs)
    unfold idx
    rw [List.length_cons, Nat.pow_succ]
    cases b <;> simp <;> omega
theorem idx_bit : ∀ {vs : List Bool} {j : Nat}, (idx vs).testBit j = vs.getD j false
  | [], j => by simp [idx]
  | b :: bs, 0 => by
    unfold idx
    rw [Nat.testBit_zero]
    cases b <;> simp [Nat.add_mod]
  | b :: bs, j + 1 => by
    have ih := idx_bit (vs := bs) (j := j)
    unfold idx
    rw [Nat.testBit_succ, show (b.toNat + 2 * idx bs) / 2 = idx bs by cases b <;> simp <;> omega, ih]
    simp
theorem vec_idx {vs : List Bool} : vec vs.length (idx vs) = vs := by
  refine List.ext_getElem? fun j => ?_
  by_cases h : j < vs.length
  · unfold vec
    rw [List.getElem?_map, List.getElem?_range h, List.getElem?_eq_getElem h]
    show some ((idx vs).testBit j) = _
    rw [idx_bit, List.getD_eq_getElem?_getD, List.getElem?_eq_getElem h]; rfl
  · rw [List.getElem?_eq_none (by rw [vec_len]; omega), List.getElem?_eq_none (by omega)]
def allB (vs : List Bool) (L : List (List Int)) : Bool := L.all fun c => c.any (tv vs)
theorem allB_iff {vs : List Bool} {L : List (List Int)} : allB vs L = true ↔ ∀ c ∈ L, hol vs c := by
  unfold allB hol
  simp [List.all_eq_true, List.any_eq_true]
/-- How many ways there are to hold. -/
def cnt (nv : Nat) (L : List (List Int)) : Nat := ((List.range (2 ^ nv)).filter fun i => allB (vec nv i) L).length
theorem filt_one {p q : Nat → Bool} {a : Nat} : ∀ {l : List Nat}, l.Nodup → a ∈ l → p a = true → q a = false → (∀ i ∈ l, i ≠ a → q i = p i) → (l.filter q).length + 1 = (l.filter p).length
  | [], _, h, _, _, _ => by cases h
  | x :: l, hn, h, hp, hq, hh => by
    rw [List.nodup_cons] at hn
    by_cases e : x = a
    · subst e
      have : l.filter q = l.filter p := List.filter_congr fun i hi => hh i (.tail _ hi) fun e => hn.1 (e ▸ hi)
      rw [List.filter_cons, List.filter_cons, hp, hq, this]; rfl
    · have ha : a ∈ l := by
        rcases List.mem_cons.1 h with h | h
        · exact (e h.symm).elim
        · exact h
      have ih := filt_one hn.2 ha hp hq fun i hi => hh i (.tail _ hi)
      rw [List.filter_cons, List.filter_cons, hh x (.head _) e]
      cases p x
      · exact ih
      · simp only [if_true, List.length_cons]; omega
/-- The clause that shuts a model out. -/
def blk (M : List Bool) : List Int := (List.range M.length).map fun j => if M.getD j false then -((j : Int) + 1) else (j : Int) + 1
theorem tv_blk {M vs : List Bool} {j : Nat} : tv vs (if M.getD j false then -((j : Int) + 1) else (j : Int) + 1) = (vs.getD j false != M.getD j false) := by
  unfold tv
  cases M.getD j false with
  | true =>
    simp only [if_true]
    rw [if_pos (by omega), Int.natAbs_neg, show ((j : Int) + 1).natAbs - 1 = j by omega]
    cases vs.getD j false <;> rfl
  | false =>
    simp only [Bool.false_eq_true, if_false]
    rw [if_neg (by omega), show ((j : Int) + 1).natAbs - 1 = j by omega]
    cases vs.getD j false <;> rfl
theorem hol_blk {M vs : List Bool} (h : vs.length = M.length) : hol vs (blk M) ↔ vs ≠ M := by
  unfold hol blk
  constructor
  · rintro ⟨x, hx, ht⟩ rfl
    obtain ⟨j, _, rfl⟩ := List.mem_map.1 hx
    rw [tv_blk] at ht
    simp at ht
  · intro hne
    refine Classical.byContradiction fun hno => hne ?_
    refine List.ext_getElem? fun j => ?_
    by_cases hj : j < M.length
    · have h1 : tv vs (if M.getD j false then -((j : Int) + 1) else (j : Int) + 1) ≠ true := fun ht => hno ⟨_, List.mem_map.2 ⟨j, List.mem_range.2 hj, rfl⟩, ht⟩
      rw [tv_blk] at h1
      rw [List.getD_eq_getElem?_getD, List.getD_eq_getElem?_getD, List.getElem?_eq_getElem hj, List.getElem?_eq_getElem (by omega)] at h1
      rw [List.getElem?_eq_getElem hj, List.getElem?_eq_getElem (by omega)]
      simpa using h1
    · rw [List.getElem?_eq_none (by omega), List.getElem?_eq_none (by omega)]
theorem cnt_blk {nv : Nat} {L : List (List Int)} {M : List Bool} (hl : M.length = nv) (hM : ∀ c ∈ L, hol M c) : cnt nv (L ++ [blk M]) + 1 = cnt nv L := by
  subst hl
  refine filt_one (a := idx M) List.nodup_range (List.mem_range.2 idx_lt) ?_ ?_ fun i hi hne => ?_
  · show allB (vec M.length (idx M)) L = true
    rw [vec_idx]; exact allB_iff.2 hM
  · show allB (vec M.length (idx M)) (L ++ [blk M]) = false
    rw [vec_idx, Bool.eq_false_iff]
    intro h
    exact (hol_blk rfl).1 (allB_iff.1 h _ (List.mem_append_right _ (.head _))) rfl
  · show allB (vec M.length i) (L ++ [blk M]) = allB (vec M.length i) L
    rw [Bool.eq_iff_iff, allB_iff, allB_iff]
    refine ⟨fun h c hc => h c (List.mem_append_left _ hc), fun h c hc => ?_⟩
    rcases List.mem_append.1 hc with hc | hc
    · exact h c hc
    · rw [List.mem_singleton.1 hc, hol_blk vec_len]
      intro e
      refine hne (vec_inj (List.mem_range.1 hi) idx_lt ?_)
      rw [e, vec_idx]
theorem cnt_none {nv : Nat} {L : List (List Int)} (h : ∀ vs, ¬ ∀ c ∈ L, hol vs c) : cnt nv L = 0 := by
  unfold cnt
  rw [List.length_eq_zero_iff, List.filter_eq_nil_iff]
  intro i _ hi
  exact h _ (allB_iff.1 hi)
theorem cnt_le {nv : Nat} {L : List (List Int)} : cnt nv L ≤ 2 ^ nv := by
  unfold cnt
  exact Nat.le_trans (List.length_filter_le _ _) (by rw [List.length_range]; exact Nat.le_refl _)
/-- How many there are of the first ones. -/
def cntTo (nv i : Nat) (L : List (List Int)) : Nat := ((List.range i).filter fun i => allB (vec nv i) L).length
theorem cntTo_next {nv i : Nat} {L : List (List Int)} : cntTo nv (i + 1) L = cntTo nv i L + if allB (vec nv i) L then 1 else 0 := by
  unfold cntTo
  rw [List.range_succ, List.filter_append, List.length_append]
  cases h : allB (vec nv i) L <;> simp [h]
theorem blk_len {M : List Bool} : (blk M).length = M.length := by unfold blk; rw [List.length_map, List.length_range]
theorem fit_blk {M : List Bool} {n : Nat} (hn : M.length ≤ n) (h7 : n ≤ 100) : fitB n (blk M) = true := by
  refine fitB_iff.2 fun x hx => ?_
  unfold blk at hx
  obtain ⟨j, hj, rfl⟩ := List.mem_map.1 hx
  rw [List.mem_range] at hj
  have h1 : Lit.one (if M.getD j false then -((j : Int) + 1) else (j : Int) + 1) = true := by
    rw [Lit.one_iff]
    split <;> omega
  refine ⟨h1, ?_⟩
  rw [Trail.var_ok (by rw [← one_ok]; exact h1)]
  split <;> omega
end Go.Watch
/-! Each model once: the law. -/
set_option linter.unusedVariables false
set_option linter.unusedSimpArgs false
namespace Go.Proofs.YtcibiidebknkgaaGreat
open Go Go.Vc Go.Watch Go.Lit
open Go.Trail (Ent value find upto okLit litsV)
set_option maxHeartbeats 16000000
set_option maxRecDepth 100000
theorem shr_nat {n i k : Nat} (h : i ≤ k) : ((n : Int).fdiv (2 ^ min ((i : Int).toNat) k)) = ((n / 2 ^ i : Nat) : Int) := by
  rw [Int.toNat_natCast, Nat.min_eq_left h, Int.fdiv_eq_ediv_of_nonneg _ (by exact Int.le_of_lt (Int.pow_pos (by decide)))]
  rw [Int.natCast_ediv, Int.natCast_pow]; rfl
theorem Eqv_shrI {n i : Nat} {K : Int → Prop} (h : i ≤ 64) (hk : K ((n / 2 ^ i : Nat) : Int)) : Eqv ((n : Int).fdiv (2 ^ min ((i : Int).toNat) IntKind.i64.bits)) K := Eqv_is _ (shr_nat h) hk
theorem Ar_shlP {r P : Nat} {K : Int → Prop} (hP : 2 ^ r = P) (h : r ≤ 12) (hk : K (P : Int)) : Ar .i64 (1 * 2 ^ min ((r : Int).toNat) IntKind.i64.bits) K := by
  have h1 : (2 ^ r : Nat) ≤ 2 ^ 12 := Nat.pow_le_pow_right (by decide) h
  have e : (1 * 2 ^ min ((r : Int).toNat) IntKind.i64.bits : Int) = ((2 ^ r : Nat) : Int) := by
    rw [Int.toNat_natCast, Int.one_mul, show IntKind.i64.bits = 64 from rfl, Nat.min_eq_left (by omega), Int.natCast_pow]; rfl
  refine Ar_is _ ?_ hk
  rw [e, hP]
  exact wrap_i64 (by omega) (by omega)
theorem Ar_negP {t : Nat} {K : Int → Prop} (h : t ≤ 1000) (hk : K (-((t : Int) + 1))) : Ar .i32 (-((t : Int) + 1)) K := Ar_i32 (by omega) (by omega) hk
theorem Do_bne {P : Program} {T : Tab} (hT : TabOk P T) {t : TypeId} {xo yo : Operand} {a b c : Bool} {w : World} {K : Value → World → Prop} (hd : T.d t = some .bool) (hc : (!(a == b)) = c) (hk : K (.bool c) w) :
    Do P (do eqGuard .neq t xo yo (.bool a) (.bool b); binOp .neq t (.bool a) (.bool b)) w K := Do_bool_ne hT hd (by rw [hc]; exact hk)
theorem sumL_20 : ∀ {C : List (List Int)}, (∀ c ∈ C, c.length ≤ 20) → sumL C ≤ 20 * C.length
  | [], _ => by decide
  | c :: C, h => by
    have ih := sumL_20 (C := C) fun d hd => h d (.tail _ hd)
    have := h c (.head _)
    unfold sumL at ih ⊢
    rw [List.map_cons, List.sum_cons, List.length_cons]
    omega
theorem right_of {n : Nat} {C : List (List Int)} (hn : n ≤ 40) (hC : C.length ≤ 300) (h : ∀ c ∈ C, c.length ≤ 20 ∧ fitB n c = true) : rightZ (n : Int) C = true := by
  have h1 := sumL_20 fun c hc => (h c hc).1
  unfold rightZ
  rw [decide_eq_true (by omega), decide_eq_true (by omega), decide_eq_true (by omega), decide_eq_true (by omega)]
  show C.all (fitZ (n : Int)) = true
  exact List.all_eq_true.2 fun c hc => by rw [fitZ_nat]; exact (h c hc).2
section
variable {W w : World} {C : List (List Int)} {R : List Fl} {ca : Option Addr} {cc : Nat} {z seed u r : Int}
theorem uAll8 (hs0 : FSrc W ca C R) (hsm : ∀ x ∈ R, x.2.2.length ≤ 35184372087808) (hC : C.length ≤ 9223372036854775807) :
    Does Tryz.prog 6 #[.agg #[.int .i64 z, .slice ca C.length cc], .agg #[.int .u64 seed, .int .i64 u, .int .i64 r]] W fun v w' => v = .bool true ∧ Sep W w' [] := by
  have hs : ∀ {w' : World} {l' : List Res}, Sep W w' (l' ++ []) → FSrc w' ca C R := fun H => ⟨hs0.eq, H.rd hs0.rows, fun x hx => ⟨H.rd (hs0.cls x hx).1, (hs0.cls x hx).2⟩⟩
  refine Does_intro tok (Tryz.call6 _ _) Tryz.func6 rfl (by rfl) ?_
  have H := Sep.nil W
  (repeat first | refine goN ?_ | ((try conv => whnf); first | (refine Ar_gate ?_; first | (first | with_reducible refine Ar_shlP hP (by omega) ?_ | refine Ar_i32 (by omega) (by omega) ?_) | refine xA ?_) | (first | with_reducible refine Eqv_shrI (by omega) ?_ | refine Eqv_in ?_)) | ((try conv => whnf); (first | (refine St_gate ?_; refine xS ?_) | (refine StN_gate ?_; refine xN ?_)); clear H; intro w H))
  (refine Nw_sep H ?_; clear H; intro fb w H; (try simp only [Value.cells, List.toList_toArray, List.append_nil, List.cons_append, List.nil_append] at H))
  (repeat first | refine goN ?_ | ((try conv => whnf); first | (refine Ar_gate ?_; first | (first | with_reducible refine Ar_shlP hP (by omega) ?_ | refine Ar_i32 (by omega) (by omega) ?_) | refine xA ?_) | (first | with_reducible refine Eqv_shrI (by omega) ?_ | refine Eqv_in ?_)) | ((try conv => whnf); (first | (refine St_gate ?_; refine xS ?_) | (refine StN_gate ?_; refine xN ?_)); clear H; intro w H))
  (refine Nw_sep H ?_; clear H; intro ob w H; (try simp only [Value.cells, List.toList_toArray, List.append_nil, List.cons_append, List.nil_append] at H))
  (repeat first | refine goN ?_ | ((try conv => whnf); first | (refine Ar_gate ?_; first | (first | with_reducible refine Ar_shlP hP (by omega) ?_ | refine Ar_i32 (by omega) (by omega) ?_) | refine xA ?_) | (first | with_reducible refine Eqv_shrI (by omega) ?_ | refine Eqv_in ?_)) | ((try conv => whnf); (first | (refine St_gate ?_; refine xS ?_) | (refine StN_gate ?_; refine xN ?_)); clear H; intro w H))
  refine Call_of (qAliveS _) ?_
  rintro _ w2 ⟨rfl, H2⟩
  replace H := H.add H2
  clear H2
  (repeat first | refine goN ?_ | ((try conv => whnf); first | (refine Ar_gate ?_; first | (first | with_reducible refine Ar_shlP hP (by omega) ?_ | refine Ar_i32 (by omega) (by omega) ?_) | refine xA ?_) | (first | with_reducible refine Eqv_shrI (by omega) ?_ | refine Eqv_in ?_)) | ((try conv => whnf); (first | (refine St_gate ?_; refine xS ?_) | (refine StN_gate ?_; refine xN ?_)); clear H; intro w H))
  refine Call_of (uSolver H (fun {w'} {l'} h => hs (l' := l' ++ [_, _]) (by simpa using h)) hsm hC) ?_
  clear H
  rintro _ w (⟨rfl, H⟩ | ⟨b, n, y, rfl, rfl, hn40, hC3, hfit, hy, H⟩)
  · (repeat first | refine goN ?_ | ((try conv => whnf); first | (refine Ar_gate ?_; first | (first | with_reducible refine Ar_shlP hP (by omega) ?_ | refine Ar_i32 (by omega) (by omega) ?_) | refine xA ?_) | (first | with_reducible refine Eqv_shrI (by omega) ?_ | refine Eqv_in ?_)) | ((try conv => whnf); (first | (refine St_gate ?_; refine xS ?_) | (refine StN_gate ?_; refine xN ?_)); clear H; intro w H))
    exact Ret_in ⟨rfl, H.tail.tail⟩
  by_cases h7 : 7 < n
  · (repeat first | refine goN ?_ | ((try conv => whnf); first | (refine Ar_gate ?_; first | (first | with_reducible refine Ar_shlP hP (by omega) ?_ | refine Ar_i32 (by omega) (by omega) ?_) | refine xA ?_) | (first | with_reducible refine Eqv_shrI (by omega) ?_ | refine Eqv_in ?_)) | ((try conv => whnf); (first | (refine St_gate ?_; refine xS ?_) | (refine StN_gate ?_; refine xN ?_)); clear H; intro w H))
    exact Ret_in ⟨rfl, H.tail.tail.tail⟩
  obtain ⟨P, hP⟩ : ∃ P, 2 ^ n = P := ⟨_, rfl⟩
  have hP7 : P ≤ 128 := by rw [← hP]; exact Nat.pow_le_pow_right (n := 2) (by decide) (show n ≤ 7 by omega)
  have hP1 : 1 ≤ P := by rw [← hP]; exact Nat.pos_of_ne_zero (by simp)
  (repeat first | refine goN ?_ | ((try conv => whnf); first | (refine Ar_gate ?_; first | (first | with_reducible refine Ar_shlP hP (by omega) ?_ | refine Ar_i32 (by omega) (by omega) ?_) | refine xA ?_) | (first | with_reducible refine Eqv_shrI (by omega) ?_ | refine Eqv_in ?_)) | ((try conv => whnf); (first | (refine St_gate ?_; refine xS ?_) | (refine StN_gate ?_; refine xN ?_)); clear H; intro w H))
  have hright := right_of hn40 hC3 hfit
  replace H : Sep W w [solR b y, cellsR ob 26 [.int .u64 seed, .int .i64 u, .int .i64 r], cellsR fb 35 [.int .i64 (n : Int), .slice ca C.length cc]] := H
  refine Loop_intro (fun q : Nat => [(7, .int .i64 (q : Int)), (6, .int .i64 (cntTo n q C : Nat))]) (fun q w => (q ≤ P ∧ cntTo n q C ≤ q) ∧ Sep W w [solR b y, cellsR ob 26 [.int .u64 seed, .int .i64 u, .int .i64 r], cellsR fb 35 [.int .i64 (n : Int), .slice ca C.length cc]]) (fun q => P - q)
    0 ⟨rfl, rfl, trivial⟩ ⟨⟨Nat.zero_le _, Nat.le_refl _⟩, H⟩ ?_
  clear H
  rintro i w ⟨⟨hi, hci⟩, H⟩
  simp only [] at hi hci H ⊢
  (repeat first | refine goN ?_ | ((try conv => whnf); first | (refine Ar_gate ?_; first | (first | with_reducible refine Ar_shlP hP (by omega) ?_ | refine Ar_i32 (by omega) (by omega) ?_) | refine xA ?_) | (first | with_reducible refine Eqv_shrI (by omega) ?_ | refine Eqv_in ?_)) | ((try conv => whnf); (first | (refine St_gate ?_; refine xS ?_) | (refine StN_gate ?_; refine xN ?_)); clear H; intro w H))
  refine Br_dec (fun k1 => ?_) (fun k1 => ?_)
  · have hlt : i < P := by omega
    (repeat first | refine goN ?_ | ((try conv => whnf); first | (refine Ar_gate ?_; first | (first | with_reducible refine Ar_shlP hP (by omega) ?_ | refine Ar_i32 (by omega) (by omega) ?_) | refine xA ?_) | (first | with_reducible refine Eqv_shrI (by omega) ?_ | refine Eqv_in ?_)) | ((try conv => whnf); (first | (refine St_gate ?_; refine xS ?_) | (refine StN_gate ?_; refine xN ?_)); clear H; intro w H))
    refine make_sep tok H rfl rfl rfl rfl rfl (by decide) n n rfl rfl (by omega) (by omega) (by unfold maxLen; omega) ?_
    clear H
    intro b0 w H
    rw [zB] at H
    (repeat first | refine goN ?_ | ((try conv => whnf); first | (refine Ar_gate ?_; first | (first | with_reducible refine Ar_shlP hP (by omega) ?_ | refine Ar_i32 (by omega) (by omega) ?_) | refine xA ?_) | (first | with_reducible refine Eqv_shrI (by omega) ?_ | refine Eqv_in ?_)) | ((try conv => whnf); (first | (refine St_gate ?_; refine xS ?_) | (refine StN_gate ?_; refine xN ?_)); clear H; intro w H))
    refine Loop_intro (fun q : Nat × List Bool => [(43, .int .i64 (q.1 : Int))]) (fun q w => (q.1 ≤ n ∧ q.2.length = n ∧ ∀ t, t < q.1 → q.2.getD t false = i.testBit t) ∧ Sep W w [ownR (some ⟨b0, 0, none⟩) n n 4 1 (q.2.map boV), solR b y, cellsR ob 26 [.int .u64 seed, .int .i64 u, .int .i64 r], cellsR fb 35 [.int .i64 (n : Int), .slice ca C.length cc]]) (fun q => n - q.1)
      (0, List.replicate n false) ⟨rfl, trivial⟩ ⟨⟨Nat.zero_le _, List.length_replicate, fun t ht => absurd ht (Nat.not_lt_zero _)⟩, H⟩ ?_
    clear H
    rintro ⟨j, vs⟩ w ⟨⟨hj, hvl, hvb⟩, H⟩
    simp only [] at hj hvl hvb H ⊢
    refine Br_dec (fun k2 => ?_) (fun k2 => ?_)
    · have hjl : j < n := by omega
      (repeat first | refine goN ?_ | ((try conv => whnf); first | (refine Ar_gate ?_; first | (first | with_reducible refine Ar_shlP hP (by omega) ?_ | refine Ar_i32 (by omega) (by omega) ?_) | refine xA ?_) | (first | with_reducible refine Eqv_shrI (by omega) ?_ | refine Eqv_in ?_)) | ((try conv => whnf); (first | (refine St_gate ?_; refine xS ?_) | (refine StN_gate ?_; refine xN ?_)); clear H; intro w H))
      refine Ix_in j rfl hjl ?_
      (repeat first | refine goN ?_ | ((try conv => whnf); first | (refine Ar_gate ?_; first | (first | with_reducible refine Ar_shlP hP (by omega) ?_ | refine Ar_i32 (by omega) (by omega) ?_) | refine xA ?_) | (first | with_reducible refine Eqv_shrI (by omega) ?_ | refine Eqv_in ?_)) | ((try conv => whnf); (first | (refine St_gate ?_; refine xS ?_) | (refine StN_gate ?_; refine xN ?_)); clear H; intro w H))
      refine St_uO H .head rfl (by rw [List.length_map]; omega) rfl ?_
      clear H; intro w H
      have hset : ∀ z : Bool, (vs.map boV).set j (.bool z) = (vs.set j z).map boV := fun z => by rw [List.map_set]
      rw [hset] at H
      (repeat first | refine goN ?_ | ((try conv => whnf); first | (refine Ar_gate ?_; first | (first | with_reducible refine Ar_shlP hP (by omega) ?_ | refine Ar_i32 (by omega) (by omega) ?_) | refine xA ?_) | (first | with_reducible refine Eqv_shrI (by omega) ?_ | refine Eqv_in ?_)) | ((try conv => whnf); (first | (refine St_gate ?_; refine xS ?_) | (refine StN_gate ?_; refine xN ?_)); clear H; intro w H))
      refine ⟨(j + 1, vs.set j (((i / 2 ^ j % 2 : Nat) : Int) == 1)), ⟨congrArg some (vint (by simp)), trivial⟩, ⟨⟨by simp only []; omega, by simp only [List.length_set]; exact hvl, fun t ht => ?_⟩, H⟩, by simp; omega⟩
      simp only [] at ht ⊢
      rw [List.getD_eq_getElem?_getD, List.getElem?_set]
      by_cases e : j = t
      · subst e
        rw [if_pos rfl, if_pos (by omega)]
        show (((i / 2 ^ j % 2 : Nat) : Int) == 1) = i.testBit j
        rw [Nat.testBit_eq_decide_div_mod_eq, Bool.eq_iff_iff, beq_iff_eq, decide_eq_true_iff]
        generalize i / 2 ^ j % 2 = q
        omega
      · rw [if_neg e, ← List.getD_eq_getElem?_getD]
        exact hvb t (by omega)
    · obtain rfl : j = n := by omega
      have hvec : vs = vec j i := by
        refine List.ext_getElem? fun t => ?_
        by_cases ht : t < j
        · have h1 := hvb t ht
          rw [← vec_get (i := i) ht, List.getD_eq_getElem?_getD, List.getD_eq_getElem?_getD, List.getElem?_eq_getElem (by omega), List.getElem?_eq_getElem (by rw [vec_len]; exact ht)] at h1
          rw [List.getElem?_eq_getElem (by omega), List.getElem?_eq_getElem (by rw [vec_len]; exact ht)]
          simpa using h1
        · rw [List.getElem?_eq_none (by omega), List.getElem?_eq_none (by rw [vec_len]; omega)]
      clear hvb k2
      subst hvl
      have hnx := cntTo_next (nv := vs.length) (i := i) (L := C)
      rw [← hvec] at hnx
      (repeat first | refine goN ?_ | ((try conv => whnf); first | (refine Ar_gate ?_; first | (first | with_reducible refine Ar_shlP hP (by omega) ?_ | refine Ar_i32 (by omega) (by omega) ?_) | refine xA ?_) | (first | with_reducible refine Eqv_shrI (by omega) ?_ | refine Eqv_in ?_)) | ((try conv => whnf); (first | (refine St_gate ?_; refine xS ?_) | (refine StN_gate ?_; refine xN ?_)); clear H; intro w H))
      refine Call_of (rFalse2 H (fun {w'} {l'} h => hs (l' := l' ++ [_, _, _, _]) (by simpa using h)) hsm (by omega) (fun h => h.srcM (List.mem_append_right _ (.head _))) (by omega)) ?_
      clear H
      rintro _ w ⟨⟨hno, _⟩ | ⟨_, o, rfl, ho⟩, H⟩
      · exact (hno ⟨hright, rfl⟩).elim
      cases o with
      | none =>
        have hall : allB vs C = true := allB_iff.2 (ho.1 rfl)
        rw [hall, if_pos rfl] at hnx
        rw [show outV none = -1 from rfl]
        (try conv => whnf)
        (repeat (refine Kept_gate ?_; refine xK ?_))
        (repeat first | refine goN ?_ | ((try conv => whnf); first | (refine Ar_gate ?_; first | (first | with_reducible refine Ar_shlP hP (by omega) ?_ | refine Ar_i32 (by omega) (by omega) ?_) | refine xA ?_) | (first | with_reducible refine Eqv_shrI (by omega) ?_ | refine Eqv_in ?_)) | ((try conv => whnf); (first | (refine St_gate ?_; refine xS ?_) | (refine StN_gate ?_; refine xN ?_)); clear H; intro w H))
        exact ⟨i + 1, ⟨congrArg some (vint (by omega)), congrArg some (vint (by rw [hnx]; omega)), trivial⟩, ⟨⟨by omega, by omega⟩, H.tail⟩, by omega⟩
      | some t =>
        have hall : allB vs C = false := by
          rw [Bool.eq_false_iff]
          intro h
          cases ho.2 (allB_iff.1 h)
        rw [hall] at hnx
        simp only [Bool.false_eq_true, if_false, Nat.add_zero] at hnx
        rw [show outV (some t) = (t : Int) from rfl]
        (try conv => whnf)
        (repeat (refine Kept_gate ?_; refine xK ?_))
        (repeat first | refine goN ?_ | ((try conv => whnf); first | (refine Ar_gate ?_; first | (first | with_reducible refine Ar_shlP hP (by omega) ?_ | refine Ar_i32 (by omega) (by omega) ?_) | refine xA ?_) | (first | with_reducible refine Eqv_shrI (by omega) ?_ | refine Eqv_in ?_)) | ((try conv => whnf); (first | (refine St_gate ?_; refine xS ?_) | (refine StN_gate ?_; refine xN ?_)); clear H; intro w H))
        exact ⟨i + 1, ⟨congrArg some (vint (by omega)), congrArg some (vint (by rw [hnx])), trivial⟩, ⟨⟨by omega, by omega⟩, H.tail⟩, by omega⟩
  obtain rfl : i = P := by omega
  obtain ⟨M, hM⟩ : ∃ M, M = cntTo n i C := ⟨_, rfl⟩
  have hMc : cnt n C = M := by rw [hM, ← hP]; rfl
  rw [← hM] at hci ⊢
  (repeat first | refine goN ?_ | ((try conv => whnf); first | (refine Ar_gate ?_; first | (first | with_reducible refine Ar_shlP hP (by omega) ?_ | refine Ar_i32 (by omega) (by omega) ?_) | refine xA ?_) | (first | with_reducible refine Eqv_shrI (by omega) ?_ | refine Eqv_in ?_)) | ((try conv => whnf); (first | (refine St_gate ?_; refine xS ?_) | (refine StN_gate ?_; refine xN ?_)); clear H; intro w H))
  refine Loop_intro (fun q : Nat × Sol × List (List Int) => [(12, .int .i64 (q.1 : Int))]) (fun q w => (q.1 ≤ M + 1 ∧ (q.1 ≤ M → cnt n q.2.2 + q.1 = M ∧ q.2.1.s.D = 0 ∧ ∃ m, Sr n (C.length + q.1) (300 + 1800001 * q.1) q.2.2 q.2.1 m)) ∧ Sep W w [solR b q.2.1, cellsR ob 26 [.int .u64 seed, .int .i64 u, .int .i64 r], cellsR fb 35 [.int .i64 (n : Int), .slice ca C.length cc]]) (fun q => M + 1 - q.1)
    (0, y, C) ⟨rfl, trivial⟩ ⟨⟨Nat.zero_le _, fun _ => ⟨hMc, hy.D, C.length, ⟨by rw [hy.a]; exact hy.ok, by show C.length ≤ 300 + 1800001 * 0 + 1800000 * y.pc.a; omega, by rw [hy.a]; exact Nat.zero_le _, fun _ => by rw [hy.conf]; exact Nat.zero_le _, by rw [hy.conf]; exact Nat.zero_le _⟩⟩⟩, H⟩ ?_
  clear H hy y
  rintro ⟨k, x, L⟩ w ⟨⟨hk, hin⟩, H⟩
  simp only [] at hk hin H ⊢
  (repeat first | refine goN ?_ | ((try conv => whnf); first | (refine Ar_gate ?_; first | (first | with_reducible refine Ar_shlP hP (by omega) ?_ | refine Ar_i32 (by omega) (by omega) ?_) | refine xA ?_) | (first | with_reducible refine Eqv_shrI (by omega) ?_ | refine Eqv_in ?_)) | ((try conv => whnf); (first | (refine St_gate ?_; refine xS ?_) | (refine StN_gate ?_; refine xN ?_)); clear H; intro w H))
  refine Br_dec (fun k2 => ?_) (fun k2 => ?_)
  · obtain ⟨hcnt, hD, m, hsr⟩ := hin (by omega)
    (repeat first | refine goN ?_ | ((try conv => whnf); first | (refine Ar_gate ?_; first | (first | with_reducible refine Ar_shlP hP (by omega) ?_ | refine Ar_i32 (by omega) (by omega) ?_) | refine xA ?_) | (first | with_reducible refine Eqv_shrI (by omega) ?_ | refine Eqv_in ?_)) | ((try conv => whnf); (first | (refine St_gate ?_; refine xS ?_) | (refine StN_gate ?_; refine xN ?_)); clear H; intro w H))
    refine Call_of (sSolveF H hsr (by omega) (by omega) (by omega)) ?_
    clear H
    rintro v w ⟨y, m', hsy, hDy, hv, H⟩
    have hmo : y.model.length ≤ 1000000 := by
      rcases hv with ⟨_, h, _⟩ | ⟨_, h, _⟩
      · omega
      · rw [h]; decide
    rcases hv with ⟨rfl, hml, hmh⟩ | ⟨rfl, hml, hmn⟩
    · have hcb := cnt_blk hml hmh
      have hkM : k < M := by omega
      (repeat first | refine goN ?_ | ((try conv => whnf); first | (refine Ar_gate ?_; first | (first | with_reducible refine Ar_shlP hP (by omega) ?_ | refine Ar_i32 (by omega) (by omega) ?_) | refine xA ?_) | (first | with_reducible refine Eqv_shrI (by omega) ?_ | refine Eqv_in ?_)) | ((try conv => whnf); (first | (refine St_gate ?_; refine xS ?_) | (refine StN_gate ?_; refine xN ?_)); clear H; intro w H))
      refine Do_bne tok rfl (c := false) (by rw [decide_eq_true (show (k : Int) < M by omega)]; rfl) ?_
      (repeat first | refine goN ?_ | ((try conv => whnf); first | (refine Ar_gate ?_; first | (first | with_reducible refine Ar_shlP hP (by omega) ?_ | refine Ar_i32 (by omega) (by omega) ?_) | refine xA ?_) | (first | with_reducible refine Eqv_shrI (by omega) ?_ | refine Eqv_in ?_)) | ((try conv => whnf); (first | (refine St_gate ?_; refine xS ?_) | (refine StN_gate ?_; refine xN ?_)); clear H; intro w H))
      refine Do_bne tok rfl (c := false) (by rw [show ((k : Int) == M) = false from beq_false_of_ne (by omega)]; rfl) ?_
      (repeat first | refine goN ?_ | ((try conv => whnf); first | (refine Ar_gate ?_; first | (first | with_reducible refine Ar_shlP hP (by omega) ?_ | refine Ar_i32 (by omega) (by omega) ?_) | refine xA ?_) | (first | with_reducible refine Eqv_shrI (by omega) ?_ | refine Eqv_in ?_)) | ((try conv => whnf); (first | (refine St_gate ?_; refine xS ?_) | (refine StN_gate ?_; refine xN ?_)); clear H; intro w H))
      (refine Nw_sep H ?_; clear H; intro cb w H; (try simp only [Value.cells, List.toList_toArray, List.append_nil, List.cons_append, List.nil_append] at H))
      replace H := H.row 0 0 1 rfl rfl (by decide) (by simp only [List.set_cons_succ, List.set_cons_zero]; rfl)
      (repeat first | refine goN ?_ | ((try conv => whnf); first | (refine Ar_gate ?_; first | (first | with_reducible refine Ar_shlP hP (by omega) ?_ | refine Ar_i32 (by omega) (by omega) ?_) | refine xA ?_) | (first | with_reducible refine Eqv_shrI (by omega) ?_ | refine Eqv_in ?_)) | ((try conv => whnf); (first | (refine St_gate ?_; refine xS ?_) | (refine StN_gate ?_; refine xN ?_)); clear H; intro w H))
      replace H := H.tp 1
      refine Call_of (sModel H hmo) ?_
      clear H
      rintro _ w ⟨ma, mc, rfl, H⟩
      (repeat first | refine goN ?_ | ((try conv => whnf); first | (refine Ar_gate ?_; first | (first | with_reducible refine Ar_shlP hP (by omega) ?_ | refine Ar_i32 (by omega) (by omega) ?_) | refine xA ?_) | (first | with_reducible refine Eqv_shrI (by omega) ?_ | refine Eqv_in ?_)) | ((try conv => whnf); (first | (refine St_gate ?_; refine xS ?_) | (refine StN_gate ?_; refine xN ?_)); clear H; intro w H))
      refine Loop_intro (fun q : Nat × Option Addr × Nat => [(97, .int .i64 (q.1 : Int)), (15, .slice q.2.1 q.1 q.2.2)]) (fun q w => q.1 ≤ y.model.length ∧ Sep W w [ownR ma y.model.length mc 4 1 (y.model.map boV), solR b y, ownR q.2.1 q.1 q.2.2 29 1 (((blk y.model).take q.1).map lV), cellsR ob 26 [.int .u64 seed, .int .i64 u, .int .i64 r], cellsR fb 35 [.int .i64 (n : Int), .slice ca C.length cc]]) (fun q => y.model.length - q.1)
        (0, some ⟨cb, 0, none⟩, 0) ⟨rfl, rfl, trivial⟩ ⟨Nat.zero_le _, H⟩ ?_
      clear H
      rintro ⟨t, a, c⟩ w ⟨ht, H⟩
      simp only [] at ht H ⊢
      refine Br_dec (fun k3 => ?_) (fun k3 => ?_)
      · have hlt : t < y.model.length := by omega
        have hbg : (blk y.model)[t]? = some (if y.model.getD t false then -((t : Int) + 1) else (t : Int) + 1) := by
          unfold blk
          rw [List.getElem?_map, List.getElem?_range hlt]; rfl
        have hmg : y.model[t]? = some (y.model.getD t false) := by rw [List.getD_eq_getElem?_getD, List.getElem?_eq_getElem hlt]; rfl
        have hsrc := H.srcM (a := ma) (n := y.model.length) (cap := mc) (el := 4) (sz := 1) (xs := y.model.map boV) (.head _)
        obtain ⟨yb, yo, hma⟩ := hsrc.addr (by rw [List.length_map]; omega)
        rw [hma] at hsrc ⊢
        refine Ix_in t rfl hlt ?_
        refine Ld_src (j := t) hsrc (v := boV (y.model.getD t false)) (by rw [List.getElem?_map, hmg]; rfl) ?_
        clear hsrc
        rw [← hma]
        cases hz : y.model.getD t false with
        | true =>
          rw [hz] at hbg
          (repeat first | refine goN ?_ | ((try conv => whnf); first | (refine Ar_gate ?_; first | (first | with_reducible refine Ar_shlP hP (by omega) ?_ | refine Ar_i32 (by omega) (by omega) ?_) | refine xA ?_) | (first | with_reducible refine Eqv_shrI (by omega) ?_ | refine Eqv_in ?_)) | ((try conv => whnf); (first | (refine St_gate ?_; refine xS ?_) | (refine StN_gate ?_; refine xN ?_)); clear H; intro w H))
          (refine Nw_sep H ?_; clear H; intro eb w H; (try simp only [Value.cells, List.toList_toArray, List.append_nil, List.cons_append, List.nil_append] at H))
          (repeat first | refine goN ?_ | ((try conv => whnf); first | (refine Ar_gate ?_; first | (first | with_reducible refine Ar_shlP hP (by omega) ?_ | refine Ar_i32 (by omega) (by omega) ?_) | refine xA ?_) | (first | with_reducible refine Eqv_shrI (by omega) ?_ | refine Eqv_in ?_)) | ((try conv => whnf); (first | (refine St_gate ?_; refine xS ?_) | (refine StN_gate ?_; refine xN ?_)); clear H; intro w H))
          (refine DoN_gate ?_; refine append_one tok H rfl rfl rfl rfl rfl (by decide) mm (m := 1) rfl (by simp [oneCell]) (by omega) (by unfold maxLen; omega) ?_; clear H; intro a' c' w H; replace H := H _ (by repeat first | exact Upd.head | apply Upd.tail))
          (repeat first | refine goN ?_ | ((try conv => whnf); first | (refine Ar_gate ?_; first | (first | with_reducible refine Ar_shlP hP (by omega) ?_ | refine Ar_i32 (by omega) (by omega) ?_) | refine xA ?_) | (first | with_reducible refine Eqv_shrI (by omega) ?_ | refine Eqv_in ?_)) | ((try conv => whnf); (first | (refine St_gate ?_; refine xS ?_) | (refine StN_gate ?_; refine xN ?_)); clear H; intro w H))
          refine ⟨(t + 1, a', c'), ⟨congrArg some (vint (by simp)), rfl, trivial⟩, ⟨by simp only []; omega, ?_⟩, by simp; omega⟩
          have e : ((blk y.model).take (t + 1)).map lV = ((blk y.model).take t).map lV ++ [lV (-((t : Int) + 1))] := by
            rw [List.take_add_one, hbg, List.map_append]; rfl
          simp only []
          rw [e]
          exact H
        | false =>
          rw [hz] at hbg
          (repeat first | refine goN ?_ | ((try conv => whnf); first | (refine Ar_gate ?_; first | (first | with_reducible refine Ar_shlP hP (by omega) ?_ | refine Ar_i32 (by omega) (by omega) ?_) | refine xA ?_) | (first | with_reducible refine Eqv_shrI (by omega) ?_ | refine Eqv_in ?_)) | ((try conv => whnf); (first | (refine St_gate ?_; refine xS ?_) | (refine StN_gate ?_; refine xN ?_)); clear H; intro w H))
          (refine Nw_sep H ?_; clear H; intro eb w H; (try simp only [Value.cells, List.toList_toArray, List.append_nil, List.cons_append, List.nil_append] at H))
          (repeat first | refine goN ?_ | ((try conv => whnf); first | (refine Ar_gate ?_; first | (first | with_reducible refine Ar_shlP hP (by omega) ?_ | refine Ar_i32 (by omega) (by omega) ?_) | refine xA ?_) | (first | with_reducible refine Eqv_shrI (by omega) ?_ | refine Eqv_in ?_)) | ((try conv => whnf); (first | (refine St_gate ?_; refine xS ?_) | (refine StN_gate ?_; refine xN ?_)); clear H; intro w H))
          (refine DoN_gate ?_; refine append_one tok H rfl rfl rfl rfl rfl (by decide) mm (m := 1) rfl (by simp [oneCell]) (by omega) (by unfold maxLen; omega) ?_; clear H; intro a' c' w H; replace H := H _ (by repeat first | exact Upd.head | apply Upd.tail))
          (repeat first | refine goN ?_ | ((try conv => whnf); first | (refine Ar_gate ?_; first | (first | with_reducible refine Ar_shlP hP (by omega) ?_ | refine Ar_i32 (by omega) (by omega) ?_) | refine xA ?_) | (first | with_reducible refine Eqv_shrI (by omega) ?_ | refine Eqv_in ?_)) | ((try conv => whnf); (first | (refine St_gate ?_; refine xS ?_) | (refine StN_gate ?_; refine xN ?_)); clear H; intro w H))
          refine ⟨(t + 1, a', c'), ⟨congrArg some (vint (by simp)), rfl, trivial⟩, ⟨by simp only []; omega, ?_⟩, by simp; omega⟩
          have e : ((blk y.model).take (t + 1)).map lV = ((blk y.model).take t).map lV ++ [lV ((t : Int) + 1)] := by
            rw [List.take_add_one, hbg, List.map_append]; rfl
          simp only []
          rw [e]
          exact H
      · obtain rfl : t = y.model.length := by omega
        rw [List.take_of_length_le (by rw [blk_len]; exact Nat.le_refl _)] at H
        (repeat first | refine goN ?_ | ((try conv => whnf); first | (refine Ar_gate ?_; first | (first | with_reducible refine Ar_shlP hP (by omega) ?_ | refine Ar_i32 (by omega) (by omega) ?_) | refine xA ?_) | (first | with_reducible refine Eqv_shrI (by omega) ?_ | refine Eqv_in ?_)) | ((try conv => whnf); (first | (refine St_gate ?_; refine xS ?_) | (refine StN_gate ?_; refine xN ?_)); clear H; intro w H))
        replace H := H.tp 1
        obtain ⟨bl, hbl⟩ : ∃ bl, blk y.model = bl := ⟨_, rfl⟩
        have hbll : bl.length = y.model.length := by rw [← hbl]; exact blk_len
        have hbf : fitB n bl = true := by rw [← hbl]; exact fit_blk (by omega) (by omega)
        rw [hbl] at H hcb
        rw [← hbll] at H ⊢
        have hpa := (hsy.many (by omega)).1
        have hle := hsy.le
        refine Call_of (sAdd (xs := bl) H hsy.ok (fun h => h.srcM (a := a) (n := bl.length) (cap := c) (el := 29) (sz := 1) (xs := bl.map lV) (List.mem_append_right _ mm)) (by omega) (by omega) (by omega)) ?_
        clear H
        rintro _ w (⟨hf, _⟩ | ⟨hf, rfl, out, hcl, H⟩)
        · rw [hbf] at hf; cases hf
        (repeat first | refine goN ?_ | ((try conv => whnf); first | (refine Ar_gate ?_; first | (first | with_reducible refine Ar_shlP hP (by omega) ?_ | refine Ar_i32 (by omega) (by omega) ?_) | refine xA ?_) | (first | with_reducible refine Eqv_shrI (by omega) ?_ | refine Eqv_in ?_)) | ((try conv => whnf); (first | (refine St_gate ?_; refine xS ?_) | (refine StN_gate ?_; refine xN ?_)); clear H; intro w H))
        refine ⟨(k + 1, addS y bl out, L ++ [bl]), ⟨congrArg some (vint (by simp)), trivial⟩, ⟨⟨by simp only []; omega, fun _ => ⟨by simp only []; omega, (addP_E _ _ _).2.1.trans hDy, m' + 1, ⟨?_, ?_, hsy.t, hsy.c1, hsy.c2⟩⟩⟩, (H.drop 2 rfl rfl).drop 1 rfl rfl⟩, by simp; omega⟩
        · simp only []
          have h9 := hsy.ok.add hf hcl hDy (by omega)
          rw [show C.length + (k + 1) + (addS y bl out).pc.a = C.length + k + y.pc.a + 1 by show C.length + (k + 1) + y.pc.a = _; omega]
          exact h9
        · show m' + 1 ≤ 300 + 1800001 * (k + 1) + 1800000 * y.pc.a
          omega
    · have hc0 := cnt_none (nv := n) hmn
      have hkM : k = M := by omega
      (repeat first | refine goN ?_ | ((try conv => whnf); first | (refine Ar_gate ?_; first | (first | with_reducible refine Ar_shlP hP (by omega) ?_ | refine Ar_i32 (by omega) (by omega) ?_) | refine xA ?_) | (first | with_reducible refine Eqv_shrI (by omega) ?_ | refine Eqv_in ?_)) | ((try conv => whnf); (first | (refine St_gate ?_; refine xS ?_) | (refine StN_gate ?_; refine xN ?_)); clear H; intro w H))
      refine Do_bne tok rfl (c := false) (by rw [decide_eq_false (show ¬ (k : Int) < M by omega)]; rfl) ?_
      (repeat first | refine goN ?_ | ((try conv => whnf); first | (refine Ar_gate ?_; first | (first | with_reducible refine Ar_shlP hP (by omega) ?_ | refine Ar_i32 (by omega) (by omega) ?_) | refine xA ?_) | (first | with_reducible refine Eqv_shrI (by omega) ?_ | refine Eqv_in ?_)) | ((try conv => whnf); (first | (refine St_gate ?_; refine xS ?_) | (refine StN_gate ?_; refine xN ?_)); clear H; intro w H))
      refine Do_bne tok rfl (c := false) (by rw [show ((k : Int) == M) = true from beq_iff_eq.2 (by omega)]; rfl) ?_
      (repeat first | refine goN ?_ | ((try conv => whnf); first | (refine Ar_gate ?_; first | (first | with_reducible refine Ar_shlP hP (by omega) ?_ | refine Ar_i32 (by omega) (by omega) ?_) | refine xA ?_) | (first | with_reducible refine Eqv_shrI (by omega) ?_ | refine Eqv_in ?_)) | ((try conv => whnf); (first | (refine St_gate ?_; refine xS ?_) | (refine StN_gate ?_; refine xN ?_)); clear H; intro w H))
      (refine Nw_sep H ?_; clear H; intro cb w H; (try simp only [Value.cells, List.toList_toArray, List.append_nil, List.cons_append, List.nil_append] at H))
      replace H := H.row 0 0 1 rfl rfl (by decide) (by simp only [List.set_cons_succ, List.set_cons_zero]; rfl)
      (repeat first | refine goN ?_ | ((try conv => whnf); first | (refine Ar_gate ?_; first | (first | with_reducible refine Ar_shlP hP (by omega) ?_ | refine Ar_i32 (by omega) (by omega) ?_) | refine xA ?_) | (first | with_reducible refine Eqv_shrI (by omega) ?_ | refine Eqv_in ?_)) | ((try conv => whnf); (first | (refine St_gate ?_; refine xS ?_) | (refine StN_gate ?_; refine xN ?_)); clear H; intro w H))
      replace H := H.tp 1
      refine Call_of (sModel H hmo) ?_
      clear H
      rintro _ w ⟨ma, mc, rfl, H⟩
      rw [hml] at H ⊢
      (repeat first | refine goN ?_ | ((try conv => whnf); first | (refine Ar_gate ?_; first | (first | with_reducible refine Ar_shlP hP (by omega) ?_ | refine Ar_i32 (by omega) (by omega) ?_) | refine xA ?_) | (first | with_reducible refine Eqv_shrI (by omega) ?_ | refine Eqv_in ?_)) | ((try conv => whnf); (first | (refine St_gate ?_; refine xS ?_) | (refine StN_gate ?_; refine xN ?_)); clear H; intro w H))
      refine Loop_intro (fun q : Unit => [(97, .int .i64 0)]) (fun q w' => w = w') (fun q => 0) () ⟨rfl, trivial⟩ rfl ?_
      rintro _ _ rfl
      refine Br_dec_no (by decide) ?_
      (repeat first | refine goN ?_ | ((try conv => whnf); first | (refine Ar_gate ?_; first | (first | with_reducible refine Ar_shlP hP (by omega) ?_ | refine Ar_i32 (by omega) (by omega) ?_) | refine xA ?_) | (first | with_reducible refine Eqv_shrI (by omega) ?_ | refine Eqv_in ?_)) | ((try conv => whnf); (first | (refine St_gate ?_; refine xS ?_) | (refine StN_gate ?_; refine xN ?_)); clear H; intro w H))
      refine ⟨(k + 1, y, L), ⟨congrArg some (vint (by simp)), trivial⟩, ⟨⟨by simp only []; omega, fun h => absurd h (by simp only []; omega)⟩, (H.drop 2 rfl rfl).drop 0 rfl rfl⟩, by simp; omega⟩
  · (repeat first | refine goN ?_ | ((try conv => whnf); first | (refine Ar_gate ?_; first | (first | with_reducible refine Ar_shlP hP (by omega) ?_ | refine Ar_i32 (by omega) (by omega) ?_) | refine xA ?_) | (first | with_reducible refine Eqv_shrI (by omega) ?_ | refine Eqv_in ?_)) | ((try conv => whnf); (first | (refine St_gate ?_; refine xS ?_) | (refine StN_gate ?_; refine xN ?_)); clear H; intro w H))
    exact Ret_in ⟨rfl, H.all⟩
end
end Go.Proofs.YtcibiidebknkgaaGreat
