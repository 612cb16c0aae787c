/- An engine: the clauses that watch a literal. -/
import Derived.Test.YtcibiidebknkgaaGreatWatchV
import Derived.Test.YtcibiidebknkgaaGreatWatchI
import Derived.Test.YtcibiidebknkgaaGreatOver
set_option linter.unusedVariables false
set_option linter.unusedSimpArgs false
namespace Go.Proofs.YtcibiidebknkgaaGreat
open Go Go.Vc Go.Watch
open Go.Trail (Ent value find upto okLit litsV)
set_option maxHeartbeats 4000000
set_option maxRecDepth 100000

section
variable {w0 w : World} {l : List Res} {eb q : Nat} {s : St} {r : Rep} {S : Nat → Prop}

def confV : Option Nat → Int
  | some id => id
  | none => -1
theorem engWSrc (H : Sep w0 w (eng eb s r l)) {p : Nat} {a : Option Addr} {k : Nat} {L : List Nat} (h : r.RW[p]? = some (a, k, L)) : Src w a L.length 1 (L.map idV) := by
  have H2 := (H.top 5 rfl rfl).pick h
  exact Sep.srcM (a := a) (n := L.length) (cap := k) H2 (.head _)
/-- What lies in the row of a visit's clauses. -/
def rowM (L0 k : List Nat) : List Nat := k ++ L0.drop k.length
theorem rowM_len {L0 k : List Nat} (h : k.length ≤ L0.length) : (rowM L0 k).length = L0.length := by simp [rowM]; omega
theorem rowM_get {L0 k : List Nat} {i : Nat} (h : k.length ≤ i) : (rowM L0 k)[i]? = L0[i]? := by
  unfold rowM
  rw [List.getElem?_append_right h, List.getElem?_drop]
  congr 1; omega
theorem rowM_add {L0 k : List Nat} {id : Nat} (h : k.length < L0.length) : ((rowM L0 k).map idV).take k.length ++ [idV id] ++ ((rowM L0 k).map idV).drop (k.length + 1) = (rowM L0 (k ++ [id])).map idV := by
  have e : k.length = (k.map idV).length := by simp
  unfold rowM
  rw [List.map_append, List.map_append, List.map_append]
  conv => lhs; lhs; lhs; rw [e, List.take_left]
  rw [List.length_append, List.length_singleton, List.drop_append, List.drop_eq_nil_of_le (by simp), List.nil_append, List.length_map, Nat.add_sub_cancel_left, List.map_drop, List.map_drop, List.drop_drop]
  rfl
theorem rowM_cut {L0 k : List Nat} {m : Nat} (h : k.length = m) : ((rowM L0 k).map idV).take (m * 1) = k.map idV := by
  have e : m * 1 = (k.map idV).length := by simp [h]
  unfold rowM
  rw [List.map_append, e, List.take_left]
theorem rowM_over {L0 k : List Nat} {i : Nat} (h : k.length ≤ i) (h2 : i ≤ L0.length) : ((((rowM L0 k).map idV).take k.length ++ (L0.drop i).map idV ++ ((rowM L0 k).map idV).drop (k.length + (L0.length - i)))).take ((k.length + (L0.length - i)) * 1) = (k ++ L0.drop i).map idV := by
  have e : k.length = (k.map idV).length := by simp
  have e1 : ((rowM L0 k).map idV).take k.length = k.map idV := by
    unfold rowM
    rw [List.map_append, e, List.take_left]
  rw [e1, ← List.map_append]
  have e2 : (k.length + (L0.length - i)) * 1 = ((k ++ L0.drop i).map idV).length := by simp
  rw [e2, List.take_left]

theorem rowM_drop {L0 k : List Nat} {i : Nat} (h : k.length ≤ i) : ((rowM L0 k).map idV).drop (i * 1) = (L0.drop i).map idV := by
  unfold rowM
  rw [Nat.mul_one, ← List.map_drop, List.drop_append, List.drop_eq_nil_of_le h, List.nil_append, List.drop_drop]
  congr 2; omega
theorem wV_same {R : List Wr} {p : Nat} {x y : Wr} (hx : R[p]? = some x) (hy : wV y = wV x) : (R.set p y).map wV = R.map wV := by
  apply List.ext_getElem?
  intro j
  rw [List.map_set, List.getElem?_set]
  by_cases h : p = j
  · subst h
    rw [if_pos rfl, List.length_map, if_pos (List.getElem?_eq_some_iff.1 hx).1, List.getElem?_map, hx, hy]; rfl
  · rw [if_neg h]
theorem visitClose {x : Int} {M : List Nat} {la : Option Addr} {lk m : Nat} (H : Sep w0 w (ownR la m lk 3 1 ((wAt s.W x).map idV) :: holeR (fun _ x => wR x) r.RW (pl x) :: eP eb (setW s x M) r :: tP (setW s x M) r :: cP (setW s x M) r :: lP r :: ownR r.wa (setW s x M).W.length r.wc 78 1 ((r.RW.map wV).set (pl x) (.slice la m lk)) :: fP (setW s x M) r :: yP (setW s x M) r :: l))
    (hm : m = (wAt s.W x).length) (hok : r.Ok (setW s x M)) (hp : pl x < r.RW.length) : Sep w0 w (engR eb s :: l) := by
  subst hm
  rw [wV_set (L := wAt s.W x)] at H
  replace H := Sep.put (f := fun (_ : Nat) (x : Wr) => wR x) (y := (la, lk, wAt s.W x)) hp H
  (replace H := H.tp 5; replace H := H.tp 5; replace H := H.tp 5; replace H := H.tp 5; replace H := H.tp 5)
  refine engClose (r := { r with RW := r.RW.set (pl x) (la, lk, wAt s.W x) }) ⟨hok.C, ?_⟩ ?_
  · have h2 := hok.W
    rw [List.map_set, h2]
    show wSet (wSet s.W x M) x (wAt s.W x) = s.W
    rw [wSet_wSet, wSet_same]
  · unfold eng eP wP
    have e : (setW s x M).W.length = s.W.length := wSet_len
    unfold eP at H
    rw [e] at H
    exact H

theorem eVisit (H : Sep w0 w (engR eb s :: l)) (hg : Watch.Good S s) {e : Ent} (he : s.E[s.h]? = some e) (hY : s.Y.length ≤ 500000000000) (hfew : s.C.length ≤ 1048576) :
    Does Tryz.prog 75 #[.pointer (some ⟨eb, 0, none⟩), lV (-e.lit)] w fun v w' =>
      ∃ i s' k conf, v = .int .i64 (confV conf) ∧ VInv S s (-e.lit) (wAt s.W (-e.lit)) i s' k conf ∧ (conf = none → i = (wAt s.W (-e.lit)).length) ∧ Sep w0 w' (engR eb s' :: l) := by
  obtain ⟨r, hr, H⟩ := engOpen H
  have heo := hg.inv.ok e (List.mem_of_getElem? he)
  obtain ⟨x, hx⟩ : ∃ x, x = -e.lit := ⟨_, rfl⟩
  rw [← hx]
  have hxl : okLit x = true := by rw [hx, Trail.okLit_neg]; exact heo.1
  have hxn : Trail.var x ≤ s.n := by rw [hx, Trail.var_neg]; exact heo.2.1
  have hxf : tru s.E (-x) := ⟨e, List.mem_of_getElem? he, by omega⟩
  have hpl := pl_lt hxl hxn
  have hdl := hg.deepLe
  refine Does_intro tok (Tryz.call75 _ _) Tryz.func75 rfl (by rfl) ?_
  obtain ⟨la, lk, hwr⟩ := hr.wat (x := x) (by rw [hg.wl]; exact hpl)
  obtain ⟨wb, hwb⟩ := (H.ownM (a := r.wa) (hm := .tail _ (.tail _ (.tail _ (.tail _ (.head _)))))).some (by rw [hg.wl]; omega)
  have hcb : s.C ≠ [] → ∃ cb, r.ca = some ⟨cb, 0, none⟩ := fun h => (H.ownM (a := r.ca) (hm := .tail _ (.tail _ (.head _)))).some (List.length_pos_iff.2 h)
  have hwl : (r.RW.map wV)[pl x]? = some (.slice la (wAt s.W x).length lk) := by rw [List.getElem?_map, hwr]; rfl
  have hplW : pl x < s.W.length := by rw [hg.wl]; exact hpl
  obtain ⟨tb, ca, cc, RC, wa, wc, RW, fa, fc, ya, yc⟩ := r
  simp only [] at hwb hwr hwl hcb
  subst hwb
  (repeat first | refine go ?_ | ((try conv => whnf); (first | (refine St_gate ?_; refine xS ?_) | (refine StN_gate ?_; refine xN ?_)); clear H; intro w H))
  refine Call_of (ePlace hxl _) ?_
  rintro _ _ ⟨rfl, rfl⟩
  (repeat first | refine go ?_ | ((try conv => whnf); (first | (refine St_gate ?_; refine xS ?_) | (refine StN_gate ?_; refine xN ?_)); clear H; intro w H))
  refine Ix_in (pl x) rfl hplW ?_
  (try conv => whnf)
  refine Ld_mO H mm (v := .slice la (wAt s.W x).length lk) hwl ?_
  have hlaO : Vc.Own w la (wAt s.W x).length lk 3 1 ((wAt s.W x).map idV) := by
    have H2 := (H.top 5 rfl rfl).pick hwr
    exact Sep.ownM (a := la) (n := (wAt s.W x).length) (cap := lk) H2 (.head _)
  have hlk := hlaO.2.1
  have hlas : 0 < (wAt s.W x).length → ∃ lb, la = some ⟨lb, 0, none⟩ := fun h => hlaO.some h
  have hla0 : (if lk = 0 then la else la.map (·.add (0 * 1))) = la := by
    rcases hlaO.2.2.2 with ⟨rfl, h0⟩ | ⟨b, rest, rfl, _⟩
    · rw [if_pos h0]
    · split
      · rfl
      · simp only [Option.map_some]; rw [add_mk]
  have hwf := hg.wat_few hxl hxn
  clear hlaO
  (repeat first | refine go ?_ | ((try conv => whnf); (first | (refine St_gate ?_; refine xS ?_) | (refine StN_gate ?_; refine xN ?_)); clear H; intro w H))
  refine Do_slice tok rfl rfl 0 0 (.inl ⟨rfl, rfl⟩) (.inr ⟨_, rfl⟩) (Nat.le_refl _) (Nat.zero_le _) ?_
  rw [hla0]
  (repeat first | refine go ?_ | ((try conv => whnf); (first | (refine St_gate ?_; refine xS ?_) | (refine StN_gate ?_; refine xN ?_)); clear H; intro w H))
  have hs0 : setW s x (rowM (wAt s.W x) []) = s := by
    have : rowM (wAt s.W x) [] = wAt s.W x := by simp [rowM]
    rw [this]
    unfold setW
    rw [wSet_same]
  have hL0 : rowM (wAt s.W x) [] = wAt s.W x := by simp [rowM]
  refine Loop_intro (fun q : Nat × St × Rep × List Nat × Option Nat => [(26, .int .i64 (q.1 : Int)), (7, .slice la q.2.2.2.1.length lk), (8, .int .i64 (confV q.2.2.2.2))])
    (fun q w => (VInv S s x (wAt s.W x) q.1 q.2.1 q.2.2.2.1 q.2.2.2.2 ∧ q.2.2.1.Ok (setW q.2.1 x (rowM (wAt s.W x) q.2.2.2.1)) ∧ q.2.2.1.RW[pl x]? = some (la, lk, rowM (wAt s.W x) q.2.2.2.1) ∧ q.2.2.1.wa = some ⟨wb, 0, none⟩) ∧ Sep w0 w (eng eb (setW q.2.1 x (rowM (wAt s.W x) q.2.2.2.1)) q.2.2.1 l)) (fun q => (wAt s.W x).length - q.1)
    (0, s, ⟨tb, ca, cc, RC, some ⟨wb, 0, none⟩, wc, RW, fa, fc, ya, yc⟩, [], none) ⟨rfl, rfl, rfl, trivial⟩ ⟨⟨VInv.start hg, by rw [hs0]; exact hr, by rw [hL0]; exact hwr, rfl⟩, by rw [hs0]; exact H⟩ ?_
  clear H hs0 hL0 hr hwr hwl hcb
  rintro ⟨i, s1, r, k, conf⟩ w ⟨⟨v, hok, hrw, hwa⟩, H⟩
  simp only [] at v hok hrw hwa H ⊢
  generalize hLL : wAt s.W x = L0 at *
  have hile := v.le2
  have hkle := v.le
  obtain ⟨tb, ca, cc, RC, wa, wc, RW, fa, fc, ya, yc⟩ := r
  simp only [] at hwa hrw
  subst hwa
  have hplr : pl x < RW.length := (List.getElem?_eq_some_iff.1 hrw).1
  have hW1 : s1.W.length = 2 * s.n + 2 := by rw [v.good.wl, v.ext.n]
  have hplS : pl x < (setW s1 x (rowM L0 k)).W.length := by
    show pl x < (wSet s1.W x _).length
    rw [wSet_len]; omega
  refine Br_dec (fun k1 => ?_) (fun k1 => ?_)
  · have hil : i < L0.length := by omega
    obtain ⟨lb, rfl⟩ := hlas (by omega)
    obtain ⟨id, hi⟩ : ∃ id, L0[i]? = some id := ⟨_, List.getElem?_eq_getElem hil⟩
    have hsrc := engWSrc H hrw
    rw [rowM_len (by omega)] at hsrc
    refine Ix_in i rfl (by omega) ?_
    refine Ld_src (j := i) hsrc (v := idV id) (by rw [List.getElem?_map, rowM_get hkle, hi]; rfl) ?_
    cases conf with
    | some j0 =>
      rw [show confV (some j0) = (j0 : Int) from rfl]
      (repeat first | refine go ?_ | ((try conv => whnf); (first | (refine St_gate ?_; refine xS ?_) | (refine StN_gate ?_; refine xN ?_)); clear H; intro w H))
      obtain ⟨c, hc, ho, hci, hcf⟩ := v.cf j0 rfl
      refine Do_slice tok rfl rfl i L0.length (.inr ⟨_, rfl⟩) (.inl ⟨rfl, rfl⟩) (by omega) (by omega) ?_
      have hsd := hsrc.drop (l := i) (cap := lk) (by omega) (by omega)
      rw [rowM_drop hkle] at hsd
      have ea : (if lk = i then some (⟨lb, 0, none⟩ : Addr) else (some (⟨lb, 0, none⟩ : Addr)).map (·.add (i * 1))) = some ((⟨lb, 0, none⟩ : Addr).add (i * 1)) := by rw [if_neg (by omega)]; rfl
      rw [ea] at hsd ⊢
      have hrow := v.row
      replace H := H.tp 5
      replace H := H.pick hrw
      replace H : Vc.Sep w0 w (ownR (some ⟨lb, 0, none⟩) (rowM L0 k).length lk 3 1 ((rowM L0 k).map idV) :: _) := H
      rw [show (rowM L0 k).length = L0.length from rowM_len (by omega)] at H
      (repeat first | refine go ?_ | ((try conv => whnf); (first | (refine St_gate ?_; refine xS ?_) | (refine StN_gate ?_; refine xN ?_)); clear H; intro w H))
      refine append_over tok H rfl rfl rfl (.head _) hsd (by intro u hu; obtain ⟨y, _, rfl⟩ := List.mem_map.1 hu; rfl) (by omega) ?_
      clear H
      intro w H
      replace H := H _ .head
      replace H := H.head (R' := ownR (some ⟨lb, 0, none⟩) (k.length + (L0.length - i)) lk 3 1 ((wAt s1.W x).map idV)) (fun S h => ⟨h.1, by have h2 := h.2.cut (k := k.length + (L0.length - i)) (by omega); rw [rowM_over hkle hile] at h2; rw [hrow]; exact h2⟩)
      (repeat first | refine go ?_ | ((try conv => whnf); (first | (refine St_gate ?_; refine xS ?_) | (refine StN_gate ?_; refine xN ?_)); clear H; intro w H))
      refine Ix_in (pl x) rfl hplS ?_
      (try conv => whnf)
      refine St_uO H (by repeat first | exact Upd.head | apply Upd.tail) rfl (by rw [List.length_map]; exact hplr) rfl ?_
      clear H; intro w H
      (repeat first | refine go ?_ | ((try conv => whnf); (first | (refine St_gate ?_; refine xS ?_) | (refine StN_gate ?_; refine xN ?_)); clear H; intro w H))
      exact Ret_in ⟨i, s1, k, some j0, rfl, v, fun h => (by cases h), visitClose (r := ⟨tb, ca, cc, RC, some ⟨wb, 0, none⟩, wc, RW, fa, fc, ya, yc⟩) H (by rw [hrow]; simp) hok hplr⟩
    | none =>
      rw [show confV none = (-1 : Int) from rfl]
      have hn1 : s1.n = s.n := v.ext.n
      have hxn1 : Trail.var x ≤ s1.n := by omega
      have hfew1 : s1.C.length ≤ 1048576 := by rw [v.ext.len]; exact hfew
      obtain ⟨c, hc, hci, hxt⟩ := v.good.own x hxl hxn1 id (by rw [v.row' hi]; simp)
      have hidlt := (List.getElem?_eq_some_iff.1 hc).1
      obtain ⟨a0, k0, hxR⟩ := hok.cat (s := setW s1 x (rowM L0 k)) (id := id) hc
      simp only [] at hxR
      obtain ⟨cb, hcb⟩ := (H.ownM (a := ca) (hm := .tail _ (.tail _ (.head _)))).some (by show 0 < s1.C.length; omega)
      subst hcb
      have row : ∀ j, j < 3 → (RC.flatMap row3)[id * 3 + j]? = (row3 (a0, k0, c))[j]? := fun j hj => rowGet row3_len hxR hj
      have hcl := v.good.cl c (List.mem_of_getElem? hc)
      have hl6 := v.good.lits_few (List.mem_of_getElem? hc)
      have hplx1 : pl x < s1.W.length := by omega
      have hidl : id < (setW s1 x (rowM L0 k)).C.length := hidlt
      (repeat first | refine go ?_ | ((try conv => whnf); (first | (refine St_gate ?_; refine xS ?_) | (refine StN_gate ?_; refine xN ?_)); clear H; intro w H))
      refine Ix_in id rfl hidl ?_
      (repeat first | refine go ?_ | ((try conv => whnf); (first | (refine St_gate ?_; refine xS ?_) | (refine StN_gate ?_; refine xN ?_)); clear H; intro w H))
      refine Ld_mO H mm (j := id * 3 + 1) (v := .bool c.on) (row 1 (by decide)) ?_
      cases ho : c.on with
      | false =>
        (repeat first | refine go ?_ | ((try conv => whnf); (first | (refine St_gate ?_; refine xS ?_) | (refine StN_gate ?_; refine xN ?_)); clear H; intro w H))
        have v2 := v.off hxl hxn1 hi hc ho
        have e2 : setW (setW s1 x (k ++ L0.drop (i + 1))) x (rowM L0 k) = setW s1 x (rowM L0 k) := by unfold setW; simp only [wSet_wSet]
        exact ⟨(i + 1, setW s1 x (k ++ L0.drop (i + 1)), ⟨tb, some ⟨cb, 0, none⟩, cc, RC, some ⟨wb, 0, none⟩, wc, RW, fa, fc, ya, yc⟩, k, none), ⟨congrArg some (vint (by simp)), rfl, rfl, trivial⟩, ⟨⟨v2, by simp only [e2]; exact hok, hrw, rfl⟩, by simp only [e2]; exact H⟩, by simp; omega⟩
      | true =>
      (repeat first | refine go ?_ | ((try conv => whnf); (first | (refine St_gate ?_; refine xS ?_) | (refine StN_gate ?_; refine xN ?_)); clear H; intro w H))
      refine Call_of (eMoved (s := setW s1 x (rowM L0 k)) H hok hc hxR rfl hxt hcl.1 hcl.2.1 hl6 (by show (wSet s1.W x _).length = 2 * s1.n + 2; rw [wSet_len]; omega) (fun y h1 h2 => by
        show (wAt (wSet s1.W x (rowM L0 k)) y).length ≤ 2000000
        rw [wAt_set hplx1 hxl h1]
        split
        · rw [rowM_len (by omega)]; omega
        · have := v.good.wat_few h1 h2; omega) (by omega) (by show s1.n ≤ 262144; omega)) ?_
      clear H
      rintro bv w hB
      have hB2 : (bv = .bool true ∧ ∃ s2 r2, VInv S s x L0 (i + 1) s2 k none ∧ Rep.Ok r2 (setW s2 x (rowM L0 k)) ∧ r2.RW[pl x]? = some (some ⟨lb, 0, none⟩, lk, rowM L0 k) ∧ r2.wa = some ⟨wb, 0, none⟩ ∧ Sep w0 w (eng eb (setW s2 x (rowM L0 k)) r2 l)) ∨
          (bv = .bool false ∧ ∃ s2 c2 o2 t2 RC2, VInv S s x L0 i s2 k none ∧ s2.C[id]? = some c2 ∧ c2.on = true ∧ c2.idle = false ∧ c2.lits = o2 :: t2 ∧ (value s2.E o2 = 1 ∨ ∀ y ∈ c2.lits, y ≠ o2 → value s2.E y = -1) ∧
            RC2[id]? = some (a0, k0, c2) ∧ Rep.Ok ⟨tb, some ⟨cb, 0, none⟩, cc, RC2, some ⟨wb, 0, none⟩, wc, RW, fa, fc, ya, yc⟩ (setW s2 x (rowM L0 k)) ∧ Sep w0 w (eng eb (setW s2 x (rowM L0 k)) ⟨tb, some ⟨cb, 0, none⟩, cc, RC2, some ⟨wb, 0, none⟩, wc, RW, fa, fc, ya, yc⟩ l)) := by
        have hxf1 : value s1.E x = -1 := by
          obtain ⟨G, hG, _⟩ := v.ext.E
          exact (v.good.valn hxl).2 (by rw [hG]; exact hxf.mono)
        rcases hB with ⟨rfl, o, z, q, q', na, nk, hlits, hzv, H⟩ | ⟨rfl, hlits, H⟩ | ⟨rfl, o, t, hlits, hot, H⟩
        · have hzm : z ∈ c.lits := by rcases hlits with h | h <;> (rw [h]; simp)
          have hzo := hcl.1 z hzm
          have hxz : x ≠ z := by
            rintro rfl
            exact hzv hxf1
          have hpz : pl x ≠ pl z := fun h => hxz (pl_inj hxl hzo.1 h)
          have eW : wAt (wSet s1.W x (rowM L0 k)) z = wAt s1.W z := by rw [wAt_set hplx1 hxl hzo.1, if_neg hxz]
          have e3 : relit (setW s1 x (rowM L0 k)) id c (o :: z :: (q ++ x :: q')) (wSet (setW s1 x (rowM L0 k)).W z (wAt (setW s1 x (rowM L0 k)).W z ++ [id])) = setW (relit s1 id c (o :: z :: (q ++ x :: q')) (wSet (wSet s1.W x (k ++ L0.drop (i + 1))) z (wAt s1.W z ++ [id]))) x (rowM L0 k) := by
            unfold relit setW
            simp only []
            rw [eW, wSet_comm (W := wSet s1.W x (k ++ L0.drop (i + 1))) hpz.symm, wSet_wSet]
          rw [e3] at H
          refine .inl ⟨rfl, _, _, v.moved hxl hxn1 hi hc hlits hzv, ?_, ?_, rfl, H⟩
          · rw [← e3]
            refine ⟨?_, ?_⟩
            · rw [List.map_set, hok.C]; rfl
            · rw [List.map_set, hok.W]; rfl
          · simp only []
            rw [List.getElem?_set_ne hpz.symm]
            exact hrw
        · refine .inr ⟨rfl, s1, c, x, [], RC, v, hc, ho, hci, hlits, .inr fun y hy hne => ?_, hxR, hok, H⟩
          rw [hlits, List.mem_singleton] at hy
          exact (hne hy).elim
        · refine .inr ⟨rfl, relit s1 id c (o :: x :: t) s1.W, { c with lits := o :: x :: t }, o, x :: t, _, v.second hc hlits, relit_get hc, ho, hci, rfl, ?_, ?_, ?_, H⟩
          · rcases hot with h | h
            · exact .inl h
            · refine .inr fun y hy hne => ?_
              rcases List.mem_cons.1 hy with rfl | hy
              · exact (hne rfl).elim
              · rcases List.mem_cons.1 hy with rfl | hy
                · exact hxf1
                · exact h y hy
          · rw [List.getElem?_set_self (List.getElem?_eq_some_iff.1 hxR).1]
          · refine ⟨?_, hok.W⟩
            show (RC.set id _).map _ = s1.C.set id _
            rw [List.map_set, hok.C]; rfl
      clear hB
      rcases hB2 with ⟨rfl, s2, r2, v2, hok2, hrw2, hwa2, H⟩ | ⟨rfl, s2, c2, o2, t2, RC2, v2, hc2, ho2, hi2, hl2, hot, hx2, hok2, H⟩
      · (repeat first | refine go ?_ | ((try conv => whnf); (first | (refine St_gate ?_; refine xS ?_) | (refine StN_gate ?_; refine xN ?_)); clear H; intro w H))
        exact ⟨(i + 1, s2, r2, k, none), ⟨congrArg some (vint (by simp)), rfl, rfl, trivial⟩, ⟨⟨v2, hok2, hrw2, hwa2⟩, H⟩, by simp; omega⟩
      · clear hok hxt row hcl hl6 hidl hxR hc hci ho hW1
        have hcl2 := v2.good.cl c2 (List.mem_of_getElem? hc2)
        have hl62 := v2.good.lits_few (List.mem_of_getElem? hc2)
        have row2 : ∀ j, j < 3 → (RC2.flatMap row3)[id * 3 + j]? = (row3 (a0, k0, c2))[j]? := fun j hj => rowGet row3_len hx2 hj
        have ho2o : okLit o2 = true ∧ Trail.var o2 ≤ s2.n := hcl2.1 o2 (by rw [hl2]; simp)
        have hlen2 : 0 < c2.lits.length := by rw [hl2]; simp
        have hMl : (rowM L0 k).length = L0.length := rowM_len (by omega)
        have hMl2 : (rowM L0 (k ++ [id])).length = L0.length := rowM_len (by simp; omega)
        (repeat first | refine go ?_ | ((try conv => whnf); (first | (refine St_gate ?_; refine xS ?_) | (refine StN_gate ?_; refine xN ?_)); clear H; intro w H))
        (refine Nw_sep H ?_; clear H; intro nb w H; (try simp only [Value.cells, List.toList_toArray, List.append_nil, List.cons_append, List.nil_append] at H))
        replace H := H.tp 6
        replace H := H.pick hrw
        replace H : Vc.Sep w0 w (ownR (some ⟨lb, 0, none⟩) (rowM L0 k).length lk 3 1 ((rowM L0 k).map idV) :: _) := H
        rw [hMl] at H
        (repeat first | refine go ?_ | ((try conv => whnf); (first | (refine St_gate ?_; refine xS ?_) | (refine StN_gate ?_; refine xN ?_)); clear H; intro w H))
        refine append_over tok H rfl rfl rfl (.head _) (H.srcCM (b := nb) 1 1 (.tail _ (.tail _ (.head _))) rfl (by decide)) (by intro u hu; rw [List.mem_singleton] at hu; subst hu; rfl) (by omega) ?_
        clear H
        intro w H
        replace H := H _ .head
        rw [rowM_add (by omega)] at H
        replace H := Sep.put (f := fun (_ : Nat) (x : Wr) => wR x) (y := (some ⟨lb, 0, none⟩, lk, rowM L0 (k ++ [id]))) hplr (by
          show Sep w0 w (ownR (some ⟨lb, 0, none⟩) (rowM L0 (k ++ [id])).length lk 3 1 ((rowM L0 (k ++ [id])).map idV) :: _)
          rw [hMl2]
          exact H)
        replace H := H.drop 1 rfl rfl
        (replace H := H.tp 5; replace H := H.tp 5; replace H := H.tp 5; replace H := H.tp 5; replace H := H.tp 5)
        have hrw3 : (RW.set (pl x) ((some ⟨lb, 0, none⟩, lk, rowM L0 (k ++ [id])) : Wr))[pl x]? = some (some ⟨lb, 0, none⟩, lk, rowM L0 (k ++ [id])) := by rw [List.getElem?_set_self hplr]
        have hok3 : Rep.Ok ⟨tb, some ⟨cb, 0, none⟩, cc, RC2, some ⟨wb, 0, none⟩, wc, RW.set (pl x) (some ⟨lb, 0, none⟩, lk, rowM L0 (k ++ [id])), fa, fc, ya, yc⟩ (setW s2 x (rowM L0 (k ++ [id]))) := by
          refine ⟨hok2.C, ?_⟩
          have h2 := hok2.W
          simp only [] at h2 ⊢
          rw [List.map_set, h2]
          show wSet (wSet s2.W x (rowM L0 k)) x (rowM L0 (k ++ [id])) = _
          rw [wSet_wSet]; rfl
        replace H : Vc.Sep w0 w (eng eb (setW s2 x (rowM L0 (k ++ [id]))) ⟨tb, some ⟨cb, 0, none⟩, cc, RC2, some ⟨wb, 0, none⟩, wc, RW.set (pl x) (some ⟨lb, 0, none⟩, lk, rowM L0 (k ++ [id])), fa, fc, ya, yc⟩ l) := by
          unfold eng eP wP
          rw [wV_same hrw (by unfold wV; simp only []; rw [hMl2, hMl])]
          have e1 : (setW s2 x (rowM L0 (k ++ [id]))).W.length = s2.W.length := wSet_len
          have e2 : (setW s2 x (rowM L0 k)).W.length = s2.W.length := wSet_len
          unfold eP wP at H
          rw [e2] at H
          rw [e1]
          exact H
        generalize RW.set (pl x) ((some ⟨lb, 0, none⟩, lk, rowM L0 (k ++ [id])) : Wr) = RW3 at *
        clear hok2 hrw hplr
        (repeat first | refine go ?_ | ((try conv => whnf); (first | (refine St_gate ?_; refine xS ?_) | (refine StN_gate ?_; refine xN ?_)); clear H; intro w H))
        refine Draw_intro mixed [0, 1, 2, 3, 4, 7, 8, 9, 10, 5, 6, 11, 12] (by decide +kernel) (fun w _ fd => ?_); replace H := H.fr fd; clear fd
        (repeat first | refine go ?_ | ((try conv => whnf); (first | (refine St_gate ?_; refine xS ?_) | (refine StN_gate ?_; refine xN ?_)); clear H; intro w H))
        (try conv => whnf)
        refine Call_of (litVar x _) ?_
        rintro _ _ ⟨rfl, rfl⟩
        (try conv => whnf)
        (repeat (refine Kept_gate ?_; refine xK ?_))
        (try conv => whnf)
        refine Call_of (sTrailLevel H mm) ?_
        clear H
        rintro _ w ⟨rfl, H⟩
        rw [lev_known]
        (try conv => whnf)
        (repeat (refine Kept_gate ?_; refine xK ?_))
        (try conv => whnf)
        refine Call_of (sTrailDepth H mm) ?_
        rintro _ _ ⟨rfl, rfl⟩
        (try conv => whnf)
        (repeat (refine Kept_gate ?_; refine xK ?_))
        have hvY := v2.Y
        have hgr : ∀ s3 : St, (s3 = s2 ∨ s3 = Watch.again s2 id) → Watch.Good S s3 ∧ Ext s s3 ∧ s3.W = s2.W ∧ s3.F = s2.F ∧ s3.h = s2.h ∧ s3.C = s2.C ∧ s3.E = s2.E ∧ s3.n = s2.n ∧ s3.D = s2.D ∧ s3.Y.length ≤ s.Y.length + (i + 1) := by
          rintro s3 (rfl | rfl)
          · exact ⟨v2.good, v2.ext, rfl, rfl, rfl, rfl, rfl, rfl, rfl, by omega⟩
          · have := v2.again hi hc2 hi2 v2.Y
            exact ⟨this.1, this.2.1, rfl, rfl, rfl, rfl, rfl, rfl, rfl, this.2.2⟩
        by_cases hlt : levOf (setW s2 x (rowM L0 (k ++ [id]))).E (Trail.var x) < ((setW s2 x (rowM L0 (k ++ [id]))).D : Int)
        case' pos =>
          (repeat first | refine go ?_ | ((try conv => whnf); (first | (refine St_gate ?_; refine xS ?_) | (refine StN_gate ?_; refine xN ?_)); clear H; intro w H))
          refine Call_of (eAgain H (by show s2.Y.length ≤ _; omega) (by have := (List.getElem?_eq_some_iff.1 hc2).1; have := v2.ext.len; omega)) ?_
          clear H
          rintro _ w ⟨ya3, yc3, H⟩
          replace H : Vc.Sep w0 w (eng eb (setW (Watch.again s2 id) x (rowM L0 (k ++ [id]))) ⟨tb, some ⟨cb, 0, none⟩, cc, RC2, some ⟨wb, 0, none⟩, wc, RW3, fa, fc, ya3, yc3⟩ l) := H
          have hs3 := hgr _ (.inr rfl)
          generalize Watch.again s2 id = s3 at hs3 H
          have hok4 : Rep.Ok ⟨tb, some ⟨cb, 0, none⟩, cc, RC2, some ⟨wb, 0, none⟩, wc, RW3, fa, fc, ya3, yc3⟩ (setW s3 x (rowM L0 (k ++ [id]))) := ⟨hok3.C.trans hs3.2.2.2.2.2.1.symm, hok3.W.trans (by show wSet s2.W x _ = wSet s3.W x _; rw [hs3.2.2.1])⟩
          (repeat first | refine go ?_ | ((try conv => whnf); (first | (refine St_gate ?_; refine xS ?_) | (refine StN_gate ?_; refine xN ?_)); clear H; intro w H))
        case' neg =>
          (repeat first | refine go ?_ | ((try conv => whnf); (first | (refine St_gate ?_; refine xS ?_) | (refine StN_gate ?_; refine xN ?_)); clear H; intro w H))
          obtain ⟨s3, hs3e⟩ : ∃ s3, s3 = s2 := ⟨_, rfl⟩
          have hs3 := hgr s3 (.inl hs3e)
          have hok4 := hok3
          rw [← hs3e] at hok4 H
          clear hs3e
        all_goals
          obtain ⟨g3, x3, w3, f3, h3, c3, e3, n3, d3, y3⟩ := hs3
          have hsrc2 := engSrc H hx2
          obtain ⟨ab, ao, rfl⟩ := hsrc2.addr (by rw [List.length_map]; omega)
          have hc3 : s3.C[id]? = some c2 := by rw [c3]; exact hc2
          have eE : (setW s3 x (rowM L0 (k ++ [id]))).E = s2.E := e3
          refine Ld_mO H mm (j := id * 3 + 0) (v := .slice (some ⟨ab, ao, none⟩) c2.lits.length k0) (row2 0 (by decide)) ?_
          (repeat first | refine go ?_ | ((try conv => whnf); (first | (refine St_gate ?_; refine xS ?_) | (refine StN_gate ?_; refine xN ?_)); clear H; intro w H))
          refine Ix_in 0 rfl hlen2 ?_
          (try conv => whnf)
          refine Ld_src (j := 0) hsrc2 (v := lV o2) (by rw [hl2]; rfl) ?_
          clear hsrc2
          (repeat first | refine go ?_ | ((try conv => whnf); (first | (refine St_gate ?_; refine xS ?_) | (refine StN_gate ?_; refine xN ?_)); clear H; intro w H))
          refine Call_of (sTrailValue H mm) ?_
          rintro _ _ ⟨rfl, rfl⟩
          rw [eE]
          have hlast : ∀ {s' : St} {conf : Option Nat}, VInv S s x L0 (i + 1) s' (k ++ [id]) conf → i + 1 ≤ L0.length := fun h => h.le2
          have hkl : (k ++ [id]).length = k.length + 1 := by simp
          rcases val_cases s2.E o2 with hv | hv | hv
          · have v3 : VInv S s x L0 (i + 1) s3 (k ++ [id]) none := v2.kept hi g3 x3 w3 f3 h3 c3 (fun y hy => by rw [e3]; exact hy) y3 (fun _ c' hc' _ => by
              rw [hc3] at hc'; cases hc'
              exact ⟨o2, by rw [hl2]; simp, by rw [e3]; exact val_tru hv⟩) (fun _ h => by cases h)
            rw [hv]
            (repeat first | refine go ?_ | ((try conv => whnf); (first | (refine St_gate ?_; refine xS ?_) | (refine StN_gate ?_; refine xN ?_)); clear H; intro w H))
            exact ⟨(i + 1, s3, _, k ++ [id], none), ⟨congrArg some (vint (by simp)), congrArg some (by simp only [hkl]), rfl, trivial⟩, ⟨⟨v3, hok4, hrw3, rfl⟩, H⟩, by simp; omega⟩
          · have hothers : ∀ y ∈ c2.lits, y ≠ o2 → tru s3.E (-y) := by
              rcases hot with h | h
              · omega
              · intro y hy hne; rw [e3]; exact val_fls (h y hy hne)
            have g4 := g3.put (id := id) ho2o.1 (by rw [n3]; exact ho2o.2) (by rw [e3]; exact hv) hc3 ho2 hi2 (by rw [hl2]; simp) hothers
            have v3 : VInv S s x L0 (i + 1) (Watch.put s3 o2 id) (k ++ [id]) none := v2.kept hi g4 (x3.trans Ext.put) w3 f3 h3 c3 (fun y hy => by
              show tru (s3.E ++ [_]) y
              rw [e3]; exact hy.mono) y3 (fun _ c' hc' _ => by
              have hc'' : s3.C[id]? = some c' := hc'
              rw [hc3] at hc''; cases hc''
              exact ⟨o2, by rw [hl2]; simp, ⟨⟨o2, s3.D, id⟩, by show _ ∈ s3.E ++ [_]; simp, rfl⟩⟩) (fun _ h => by cases h)
            have hno : freeNo (setW s3 x (rowM L0 (k ++ [id]))).n (setW s3 x (rowM L0 (k ++ [id]))).E o2 = 0 := g3.free_no ho2o.1 (by rw [n3]; exact ho2o.2) (by rw [e3]; exact hv)
            rw [hv]
            (repeat first | refine go ?_ | ((try conv => whnf); (first | (refine St_gate ?_; refine xS ?_) | (refine StN_gate ?_; refine xN ?_)); clear H; intro w H))
            refine Call_of (sTrailSet H mm) ?_
            clear H
            rintro _ w ⟨rfl, H⟩
            unfold setE at H
            rw [if_pos hno] at H
            replace H := H _ (by repeat first | exact Upd.head | apply Upd.tail)
            (repeat first | refine go ?_ | ((try conv => whnf); (first | (refine St_gate ?_; refine xS ?_) | (refine StN_gate ?_; refine xN ?_)); clear H; intro w H))
            exact ⟨(i + 1, Watch.put s3 o2 id, _, k ++ [id], none), ⟨congrArg some (vint (by simp)), congrArg some (by simp only [hkl]), rfl, trivial⟩, ⟨⟨v3, ⟨hok4.C, hok4.W⟩, hrw3, rfl⟩, H⟩, by simp; omega⟩
          · have hall : ∀ y ∈ c2.lits, tru s3.E (-y) := by
              intro y hy
              rw [e3]
              by_cases hy2 : y = o2
              · rw [hy2]; exact val_fls hv
              · rcases hot with h | h
                · omega
                · exact val_fls (h y hy hy2)
            have v3 : VInv S s x L0 (i + 1) s3 (k ++ [id]) (some id) := v2.kept hi g3 x3 w3 f3 h3 c3 (fun y hy => by rw [e3]; exact hy) y3 (fun h => by cases h) (fun j hj => by cases hj; exact ⟨c2, hc3, ho2, hi2, hall⟩)
            rw [hv]
            (repeat first | refine go ?_ | ((try conv => whnf); (first | (refine St_gate ?_; refine xS ?_) | (refine StN_gate ?_; refine xN ?_)); clear H; intro w H))
            exact ⟨(i + 1, s3, _, k ++ [id], some id), ⟨congrArg some (vint (by simp)), congrArg some (by simp only [hkl]), rfl, trivial⟩, ⟨⟨v3, hok4, hrw3, rfl⟩, H⟩, by simp; omega⟩
  · obtain rfl : i = L0.length := by omega
    have hrow : wAt s1.W x = k := by rw [v.row]; simp
    replace H := H.tp 5
    replace H := H.pick hrw
    replace H : Vc.Sep w0 w (ownR la (rowM L0 k).length lk 3 1 ((rowM L0 k).map idV) :: _) := H
    rw [show (rowM L0 k).length = L0.length from rowM_len hkle] at H
    replace H := H.head (R' := ownR la k.length lk 3 1 ((wAt s1.W x).map idV)) (fun S h => ⟨h.1, by have h2 := h.2.cut (k := k.length) hkle; rw [rowM_cut rfl] at h2; rw [hrow]; exact h2⟩)
    (repeat first | refine go ?_ | ((try conv => whnf); (first | (refine St_gate ?_; refine xS ?_) | (refine StN_gate ?_; refine xN ?_)); clear H; intro w H))
    refine Ix_in (pl x) rfl hplS ?_
    (try conv => whnf)
    refine St_uO H (by repeat first | exact Upd.head | apply Upd.tail) rfl (by rw [List.length_map]; exact hplr) rfl ?_
    clear H; intro w H
    (repeat first | refine go ?_ | ((try conv => whnf); (first | (refine St_gate ?_; refine xS ?_) | (refine StN_gate ?_; refine xN ?_)); clear H; intro w H))
    exact Ret_in ⟨_, s1, k, conf, rfl, v, fun _ => rfl, visitClose (r := ⟨tb, ca, cc, RC, some ⟨wb, 0, none⟩, wc, RW, fa, fc, ya, yc⟩) H (by rw [hrow]) hok hplr⟩
end
end Go.Proofs.YtcibiidebknkgaaGreat
