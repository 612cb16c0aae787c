/- An engine: what follows. -/
import Derived.Test.YtcibiidebknkgaaGreatWatchQ
set_option linter.unusedVariables false
set_option linter.unusedSimpArgs false
namespace Go.Watch
open Go.Trail
/-- What is left to be done. -/
def workS (s : St) : Nat := 2 * (s.n - s.E.length) + s.F.length + (s.E.length - s.h)
/-- How much may still be written down. -/
def loadS (s : St) : Nat := s.F.length + s.Y.length + (s.n - s.h) * (s.C.length + 1)
section
variable {S : Nat → Prop} {s s' : St} {id : Nat}
theorem Ext.Elen (h : Ext s s') : s.E.length ≤ s'.E.length := by
  obtain ⟨G, h1, _⟩ := h.E
  rw [h1, List.length_append]; omega
theorem next_good (hS : Settled S s s' id) {r : List Nat} (hF : s.F = id :: r) : Good S (next s' id r) ∧ Ext s (next s' id r) := by
  refine ⟨hS.good.next (by rw [hS.F, hF]) hS.w, hS.ext.trans ?_⟩
  exact ⟨rfl, rfl, ⟨[], by simp [Watch.next, Watch.again], by simp⟩, rfl, fun id c h => ⟨c, h, rfl, rfl, List.Perm.refl _⟩⟩
theorem next_work (hg : Good S s) (hS : Settled S s s' id) {r : List Nat} (hF : s.F = id :: r) : workS (next s' id r) < workS s ∧ loadS (next s' id r) ≤ loadS s := by
  have h1 := hS.ext.Elen
  have h2 := hg.hd
  have h3 := hS.good.inv.len
  have h4 := hS.ext.n
  have h5 : (next s' id r).Y.length ≤ s'.Y.length + 1 := again_len (s := { s' with F := r })
  have e1 : (next s' id r).n = s.n := h4
  have e2 : (next s' id r).h = s.h := hS.h
  have e3 : (next s' id r).F = r := rfl
  have e4 : (next s' id r).E = s'.E := rfl
  have e5 : (next s' id r).C.length = s.C.length := hS.ext.len
  unfold workS loadS
  rw [e1, e2, e3, e4, e5, hF, List.length_cons]
  rw [hS.Y] at h5
  rw [h4] at h3
  constructor <;> omega
theorem visit_work {x : Int} {L0 k : List Nat} {i : Nat} {conf : Option Nat} (hg : Good S s) (v : VInv S s x L0 i s' k conf) (hh : s.h < s.E.length) (hL : L0.length ≤ s.C.length) :
    workS { s' with h := s'.h + 1 } < workS s ∧ loadS { s' with h := s'.h + 1 } ≤ loadS s := by
  have h1 := v.ext.Elen
  have h3 := v.good.inv.len
  have h4 := v.ext.n
  have h5 := v.Y
  have h6 := v.le2
  have h7 := hg.inv.len
  rw [h4] at h3
  have e1 : (s'.n - (s'.h + 1)) * (s'.C.length + 1) + (s.C.length + 1) = (s.n - s.h) * (s.C.length + 1) := by
    rw [h4, v.h, v.ext.len]
    have : s.n - s.h = (s.n - (s.h + 1)) + 1 := by omega
    rw [this, Nat.succ_mul]
  unfold workS loadS
  simp only []
  rw [v.F, v.h] at *
  rw [h4] at *
  constructor <;> omega
theorem Good.visit_end {x : Int} {L0 k : List Nat} {e : Ent} (v : VInv S s x L0 L0.length s' k none) (he : s.E[s.h]? = some e) (hx : x = -e.lit) : Good S { s' with h := s'.h + 1 } ∧ Ext s { s' with h := s'.h + 1 } := by
  obtain ⟨G, hG, _⟩ := v.ext.E
  have he' : s'.E[s'.h]? = some e := by
    rw [hG, v.h, List.getElem?_append_left (List.getElem?_eq_some_iff.1 he).1]
    exact he
  have hrow : wAt s'.W x = k := by rw [v.row]; simp
  refine ⟨v.good.visited he' (fun id hid c hc ho => ?_), v.ext.trans ⟨rfl, rfl, ⟨[], by simp, by simp⟩, rfl, fun id c h => ⟨c, h, rfl, rfl, List.Perm.refl _⟩⟩⟩
  rw [← hx, hrow] at hid
  exact v.tr rfl id hid c hc ho
end
end Go.Watch
namespace Go.Proofs.YtcibiidebknkgaaGreat
open Go Go.Vc Go.Watch
open Go.Trail (Ent value find upto okLit litsV)
set_option maxHeartbeats 4000000
set_option maxRecDepth 100000

section
variable {w0 w : World} {l : List Res} {eb q : Nat} {s : St} {r : Rep} {S : Nat → Prop}

theorem ePropagate (H : Sep w0 w (engR eb s :: l)) (hg : Watch.Good S s) (hB : loadS s ≤ 400000000000) (hfew : s.C.length ≤ 1048576) :
    Does Tryz.prog 50 #[.pointer (some ⟨eb, 0, none⟩)] w fun v w' => ∃ s', Watch.Good S s' ∧ Ext s s' ∧ loadS s' ≤ loadS s + s.C.length ∧ Sep w0 w' (engR eb s' :: l) ∧
      ((v = .int .i64 (-1) ∧ s'.F = [] ∧ s'.h = s'.E.length) ∨ ∃ id c, v = idV id ∧ s'.C[id]? = some c ∧ c.on = true ∧ c.idle = false ∧ ∀ y ∈ c.lits, tru s'.E (-y)) := by
  refine Does_intro tok (Tryz.call50 _ _) Tryz.func50 rfl (by rfl) ?_
  (repeat first | refine go ?_ | ((try conv => whnf); (first | (refine St_gate ?_; refine xS ?_) | (refine StN_gate ?_; refine xN ?_)); clear H; intro w H))
  refine Loop_intro (fun s1 : St => []) (fun s1 w => (Watch.Good S s1 ∧ Ext s s1 ∧ loadS s1 ≤ loadS s) ∧ Sep w0 w (engR eb s1 :: l)) workS s trivial ⟨⟨hg, Ext.refl s, Nat.le_refl _⟩, H⟩ ?_
  clear H
  rintro s1 w ⟨⟨g1, x1, b1⟩, H⟩
  simp only [] at g1 x1 b1 H ⊢
  (repeat first | refine go ?_ | ((try conv => whnf); (first | (refine St_gate ?_; refine xS ?_) | (refine StN_gate ?_; refine xN ?_)); clear H; intro w H))
  refine Loop_intro (fun s2 : St => []) (fun s2 w => (Watch.Good S s2 ∧ Ext s s2 ∧ loadS s2 ≤ loadS s ∧ workS s2 ≤ workS s1) ∧ Sep w0 w (engR eb s2 :: l)) workS s1 trivial ⟨⟨g1, x1, b1, Nat.le_refl _⟩, H⟩ ?_
  clear H
  rintro s2 w ⟨⟨g2, x2, b2, k2⟩, H⟩
  simp only [] at g2 x2 b2 k2 H ⊢
  obtain ⟨r, hr, H⟩ := engOpen H
  have hFl : s2.F.length ≤ 400000000000 := by unfold loadS at b2 hB; omega
  have hYl : s2.Y.length ≤ 400000000000 := by unfold loadS at b2 hB; omega
  have hCl : s2.C.length = s.C.length := x2.len
  (repeat first | refine go ?_ | ((try conv => whnf); (first | (refine St_gate ?_; refine xS ?_) | (refine StN_gate ?_; refine xN ?_)); clear H; intro w H))
  refine Br_dec (fun k3 => ?_) (fun k3 => ?_)
  · (repeat first | refine go ?_ | ((try conv => whnf); (first | (refine St_gate ?_; refine xS ?_) | (refine StN_gate ?_; refine xN ?_)); clear H; intro w H))
    match hF : s2.F with
    | [] => rw [hF] at k3; simp at k3
    | id :: t =>
    obtain ⟨c, hc, hci⟩ := g2.fr id (by rw [hF]; simp)
    have hsrc : Src w r.fa s2.F.length 1 (s2.F.map idV) := H.offSrc (.tail _ (.tail _ (.tail _ (.tail _ (.tail _ (.tail _ (.head _)))))))
    obtain ⟨ab, ao, hfa⟩ := hsrc.addr (by rw [List.length_map]; omega)
    rw [hfa] at hsrc ⊢
    refine Ix_in 0 rfl (by rw [← hF]; omega) ?_
    (try conv => whnf)
    refine Ld_src (j := 0) hsrc (v := idV id) (by rw [hF]; rfl) ?_
    (repeat first | refine go ?_ | ((try conv => whnf); (first | (refine St_gate ?_; refine xS ?_) | (refine StN_gate ?_; refine xN ?_)); clear H; intro w H))
    refine Call_of (eSettle (engClose hr H) g2 hc hci (by omega)) ?_
    clear H hsrc hfa hr
    rintro _ w (⟨rfl, ho, hall, H⟩ | ⟨rfl, s3, hS, H⟩)
    · (repeat first | refine go ?_ | ((try conv => whnf); (first | (refine St_gate ?_; refine xS ?_) | (refine StN_gate ?_; refine xN ?_)); clear H; intro w H))
      exact Ret_in ⟨s2, g2, x2, by omega, H, .inr ⟨id, c, rfl, hc, ho, hci, hall⟩⟩
    · obtain ⟨n1, n2⟩ := next_good hS hF
      obtain ⟨n3, n4⟩ := next_work g2 hS hF
      have hF3 : s3.F = id :: t := by rw [hS.F, hF]
      obtain ⟨r, hr, H⟩ := engOpen H
      have hFl3 : s3.F.length = t.length + 1 := by rw [hF3]; rfl
      (repeat first | refine go ?_ | ((try conv => whnf); (first | (refine St_gate ?_; refine xS ?_) | (refine StN_gate ?_; refine xN ?_)); clear H; intro w H))
      refine Do_slice tok rfl rfl 1 s3.F.length (.inr ⟨_, rfl⟩) (.inl ⟨rfl, rfl⟩) (by omega) (H.offM (.tail _ (.tail _ (.tail _ (.tail _ (.tail _ (.tail _ (.head _))))))) |>.2.1) ?_
      replace H : Vc.Sep w0 w (eP eb s3 r :: tP s3 r :: cP s3 r :: lP r :: wP s3 r :: vP r :: offR r.fa s3.F.length r.fc 3 (idV id :: t.map idV) :: yP s3 r :: l) := by
        have e : idV id :: t.map idV = s3.F.map idV := by rw [hF3]; rfl
        rw [e]; exact H
      replace H := Sep.offTail H mm _ (by repeat first | exact Upd.head | apply Upd.tail)
      (repeat first | refine go ?_ | ((try conv => whnf); (first | (refine St_gate ?_; refine xS ?_) | (refine StN_gate ?_; refine xN ?_)); clear H; intro w H))
      rw [show s3.F.length - 1 = t.length by omega] at H
      have hY3 : s3.Y.length = s2.Y.length := by rw [hS.Y]
      have hid := (List.getElem?_eq_some_iff.1 hc).1
      generalize (if r.fc = 1 then r.fa else Option.map (fun x => x.add (1 * 1)) r.fa) = fa' at H
      replace H : Vc.Sep w0 w (eng eb { s3 with F := t } { r with fa := fa', fc := r.fc - 1 } l) := H
      refine Call_of (eAgain H (by show s3.Y.length ≤ _; omega) (by omega)) ?_
      clear H
      rintro _ w ⟨ya, yc, H⟩
      (repeat first | refine go ?_ | ((try conv => whnf); (first | (refine St_gate ?_; refine xS ?_) | (refine StN_gate ?_; refine xN ?_)); clear H; intro w H))
      exact ⟨next s3 id t, trivial, ⟨⟨n1, x2.trans n2, by omega, by omega⟩, engClose (s := next s3 id t) (r := { r with fa := fa', fc := r.fc - 1, ya := ya, yc := yc }) ⟨hr.C, hr.W⟩ H⟩, by omega⟩
  · have hF : s2.F = [] := List.length_eq_zero_iff.1 (by omega)
    have hEn := g2.inv.len
    have hdl := g2.deepLe
    (repeat first | refine go ?_ | ((try conv => whnf); (first | (refine St_gate ?_; refine xS ?_) | (refine StN_gate ?_; refine xN ?_)); clear H; intro w H))
    refine Draw_intro mixed [0, 1, 2, 3, 4, 5, 6, 7, 8, 9] (by decide +kernel) (fun w _ fd => ?_); replace H := H.fr fd; clear fd
    (repeat first | refine go ?_ | ((try conv => whnf); (first | (refine St_gate ?_; refine xS ?_) | (refine StN_gate ?_; refine xN ?_)); clear H; intro w H))
    refine Call_of (sTrailLen H mm) ?_
    rintro _ _ ⟨rfl, rfl⟩
    (repeat first | refine go ?_ | ((try conv => whnf); (first | (refine St_gate ?_; refine xS ?_) | (refine StN_gate ?_; refine xN ?_)); clear H; intro w H))
    by_cases hh : s2.h = s2.E.length
    · (repeat first | refine go ?_ | ((try conv => whnf); (first | (refine St_gate ?_; refine xS ?_) | (refine StN_gate ?_; refine xN ?_)); clear H; intro w H))
      exact Ret_in ⟨s2, g2, x2, by omega, engClose hr H, .inl ⟨rfl, hF, hh⟩⟩
    · have hhd := g2.hd
      have hlt : s2.h < s2.E.length := by omega
      have he : s2.E[s2.h]? = some s2.E[s2.h] := List.getElem?_eq_getElem hlt
      have hat : litAt s2.E (s2.h : Int) = s2.E[s2.h].lit := by unfold litAt; rw [if_pos (by omega), Int.toNat_natCast, he]; rfl
      generalize s2.E[s2.h] = e at he hat
      have heo := g2.inv.ok e (List.mem_of_getElem? he)
      have hel := Trail.okLit_iff.1 heo.1
      (repeat first | refine go ?_ | ((try conv => whnf); (first | (refine St_gate ?_; refine xS ?_) | (refine StN_gate ?_; refine xN ?_)); clear H; intro w H))
      refine Draw_intro mixed [0, 1, 2, 3, 4, 5, 6, 7, 8, 9, 10, 11, 12] (by decide +kernel) (fun w _ fd => ?_); replace H := H.fr fd; clear fd
      (repeat first | refine go ?_ | ((try conv => whnf); (first | (refine St_gate ?_; refine xS ?_) | (refine StN_gate ?_; refine xN ?_)); clear H; intro w H))
      refine Call_of (sTrailAt H mm) ?_
      rintro _ _ ⟨rfl, rfl⟩
      rw [hat]
      (repeat first | refine go ?_ | ((try conv => whnf); (first | (refine St_gate ?_; refine xS ?_) | (refine StN_gate ?_; refine xN ?_)); clear H; intro w H))
      rw [Int.zero_sub]
      have hwfew := g2.wat_few (x := -e.lit) (by rw [Trail.okLit_neg]; exact heo.1) (by rw [Trail.var_neg]; exact heo.2.1)
      refine Call_of (eVisit (engClose hr H) g2 he (by omega) (by omega)) ?_
      clear H hr
      rintro _ w ⟨i, s3, k, conf, rfl, v, hend, H⟩
      cases conf with
      | some id =>
        obtain ⟨c, hc, ho, hci, hall⟩ := v.cf id rfl
        rw [show confV (some id) = (id : Int) from rfl]
        (repeat first | refine go ?_ | ((try conv => whnf); (first | (refine St_gate ?_; refine xS ?_) | (refine StN_gate ?_; refine xN ?_)); clear H; intro w H))
        refine Ret_in ⟨s3, v.good, x2.trans v.ext, ?_, H, .inr ⟨id, c, rfl, hc, ho, hci, hall⟩⟩
        have h1 := v.Y
        have h2 := v.le2
        have h3 : loadS s3 ≤ loadS s2 + s.C.length := by
          unfold loadS
          rw [v.F, v.h, v.ext.n, v.ext.len]
          omega
        omega
      | none =>
        rw [show confV none = (-1 : Int) from rfl]
        obtain rfl := hend rfl
        obtain ⟨g3, x3⟩ := Watch.Good.visit_end v he rfl
        obtain ⟨m1, m2⟩ := visit_work g2 v hlt hwfew
        have hh3 : s3.h = s2.h := v.h
        obtain ⟨r, hr, H⟩ := engOpen H
        (repeat first | refine go ?_ | ((try conv => whnf); (first | (refine St_gate ?_; refine xS ?_) | (refine StN_gate ?_; refine xN ?_)); clear H; intro w H))
        exact ⟨{ s3 with h := s3.h + 1 }, trivial, ⟨⟨g3, x2.trans x3, by omega⟩, engClose (s := { s3 with h := s3.h + 1 }) (r := r) ⟨hr.C, hr.W⟩ H⟩, by omega⟩
end
end Go.Proofs.YtcibiidebknkgaaGreat
