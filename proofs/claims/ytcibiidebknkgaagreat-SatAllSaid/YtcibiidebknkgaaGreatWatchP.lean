/- An engine: a clause looked at as a whole; one goes back. -/
import Derived.Test.YtcibiidebknkgaaGreatWatchZ
set_option linter.unusedVariables false
set_option linter.unusedSimpArgs false
namespace Go.Watch
open Go.Trail
/-- The literals that have no value. -/
def freeL (E : List Ent) (c : List Int) : List Int := c.filter fun x => decide (value E x = 0)
theorem freeL_next {E : List Ent} {c : List Int} {i : Nat} {x : Int} (h : c[i]? = some x) : freeL E (c.take (i + 1)) = if value E x = 0 then freeL E (c.take i) ++ [x] else freeL E (c.take i) := by
  unfold freeL
  rw [List.take_add_one, h, List.filter_append]
  by_cases hv : value E x = 0
  · rw [if_pos hv]; simp [hv]
  · rw [if_neg hv]; simp [hv]
theorem freeL_len {E : List Ent} {c : List Int} : (freeL E c).length ≤ c.length := List.length_filter_le _ _
def lastL (l : List Int) : Int := l.getLast?.getD 0
theorem lastL_snoc (l : List Int) (x : Int) : lastL (l ++ [x]) = x := by simp [lastL]
section
variable {S : Nat → Prop} {s : St}
theorem Good.lits_few (hg : Good S s) {c : Cls} (hc : c ∈ s.C) : c.lits.length ≤ 600000 := by
  obtain ⟨h1, h2, _⟩ := hg.cl c hc
  have hn := hg.deepLe
  have := pigeons (2 * s.n + 1) (c.lits.map pl) (by
    rw [List.pairwise_map]
    exact h2.imp_of_mem fun ha hb hab e => hab (pl_inj (h1 _ ha).1 (h1 _ hb).1 e)) (by
    intro p hp
    obtain ⟨x, hx, rfl⟩ := List.mem_map.1 hp
    have h3 := h1 x hx
    have h4 := pl_lt h3.1 h3.2
    have h5 := pl_int h3.1
    rw [place_var h3.1] at h5
    have h6 := var_pos.2 h3.1
    split at h5 <;> omega)
  rw [List.length_map] at this
  omega
theorem Good.wat_few (hg : Good S s) {x : Int} (h1 : okLit x = true) (h2 : var x ≤ s.n) : (wAt s.W x).length ≤ s.C.length := by
  have := pigeons s.C.length ((wAt s.W x).map (· + 1)) (by
    rw [List.pairwise_map]
    exact (hg.nod x h1 h2).imp fun hab e => hab (by omega)) (by
    intro p hp
    obtain ⟨id, hid, rfl⟩ := List.mem_map.1 hp
    have := hg.id_lt h1 h2 id hid
    omega)
  rw [List.length_map] at this
  exact this
theorem Good.free_no (hg : Good S s) {x : Int} (hl : okLit x = true) (hn : var x ≤ s.n) (hv : value s.E x = 0) : Go.Proofs.YtcibiidebknkgaaGreat.freeNo s.n s.E x = 0 := by
  unfold Go.Proofs.YtcibiidebknkgaaGreat.freeNo
  rw [if_pos ⟨var_pos.2 hl, hn⟩, if_pos (val_zero hg.inv hl hv)]

/-- What settling a clause leaves. -/
structure Settled (S : Nat → Prop) (s s' : St) (id : Nat) : Prop where
  good : Good S s'
  ext : Ext s s'
  w : ∀ c, s'.C[id]? = some c → c.on = true → c.idle = false → wOK s'.E s'.h s'.D c.lits
  F : s'.F = s.F
  Y : s'.Y = s.Y
  h : s'.h = s.h
  C : s'.C = s.C
  W : s'.W = s.W
theorem Good.settle_off (hg : Good S s) {id : Nat} {c : Cls} (hc : s.C[id]? = some c) (ho : c.on = false) : Settled S s s id :=
  ⟨hg, Ext.refl s, fun c' hc' h1 => (by rw [hc] at hc'; cases hc'; rw [ho] at h1; cases h1), rfl, rfl, rfl, rfl, rfl⟩
theorem Good.settle_t (hg : Good S s) {id : Nat} {c : Cls} (hc : s.C[id]? = some c) {y : Int} (hy : y ∈ c.lits) (h1 : value s.E y = 1) : Settled S s s id :=
  ⟨hg, Ext.refl s, fun c' hc' _ _ => (by rw [hc] at hc'; cases hc'; exact hg.settle_true hy (val_tru h1)), rfl, rfl, rfl, rfl, rfl⟩
theorem Good.settle0 (hg : Good S s) {c : Cls} (h1 : ∀ y ∈ c.lits, value s.E y ≠ 1) (h : freeL s.E c.lits = []) : ∀ y ∈ c.lits, tru s.E (-y) := by
  intro y hy
  unfold freeL at h
  rw [List.filter_eq_nil_iff] at h
  have h2 := h y hy
  simp at h2
  rcases val_cases s.E y with h3 | h3 | h3
  · exact (h1 y hy h3).elim
  · exact (h2 h3).elim
  · exact val_fls h3
theorem Good.settle1 (hg : Good S s) {id : Nat} {c : Cls} {x : Int} (hc : s.C[id]? = some c) (ho : c.on = true) (hi : c.idle = false) (h1 : ∀ y ∈ c.lits, value s.E y ≠ 1) (h : freeL s.E c.lits = [x]) :
    Go.Proofs.YtcibiidebknkgaaGreat.freeNo s.n s.E x = 0 ∧ Settled S s (Watch.put s x id) id := by
  have hxm : x ∈ freeL s.E c.lits := by rw [h]; simp
  unfold freeL at hxm
  obtain ⟨hx, hv⟩ := List.mem_filter.1 hxm
  simp at hv
  have hcl := hg.cl c (List.mem_of_getElem? hc)
  have hxo := hcl.1 x hx
  have hr : ∀ y ∈ c.lits, y ≠ x → tru s.E (-y) := by
    intro y hy hne
    rcases val_cases s.E y with h3 | h3 | h3
    · exact (h1 y hy h3).elim
    · have : y ∈ freeL s.E c.lits := by unfold freeL; exact List.mem_filter.2 ⟨hy, by simpa using h3⟩
      rw [h, List.mem_singleton] at this
      exact (hne this).elim
    · exact val_fls h3
  have hg' := hg.put hxo.1 hxo.2 hv hc ho hi hx hr
  refine ⟨hg.free_no hxo.1 hxo.2 hv, hg', ⟨rfl, rfl, ⟨[⟨x, s.D, id⟩], rfl, fun g hgm => by rw [List.mem_singleton] at hgm; subst hgm; exact ⟨rfl, Int.natCast_nonneg _⟩⟩, rfl, fun i k hk => ⟨k, hk, rfl, rfl, List.Perm.refl _⟩⟩, ?_, rfl, rfl, rfl, rfl, rfl⟩
  intro c' hc' _ _
  have hc'' : s.C[id]? = some c' := hc'
  rw [hc] at hc''; cases hc''
  exact hg'.settle_true hx ⟨⟨x, s.D, id⟩, by show _ ∈ s.E ++ [_]; simp, rfl⟩
theorem Good.settle2 (hg : Good S s) {id : Nat} {c : Cls} (hc : s.C[id]? = some c) (ho : c.on = true) (hi : c.idle = false) (h1 : ∀ y ∈ c.lits, value s.E y ≠ 1) (h : 2 ≤ (freeL s.E c.lits).length) : Settled S s s id := by
  have hcl := hg.cl c (List.mem_of_getElem? hc)
  refine ⟨hg, Ext.refl s, fun c' hc' _ _ => ?_, rfl, rfl, rfl, rfl, rfl⟩
  rw [hc] at hc'; cases hc'
  match hf : freeL s.E c.lits with
  | [] => rw [hf] at h; simp at h
  | [x] => rw [hf] at h; simp at h
  | a :: b :: r =>
    have hnd : (a :: b :: r).Nodup := by rw [← hf]; exact hcl.2.1.sublist List.filter_sublist
    have hab : a ≠ b := by rintro rfl; simp at hnd
    have hm : ∀ z ∈ a :: b :: r, z ∈ c.lits ∧ value s.E z = 0 := by
      intro z hz
      rw [← hf] at hz
      unfold freeL at hz
      obtain ⟨h2, h3⟩ := List.mem_filter.1 hz
      exact ⟨h2, by simpa using h3⟩
    have ha := hm a (by simp)
    have hb := hm b (by simp)
    have nf : ∀ z ∈ c.lits, value s.E z = 0 → ¬ tru s.E (-z) := by
      intro z hz hv ht
      have := (hg.valn (hcl.1 z hz).1).2 ht
      omega
    exact hg.settle_many hc ho hi ha.1 hb.1 hab (fun y hy ht => h1 y hy ((hg.val1 (hcl.1 y hy).1).2 ht)) (nf a ha.1 ha.2) (nf b hb.1 hb.2)
end
end Go.Watch
namespace Go.Proofs.YtcibiidebknkgaaGreat
open Go Go.Vc Go.Watch
open Go.Trail (Ent value find upto okLit litsV)
set_option linter.unusedVariables false
set_option linter.unusedSimpArgs false
set_option maxHeartbeats 4000000
set_option maxRecDepth 100000

section
variable {w0 w : World} {l : List Res} {eb q : Nat} {s : St} {r : Rep} {S : Nat → Prop}

theorem engSink {R : Res} (H : Sep w0 w (R :: eng eb s r l)) : Sep w0 w (eng eb s r (R :: l)) :=
  H.perm ((List.perm_middle (a := R) (l₁ := [eP eb s r, tP s r, cP s r, lP r, wP s r, vP r, fP s r, yP s r]) (l₂ := l)).symm)

theorem eSettle (H : Sep w0 w (engR eb s :: l)) (hg : Watch.Good S s) {id : Nat} {c : Cls} (hc : s.C[id]? = some c) (hi : c.idle = false) (hfew : s.C.length ≤ 1048576) :
    Does Tryz.prog 72 #[.pointer (some ⟨eb, 0, none⟩), idV id] w fun v w' =>
      (v = .bool true ∧ c.on = true ∧ (∀ y ∈ c.lits, tru s.E (-y)) ∧ Sep w0 w' (engR eb s :: l)) ∨ (v = .bool false ∧ ∃ s', Settled S s s' id ∧ Sep w0 w' (engR eb s' :: l)) := by
  have hcl := hg.cl c (List.mem_of_getElem? hc)
  have hl6 := hg.lits_few (List.mem_of_getElem? hc)
  refine Does_intro tok (Tryz.call72 _ _) Tryz.func72 rfl (by rfl) ?_
  obtain ⟨r, hr, H⟩ := engOpen H
  have hlt := (List.getElem?_eq_some_iff.1 hc).1
  obtain ⟨a0, k0, hx⟩ := hr.cat hc
  obtain ⟨cb, hcb⟩ := (H.ownM (a := r.ca) (hm := .tail _ (.tail _ (.head _)))).some (by omega)
  have hsrc := engSrc H hx
  obtain ⟨tb, ca, cc, RC, wa, wc, RW, fa, fc, ya, yc⟩ := r
  simp only [] at hcb hx
  subst hcb
  have row : ∀ j, j < 3 → (RC.flatMap row3)[id * 3 + j]? = (row3 (a0, k0, c))[j]? := fun j hj => rowGet row3_len hx hj
  (repeat first | refine go ?_ | ((try conv => whnf); (first | (refine St_gate ?_; refine xS ?_) | (refine StN_gate ?_; refine xN ?_)); clear H; intro w H))
  refine Ix_in id rfl (by omega) ?_
  (repeat first | refine go ?_ | ((try conv => whnf); (first | (refine St_gate ?_; refine xS ?_) | (refine StN_gate ?_; refine xN ?_)); clear H; intro w H))
  refine Ld_mO H mm (j := id * 3 + 1) (v := .bool c.on) (row 1 (by decide)) ?_
  cases ho : c.on with
  | false =>
    (repeat first | refine go ?_ | ((try conv => whnf); (first | (refine St_gate ?_; refine xS ?_) | (refine StN_gate ?_; refine xN ?_)); clear H; intro w H))
    exact Ret_in (.inr ⟨rfl, s, hg.settle_off hc ho, engClose hr H⟩)
  | true =>
    (repeat first | refine go ?_ | ((try conv => whnf); (first | (refine St_gate ?_; refine xS ?_) | (refine StN_gate ?_; refine xN ?_)); clear H; intro w H))
    refine Ld_mO H mm (j := id * 3 + 0) (v := .slice a0 c.lits.length k0) (row 0 (by decide)) ?_
    (repeat first | refine go ?_ | ((try conv => whnf); (first | (refine St_gate ?_; refine xS ?_) | (refine StN_gate ?_; refine xN ?_)); clear H; intro w H))
    refine Loop_intro (fun i : Nat => [(26, .int .i64 (i : Int)), (6, lV (lastL (freeL s.E (c.lits.take i)))), (7, .int .i64 ((freeL s.E (c.lits.take i)).length : Int))]) (fun i w' => w = w' ∧ i ≤ c.lits.length ∧ ∀ y ∈ c.lits.take i, value s.E y ≠ 1) (fun i => c.lits.length - i) 0 ⟨rfl, rfl, rfl, trivial⟩ ⟨rfl, Nat.zero_le _, by simp⟩ ?_
    rintro i _ ⟨rfl, hil, h1⟩
    simp only [] at hil h1 ⊢
    refine Br_dec (fun k1 => ?_) (fun k1 => ?_)
    · have hit : i < c.lits.length := by omega
      have hy : c.lits[i]? = some c.lits[i] := List.getElem?_eq_getElem hit
      generalize c.lits[i] = y at hy
      have hfn := freeL_next (E := s.E) hy
      have hfl := freeL_len (E := s.E) (c := c.lits.take i)
      rw [List.length_take] at hfl
      obtain ⟨ab, ao, rfl⟩ := hsrc.addr (by rw [List.length_map]; omega)
      refine Ix_in i rfl hit ?_
      refine Ld_src (j := i) hsrc (v := lV y) (by rw [List.getElem?_map, hy]; rfl) ?_
      (repeat first | refine go ?_ | ((try conv => whnf); (first | (refine St_gate ?_; refine xS ?_) | (refine StN_gate ?_; refine xN ?_)); clear H; intro w H))
      refine Call_of (sTrailValue H mm) ?_
      rintro _ _ ⟨rfl, rfl⟩
      have hnext : value s.E y ≠ 1 → ∀ z ∈ c.lits.take (i + 1), value s.E z ≠ 1 := by
        intro hv z hz
        rw [List.take_add_one, hy, List.mem_append] at hz
        rcases hz with hz | hz
        · exact h1 z hz
        · simp at hz; rw [hz]; exact hv
      rcases val_cases s.E y with hv | hv | hv
      · rw [hv]
        (repeat first | refine go ?_ | ((try conv => whnf); (first | (refine St_gate ?_; refine xS ?_) | (refine StN_gate ?_; refine xN ?_)); clear H; intro w H))
        exact Ret_in (.inr ⟨rfl, s, hg.settle_t hc (List.mem_of_getElem? hy) hv, engClose hr H⟩)
      · rw [hv] at hfn ⊢
        rw [if_pos rfl] at hfn
        (repeat first | refine go ?_ | ((try conv => whnf); (first | (refine St_gate ?_; refine xS ?_) | (refine StN_gate ?_; refine xN ?_)); clear H; intro w H))
        exact ⟨i + 1, ⟨congrArg some (vint (by omega)), congrArg some (vint (by rw [hfn, lastL_snoc])), congrArg some (vint (by rw [hfn]; simp)), trivial⟩, ⟨rfl, by omega, hnext (by omega)⟩, by omega⟩
      · rw [hv] at hfn ⊢
        rw [if_neg (by decide)] at hfn
        (repeat first | refine go ?_ | ((try conv => whnf); (first | (refine St_gate ?_; refine xS ?_) | (refine StN_gate ?_; refine xN ?_)); clear H; intro w H))
        exact ⟨i + 1, ⟨congrArg some (vint (by omega)), congrArg some (vint (by rw [hfn])), congrArg some (vint (by rw [hfn])), trivial⟩, ⟨rfl, by omega, hnext (by omega)⟩, by omega⟩
    · obtain rfl : i = c.lits.length := by omega
      rw [List.take_length] at h1 ⊢
      have hfl := freeL_len (E := s.E) (c := c.lits)
      match hf : freeL s.E c.lits with
      | [] =>
        rw [List.length_nil]
        (repeat first | refine go ?_ | ((try conv => whnf); (first | (refine St_gate ?_; refine xS ?_) | (refine StN_gate ?_; refine xN ?_)); clear H; intro w H))
        refine Ret_in (.inl ⟨?_, ?_, hg.settle0 h1 hf, engClose hr H⟩)
        · first | rfl | exact vbool (beqT rfl)
        · first | rfl | trivial
      | [x] =>
        obtain ⟨hno, hS⟩ := hg.settle1 hc ho hi h1 hf
        have e1 : lastL [x] = x := rfl
        rw [e1, List.length_singleton]
        (repeat first | refine go ?_ | ((try conv => whnf); (first | (refine St_gate ?_; refine xS ?_) | (refine StN_gate ?_; refine xN ?_)); clear H; intro w H))
        refine Call_of (sTrailSet H mm) ?_
        clear H
        rintro _ w ⟨rfl, H⟩
        unfold setE at H
        rw [if_pos hno] at H
        replace H := H _ (by repeat first | exact Upd.head | apply Upd.tail)
        (repeat first | refine go ?_ | ((try conv => whnf); (first | (refine St_gate ?_; refine xS ?_) | (refine StN_gate ?_; refine xN ?_)); clear H; intro w H))
        exact Ret_in (.inr ⟨rfl, _, hS, engClose (s := Watch.put s x id) (r := ⟨tb, some ⟨cb, 0, none⟩, cc, RC, wa, wc, RW, fa, fc, ya, yc⟩) ⟨hr.C, hr.W⟩ H⟩)
      | a :: b :: t =>
        have hl2 : 2 ≤ (freeL s.E c.lits).length := by rw [hf]; simp
        have hS := hg.settle2 hc ho hi h1 hl2
        have e2 : (a :: b :: t).length ≤ 600000 := by rw [← hf]; omega
        have e3 : 2 ≤ (a :: b :: t).length := by simp
        generalize (a :: b :: t).length = m at *
        (repeat first | refine go ?_ | ((try conv => whnf); (first | (refine St_gate ?_; refine xS ?_) | (refine StN_gate ?_; refine xN ?_)); clear H; intro w H))
        exact Ret_in (.inr ⟨vbool (beqF (by omega)), s, hS, engClose hr H⟩)
end
end Go.Proofs.YtcibiidebknkgaaGreat
