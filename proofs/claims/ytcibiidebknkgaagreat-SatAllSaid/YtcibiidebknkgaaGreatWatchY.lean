/- An engine as one part: New, Decide, True, Clause, Add. -/
import Derived.Test.YtcibiidebknkgaaGreatWatchX
namespace Go.Watch
open Go.Trail
def st0 (n : Nat) : St := ⟨n, 0, [], [], List.replicate (2 * n + 2) [], [], [], 0⟩
theorem Good.new {n : Nat} (hn : n ≤ 262144) {S : Nat → Prop} (h0 : S 0) : Good S (st0 n) := by
  have hw : ∀ x, wAt (st0 n).W x = [] := by
    intro x
    unfold wAt st0
    simp only []
    rw [List.getD_eq_getElem?_getD, List.getElem?_replicate]
    split <;> rfl
  refine ⟨{ vars := hn, ok := fun x hx => (by cases hx), rise := List.Pairwise.nil, once := List.Pairwise.nil }, Nat.le_refl _, by simp [st0], ?_, ?_, ?_, ?_, h0, ?_, ?_, ?_, ?_, ?_, ?_, ?_⟩
  · intro c hc; cases hc
  · intro c hc; cases hc
  · intro c hc; cases hc
  · intro k hk; have : k ≤ 0 := hk; omega
  · intro e he; simp [st0] at he
  · intro id c hc; simp [st0] at hc
  · intro x _ _ id hid; rw [hw] at hid; cases hid
  · intro x _ _; rw [hw]; exact List.nodup_nil
  · intro L _ _ id c hc; simp [st0] at hc
  · intro L _ _ id c hc; simp [st0] at hc
  · intro i e he; simp [st0] at he
end Go.Watch
namespace Go.Proofs.YtcibiidebknkgaaGreat
open Go Go.Vc Go.Watch
open Go.Trail (Ent value find upto okLit litsV litsV lits_get)
set_option linter.unusedVariables false
set_option linter.unusedSimpArgs false
set_option maxHeartbeats 4000000
set_option maxRecDepth 100000

/-- An engine as a part of memory. -/
def engR (eb : Nat) (s : St) : Res := exR fun r : Rep => sepR (pureR (r.Ok s) :: eng eb s r [])

section
variable {w0 w : World} {l : List Res} {eb : Nat} {s : St} {r : Rep}

theorem engOpen (H : Sep w0 w (engR eb s :: l)) : ∃ r, r.Ok s ∧ Sep w0 w (eng eb s r l) := by
  obtain ⟨r, h1⟩ := H.ex
  obtain ⟨h2, h3⟩ := Sep.prop h1.flat
  exact ⟨r, h2, h3⟩
theorem engClose (hr : r.Ok s) (H : Sep w0 w (eng eb s r l)) : Sep w0 w (engR eb s :: l) :=
  Sep.mk_ex (f := fun r : Rep => sepR (pureR (r.Ok s) :: eng eb s r [])) r (Sep.app (l := pureR (r.Ok s) :: eng eb s r []) (Sep.mk_prop hr H))
theorem engClose1 {R : Res} (hr : r.Ok s) (H : Sep w0 w (R :: eng eb s r l)) : Sep w0 w (R :: engR eb s :: l) := by
  have H2 : Sep w0 w (eng eb s r (R :: l)) := H.perm ((List.perm_middle (a := R) (l₁ := [eP eb s r, tP s r, cP s r, lP r, wP s r, vP r, fP s r, yP s r]) (l₂ := l)).symm)
  exact (engClose hr H2).perm (List.Perm.swap ..)
theorem row3_get {id : Nat} {a : Option Addr} {k : Nat} {c : Cls} {j : Nat} (h : r.RC[id]? = some (a, k, c)) (hj : j < 3) : (r.RC.flatMap row3)[id * 3 + j]? = (row3 (a, k, c))[j]? := rowGet row3_len h hj
theorem engSrc (H : Sep w0 w (eng eb s r l)) {id : Nat} {a : Option Addr} {k : Nat} {c : Cls} (h : r.RC[id]? = some (a, k, c)) : Src w a c.lits.length 1 (c.lits.map lV) := by
  have H2 := (H.top 3 rfl rfl).pick h
  exact Sep.srcM (a := a) (n := c.lits.length) (cap := k) H2 (.head _)
theorem bigEmpty (H : Sep w0 w l) : ∀ N, Sep w0 w (bigR (fun _ x => wR x) (List.replicate N ((none, 0, []) : Wr)) :: l)
  | 0 => Sep.big_nil H
  | N + 1 => by
    rw [List.replicate_succ']
    exact Sep.big_snoc (f := fun _ x => wR x) (Own.nilR (bigEmpty H N) 3 1)

theorem eNew (H : Sep w0 w l) (x : Int) : Does Tryz.prog 19 #[.int .i64 x] w fun v w' => ∃ eb, v = .pointer (some ⟨eb, 0, none⟩) ∧ Sep w0 w' (engR eb (st0 (max 0 (min x 262144)).toNat) :: l) := by
  refine Does_intro tok (Tryz.call19 _ _) Tryz.func19 rfl (by rfl) ?_
  (repeat first | refine go ?_ | ((try conv => whnf); (first | (refine St_gate ?_; refine xS ?_) | (refine StN_gate ?_; refine xN ?_)); clear H; intro w H))
  refine Call_of (sTrailNew H x) ?_
  clear H
  rintro _ w ⟨tb, rfl, H⟩
  have hn : (max 0 (min x 262144)).toNat ≤ 262144 := by omega
  generalize (max 0 (min x 262144)).toNat = n at *
  (repeat first | refine go ?_ | ((try conv => whnf); (first | (refine St_gate ?_; refine xS ?_) | (refine StN_gate ?_; refine xN ?_)); clear H; intro w H))
  refine Call_of (sTrailVars H (.head _)) ?_
  rintro _ _ ⟨rfl, rfl⟩
  (repeat first | refine go ?_ | ((try conv => whnf); (first | (refine St_gate ?_; refine xS ?_) | (refine StN_gate ?_; refine xN ?_)); clear H; intro w H))
  refine make_sep (el := 78) tok H rfl rfl rfl rfl rfl (by decide) (2 * n + 2) (2 * n + 2) (by omega) (by omega) (by omega) (by omega) (by unfold maxLen; omega) fun wb w H => ?_
  (repeat first | refine go ?_ | ((try conv => whnf); (first | (refine St_gate ?_; refine xS ?_) | (refine StN_gate ?_; refine xN ?_)); clear H; intro w H))
  (refine Nw_sep H ?_; clear H; intro eb w H; (try simp only [Value.cells, List.toList_toArray, List.append_nil, List.cons_append, List.nil_append] at H))
  (repeat first | refine go ?_ | ((try conv => whnf); (first | (refine St_gate ?_; refine xS ?_) | (refine StN_gate ?_; refine xN ?_)); clear H; intro w H))
  refine Ret_in ⟨eb, rfl, engClose (r := ⟨tb, none, 0, [], some ⟨wb, 0, none⟩, 2 * n + 2, List.replicate (2 * n + 2) (none, 0, []), none, 0, none, 0⟩) ⟨rfl, by simp [st0]⟩ ?_⟩
  have e1 : zcells [Value.slice none 0 0] (2 * n + 2) = (List.replicate (2 * n + 2) ((none, 0, []) : Wr)).map wV := by
    rw [zcells_one, List.map_replicate]; rfl
  have e2 : (st0 n).W.length = 2 * n + 2 := by simp [st0]
  rw [e1] at H
  replace H := Own.nilR H 137 2
  replace H := H.offNil 3
  replace H := bigEmpty H (2 * n + 2)
  replace H := Sep.big_nil (f := fun (_ : Nat) (x : Cr) => clauR x) H
  replace H := Own.nilR H 95 3
  unfold eng eP wP
  rw [e2]
  replace H := H.tp 4
  replace H := H.tp 4
  replace H := H.tp 4
  replace H := H.tp 6
  replace H := H.tp 5
  replace H := H.tp 5
  replace H := H.tp 7
  replace H := H.tp 7
  exact H

theorem eDecide (H : Sep w0 w (engR eb s :: l)) {x : Int} (hD : s.D ≤ 1000000) : Does Tryz.prog 56 #[.pointer (some ⟨eb, 0, none⟩), lV x] w fun v w' =>
    v = .int .i64 (if freeNo s.n s.E x = 41 then 51 else freeNo s.n s.E x) ∧ Sep w0 w' (engR eb (if freeNo s.n s.E x = 0 then decide' s x else s) :: l) := by
  obtain ⟨r, hr, H⟩ := engOpen H
  refine Does_intro tok (Tryz.call56 _ _) Tryz.func56 rfl (by rfl) ?_
  (repeat first | refine go ?_ | ((try conv => whnf); (first | (refine St_gate ?_; refine xS ?_) | (refine StN_gate ?_; refine xN ?_)); clear H; intro w H))
  refine Call_of (sTrailDecide H mm hD) ?_
  clear H
  rintro _ w ⟨rfl, H⟩
  unfold setE at H
  by_cases h0 : freeNo s.n s.E x = 0
  · rw [if_pos h0, if_pos h0] at H
    rw [h0, if_neg (by decide), if_pos rfl]
    replace H := H _ (by repeat first | exact Upd.head | apply Upd.tail)
    (repeat first | refine go ?_ | ((try conv => whnf); (first | (refine St_gate ?_; refine xS ?_) | (refine StN_gate ?_; refine xN ?_)); clear H; intro w H))
    exact Ret_in ⟨rfl, engClose (s := decide' s x) (r := r) ⟨hr.C, hr.W⟩ H⟩
  · rw [if_neg h0, if_neg h0] at H
    rw [if_neg h0]
    replace H := H _ (by repeat first | exact Upd.head | apply Upd.tail)
    by_cases h1 : freeNo s.n s.E x = 41
    · rw [h1, if_pos rfl]
      (repeat first | refine go ?_ | ((try conv => whnf); (first | (refine St_gate ?_; refine xS ?_) | (refine StN_gate ?_; refine xN ?_)); clear H; intro w H))
      exact Ret_in ⟨rfl, engClose hr H⟩
    · rw [if_neg h1]
      (repeat first | refine go ?_ | ((try conv => whnf); (first | (refine St_gate ?_; refine xS ?_) | (refine StN_gate ?_; refine xN ?_)); clear H; intro w H))
      exact Ret_in ⟨rfl, engClose hr H⟩

theorem eTrue (H : Sep w0 w (engR eb s :: l)) (hE : s.E.length ≤ 1000000) : Does Tryz.prog 58 #[.pointer (some ⟨eb, 0, none⟩)] w fun v w' =>
    ∃ a c, v = .slice a s.E.length c ∧ Sep w0 w' (ownR a s.E.length c 29 1 ((s.E.map fun e => e.lit).map lV) :: engR eb s :: l) := by
  refine Does_intro tok (Tryz.call58 _ _) Tryz.func58 rfl (by rfl) ?_
  obtain ⟨r, hr, H⟩ := engOpen H
  (repeat first | refine go ?_ | ((try conv => whnf); (first | (refine St_gate ?_; refine xS ?_) | (refine StN_gate ?_; refine xN ?_)); clear H; intro w H))
  refine Call_of (sTrailLen H mm) ?_
  rintro _ _ ⟨rfl, rfl⟩
  replace H := Own.nilR H 29 1
  (repeat first | refine go ?_ | ((try conv => whnf); (first | (refine St_gate ?_; refine xS ?_) | (refine StN_gate ?_; refine xN ?_)); clear H; intro w H))
  refine Loop_intro (fun q : Nat × Option Addr × Nat => [(10, .int .i64 (q.1 : Int)), (3, .slice q.2.1 q.1 q.2.2)]) (fun q w => q.1 ≤ s.E.length ∧ Sep w0 w (ownR q.2.1 q.1 q.2.2 29 1 (((s.E.map fun e => e.lit).take q.1).map lV) :: eng eb s r l)) (fun q => s.E.length - q.1) (0, none, 0) ⟨rfl, rfl, trivial⟩ ⟨Nat.zero_le _, H⟩ ?_
  clear H
  rintro ⟨i, a, c⟩ w ⟨hi, H⟩
  simp only [] at hi H ⊢
  refine Br_dec (fun k1 => ?_) (fun k1 => ?_)
  · have hlt : i < s.E.length := by omega
    have ex : s.E[i]? = some s.E[i] := List.getElem?_eq_getElem hlt
    have e1 : litAt s.E (i : Int) = s.E[i].lit := by unfold litAt; rw [if_pos (by omega), Int.toNat_natCast, ex]; rfl
    have e2 : ((s.E.map fun e => e.lit).take (i + 1)).map lV = ((s.E.map fun e => e.lit).take i).map lV ++ [lV s.E[i].lit] := by
      have : (s.E.map fun e => e.lit)[i]? = some s.E[i].lit := by rw [List.getElem?_map, ex]; rfl
      rw [List.take_add_one, this, List.map_append]; rfl
    (repeat first | refine go ?_ | ((try conv => whnf); (first | (refine St_gate ?_; refine xS ?_) | (refine StN_gate ?_; refine xN ?_)); clear H; intro w H))
    refine Call_of (sTrailAt H mm) ?_
    rintro _ _ ⟨rfl, rfl⟩
    rw [e1]
    (repeat first | refine go ?_ | ((try conv => whnf); (first | (refine St_gate ?_; refine xS ?_) | (refine StN_gate ?_; refine xN ?_)); clear H; intro w H))
    (refine Nw_sep H ?_; clear H; intro nb w H; (try simp only [Value.cells, List.toList_toArray, List.append_nil, List.cons_append, List.nil_append] at H))
    (repeat first | refine go ?_ | ((try conv => whnf); (first | (refine St_gate ?_; refine xS ?_) | (refine StN_gate ?_; refine xN ?_)); clear H; intro w H))
    (refine DoN_gate ?_; refine append_one tok H rfl rfl rfl rfl rfl (by decide) mm (m := 1) rfl (by simp [oneCell]) (by omega) (by unfold maxLen; omega) ?_; clear H; intro a' c' w H; replace H := H _ (by repeat first | exact Upd.head | apply Upd.tail))
    (repeat first | refine go ?_ | ((try conv => whnf); (first | (refine St_gate ?_; refine xS ?_) | (refine StN_gate ?_; refine xN ?_)); clear H; intro w H))
    refine ⟨(i + 1, a', c'), ⟨congrArg some (vint (by simp)), rfl, trivial⟩, ⟨by omega, ?_⟩, by simp; omega⟩
    simp only []
    rw [e2]
    exact H
  · obtain rfl : i = s.E.length := by omega
    have e : (s.E.map fun e => e.lit).take s.E.length = s.E.map fun e => e.lit := List.take_of_length_le (by simp)
    rw [e] at H
    (repeat first | refine go ?_ | ((try conv => whnf); (first | (refine St_gate ?_; refine xS ?_) | (refine StN_gate ?_; refine xN ?_)); clear H; intro w H))
    refine Ret_in ⟨a, c, rfl, ?_⟩
    exact engClose1 hr H

theorem eClause (H : Sep w0 w (engR eb s :: l)) {id : Nat} {c : Cls} (hc : s.C[id]? = some c) (ho : c.on = true) (hl : ∀ x ∈ c.lits, Lit.one x = true) (hm : c.lits.length ≤ 1000000000) (hC : s.C.length ≤ 1048576) :
    Does Tryz.prog 85 #[.pointer (some ⟨eb, 0, none⟩), idV id] w fun v w' =>
    ∃ a k out, v = .tuple #[.slice a out.length k, .bool true] ∧ Lit.Clean c.lits out ∧ out.length ≤ c.lits.length ∧ Sep w0 w' (ownR a out.length k 29 1 (out.map lV) :: engR eb s :: l) := by
  refine Does_intro tok (Tryz.call85 _ _) Tryz.func85 rfl (by rfl) ?_
  obtain ⟨r, hr, H⟩ := engOpen H
  have hlt := (List.getElem?_eq_some_iff.1 hc).1
  obtain ⟨a0, k0, hx⟩ := hr.cat hc
  obtain ⟨cb, hcb⟩ := (H.ownM (a := r.ca) (hm := .tail _ (.tail _ (.head _)))).some (by omega)
  obtain ⟨tb, ca, cc, RC, wa, wc, RW, fa, fc, ya, yc⟩ := r
  simp only [] at hcb hx
  subst hcb
  (repeat first | refine go ?_ | ((try conv => whnf); (first | (refine St_gate ?_; refine xS ?_) | (refine StN_gate ?_; refine xN ?_)); clear H; intro w H))
  refine Ix_in id rfl (by omega) ?_
  (repeat first | refine go ?_ | ((try conv => whnf); (first | (refine St_gate ?_; refine xS ?_) | (refine StN_gate ?_; refine xN ?_)); clear H; intro w H))
  refine Ld_mO H mm (j := id * 3 + 1) (v := .bool c.on) (by rw [row3_get (r := ⟨tb, some ⟨cb, 0, none⟩, cc, RC, wa, wc, RW, fa, fc, ya, yc⟩) hx (by decide)]; rfl) ?_
  rw [ho]
  (repeat first | refine go ?_ | ((try conv => whnf); (first | (refine St_gate ?_; refine xS ?_) | (refine StN_gate ?_; refine xN ?_)); clear H; intro w H))
  refine Ix_in id rfl (by omega) ?_
  (repeat first | refine go ?_ | ((try conv => whnf); (first | (refine St_gate ?_; refine xS ?_) | (refine StN_gate ?_; refine xN ?_)); clear H; intro w H))
  refine Ld_mO H mm (j := id * 3 + 0) (v := .slice a0 c.lits.length k0) (by rw [row3_get (r := ⟨tb, some ⟨cb, 0, none⟩, cc, RC, wa, wc, RW, fa, fc, ya, yc⟩) hx (by decide)]; rfl) ?_
  (repeat first | refine go ?_ | ((try conv => whnf); (first | (refine St_gate ?_; refine xS ?_) | (refine StN_gate ?_; refine xN ?_)); clear H; intro w H))
  refine Call_of (fClean H (engSrc H hx) (by omega) hl) ?_
  clear H
  rintro _ w ⟨a', c', out, rfl, h1, h2, H⟩
  (repeat first | refine go ?_ | ((try conv => whnf); (first | (refine St_gate ?_; refine xS ?_) | (refine StN_gate ?_; refine xN ?_)); clear H; intro w H))
  exact Ret_in ⟨a', c', out, rfl, h1, h2, engClose1 hr H⟩

theorem eClause_no (H : Sep w0 w (engR eb s :: l)) {id : Int} (hn : id < 0 ∨ (s.C.length : Int) ≤ id ∨ ∃ c, s.C[id.toNat]? = some c ∧ c.on = false) (hC : s.C.length ≤ 1048576) :
    Does Tryz.prog 85 #[.pointer (some ⟨eb, 0, none⟩), .int .i64 id] w fun v w' => v = .tuple #[.slice none 0 0, .bool false] ∧ Sep w0 w' (engR eb s :: l) := by
  refine Does_intro tok (Tryz.call85 _ _) Tryz.func85 rfl (by rfl) ?_
  obtain ⟨r, hr, H⟩ := engOpen H
  by_cases h1 : id < 0
  · (repeat first | refine go ?_ | ((try conv => whnf); (first | (refine St_gate ?_; refine xS ?_) | (refine StN_gate ?_; refine xN ?_)); clear H; intro w H))
    exact Ret_in ⟨rfl, engClose hr H⟩
  by_cases h2 : (s.C.length : Int) ≤ id
  · (repeat first | refine go ?_ | ((try conv => whnf); (first | (refine St_gate ?_; refine xS ?_) | (refine StN_gate ?_; refine xN ?_)); clear H; intro w H))
    exact Ret_in ⟨rfl, engClose hr H⟩
  obtain ⟨i, rfl⟩ : ∃ i : Nat, id = i := ⟨id.toNat, by omega⟩
  rcases hn with hn | hn | ⟨c, hc, ho⟩
  · omega
  · omega
  rw [Int.toNat_natCast] at hc
  have hlt := (List.getElem?_eq_some_iff.1 hc).1
  obtain ⟨a0, k0, hx⟩ := hr.cat hc
  obtain ⟨cb, hcb⟩ := (H.ownM (a := r.ca) (hm := .tail _ (.tail _ (.head _)))).some (by omega)
  obtain ⟨tb, ca, cc, RC, wa, wc, RW, fa, fc, ya, yc⟩ := r
  simp only [] at hcb hx
  subst hcb
  (repeat first | refine go ?_ | ((try conv => whnf); (first | (refine St_gate ?_; refine xS ?_) | (refine StN_gate ?_; refine xN ?_)); clear H; intro w H))
  refine Ix_in i rfl (by omega) ?_
  (repeat first | refine go ?_ | ((try conv => whnf); (first | (refine St_gate ?_; refine xS ?_) | (refine StN_gate ?_; refine xN ?_)); clear H; intro w H))
  refine Ld_mO H mm (j := i * 3 + 1) (v := .bool c.on) (by rw [row3_get (r := ⟨tb, some ⟨cb, 0, none⟩, cc, RC, wa, wc, RW, fa, fc, ya, yc⟩) hx (by decide)]; rfl) ?_
  rw [ho]
  (repeat first | refine go ?_ | ((try conv => whnf); (first | (refine St_gate ?_; refine xS ?_) | (refine StN_gate ?_; refine xN ?_)); clear H; intro w H))
  exact Ret_in ⟨rfl, engClose hr H⟩
end
end Go.Proofs.YtcibiidebknkgaaGreat
