/- An engine in memory; its smaller methods. -/
import Derived.Test.YtcibiidebknkgaaGreatWatchO
import Derived.Test.YtcibiidebknkgaaGreatOff
import Derived.Test.YtcibiidebknkgaaGreatLitC
namespace Go.Watch
open Go.Trail
def leadAt (E : List Ent) (xs : List Int) : Nat → List Int
  | 0 => xs
  | i + 1 => swapL (leadAt E xs i) i (bestTo E (leadAt E xs i) i ((leadAt E xs i).length - (i + 1)))
theorem leadAt_len (E : List Ent) (xs : List Int) : ∀ i, (leadAt E xs i).length = xs.length
  | 0 => rfl
  | i + 1 => by unfold leadAt; rw [swapL_len, leadAt_len E xs i]
theorem leadP_at (E : List Ent) (xs : List Int) : leadP E xs = leadAt E xs (min 2 xs.length) := by
  match xs with
  | [] => rfl
  | [x] => rfl
  | x :: y :: r =>
    have e : min 2 (x :: y :: r).length = 2 := by simp only [List.length_cons]; omega
    have e1 : leadP1 E (x :: y :: r) = leadAt E (x :: y :: r) 1 := by unfold leadP1; rw [if_pos (by simp)]; rfl
    rw [e]
    unfold leadP
    rw [if_pos (by simp only [List.length_cons]; omega), e1]
    show _ = swapL (leadAt E (x :: y :: r) 1) 1 (bestTo E (leadAt E (x :: y :: r) 1) 1 ((leadAt E (x :: y :: r) 1).length - (1 + 1)))
    rw [leadAt_len]
end Go.Watch
namespace Go.Proofs.YtcibiidebknkgaaGreat
open Go Go.Vc Go.Watch
open Go.Trail (Ent value find upto okLit)
set_option linter.unusedVariables false
set_option linter.unusedSimpArgs false
set_option maxHeartbeats 4000000
set_option maxRecDepth 100000

abbrev idV (i : Nat) : Value := .int .i64 (i : Int)
abbrev Cr := Option Addr × Nat × Cls
abbrev Wr := Option Addr × Nat × List Nat
def row3 (x : Cr) : List Value := [.slice x.1 x.2.2.lits.length x.2.1, .bool x.2.2.on, .bool x.2.2.idle]
theorem row3_len (x : Cr) : (row3 x).length = 3 := rfl
theorem row3_ones {R : List Cr} : ∀ u ∈ R.flatMap row3, oneCell u = true := rowOnes fun x u hu => by
  simp only [row3, List.mem_cons, List.not_mem_nil, or_false] at hu
  rcases hu with rfl | rfl | rfl <;> rfl
def clauR (x : Cr) : Res := ownR x.1 x.2.2.lits.length x.2.1 29 1 (x.2.2.lits.map lV)
def wV (x : Wr) : Value := .slice x.1 x.2.2.length x.2.1
def wR (x : Wr) : Res := ownR x.1 x.2.2.length x.2.1 3 1 (x.2.2.map idV)
theorem wV_one {R : List Wr} : ∀ u ∈ R.map wV, oneCell u = true := by
  intro u hu
  obtain ⟨x, _, rfl⟩ := List.mem_map.1 hu
  rfl
def y2 (x : Nat × Nat) : List Value := [idV x.1, idV x.2]
theorem y2_len (x : Nat × Nat) : (y2 x).length = 2 := rfl
structure Rep where
  tb : Nat
  ca : Option Addr
  cc : Nat
  RC : List Cr
  wa : Option Addr
  wc : Nat
  RW : List Wr
  fa : Option Addr
  fc : Nat
  ya : Option Addr
  yc : Nat
structure Rep.Ok (r : Rep) (s : St) : Prop where
  C : r.RC.map (fun x : Cr => x.2.2) = s.C
  W : r.RW.map (fun x : Wr => x.2.2) = s.W
abbrev eP (eb : Nat) (s : St) (r : Rep) : Res := cellsR eb 81 [.pointer (some ⟨r.tb, 0, none⟩), .slice r.ca s.C.length r.cc, .slice r.wa s.W.length r.wc, .slice r.fa s.F.length r.fc, .slice r.ya s.Y.length r.yc, .int .i64 (s.h : Int)]
abbrev tP (s : St) (r : Rep) : Res := trailR r.tb s.n s.D s.E
abbrev cP (s : St) (r : Rep) : Res := ownR r.ca s.C.length r.cc 95 3 (r.RC.flatMap row3)
abbrev lP (r : Rep) : Res := bigR (fun _ x => clauR x) r.RC
abbrev wP (s : St) (r : Rep) : Res := ownR r.wa s.W.length r.wc 78 1 (r.RW.map wV)
abbrev vP (r : Rep) : Res := bigR (fun _ x => wR x) r.RW
abbrev fP (s : St) (r : Rep) : Res := offR r.fa s.F.length r.fc 3 (s.F.map idV)
abbrev yP (s : St) (r : Rep) : Res := ownR r.ya s.Y.length r.yc 137 2 (s.Y.flatMap y2)
abbrev eng (eb : Nat) (s : St) (r : Rep) (l : List Res) : List Res := eP eb s r :: tP s r :: cP s r :: lP r :: wP s r :: vP r :: fP s r :: yP s r :: l

theorem Rep.Ok.clen {r : Rep} {s : St} (h : r.Ok s) : r.RC.length = s.C.length := by rw [← h.C, List.length_map]
theorem Rep.Ok.wlen {r : Rep} {s : St} (h : r.Ok s) : r.RW.length = s.W.length := by rw [← h.W, List.length_map]
theorem Rep.Ok.cat {r : Rep} {s : St} (h : r.Ok s) {id : Nat} {c : Cls} (hc : s.C[id]? = some c) : ∃ a k, r.RC[id]? = some (a, k, c) := by
  rw [← h.C, List.getElem?_map] at hc
  cases hr : r.RC[id]? with
  | none => rw [hr] at hc; cases hc
  | some x =>
    rw [hr] at hc
    obtain ⟨a, k, c'⟩ := x
    simp at hc
    exact ⟨a, k, by rw [hc]⟩
theorem lits_set {xs : List Int} {i : Nat} {x : Int} : (xs.map lV).set i (lV x) = (xs.set i x).map lV := by rw [List.map_set]
theorem lev_known (E : List Ent) (v : Int) : (knownOf E v).2.1 = levOf E v := by
  unfold knownOf levOf
  cases find E v <;> rfl

section
variable {w0 w : World} {l : List Res} {eb : Nat} {s : St} {r : Rep}

theorem eRank (H : Sep w0 w l) (he : eP eb s r ∈ l) (ht : tP s r ∈ l) {x : Int} : Does Tryz.prog 70 #[.pointer (some ⟨eb, 0, none⟩), lV x] w fun v w' => v = .int .i64 (rank s.E x) ∧ Sep w0 w' l := by
  refine Does_intro tok (Tryz.call70 _ _) Tryz.func70 rfl (by rfl) ?_
  (repeat first | refine go ?_ | ((try conv => whnf); (first | (refine St_gate ?_; refine xS ?_) | (refine StN_gate ?_; refine xN ?_)); clear H; intro w H))
  refine Ld_m H he rfl ?_
  (repeat first | refine go ?_ | ((try conv => whnf); (first | (refine St_gate ?_; refine xS ?_) | (refine StN_gate ?_; refine xN ?_)); clear H; intro w H))
  refine Call_of (sTrailValue H ht) ?_
  rintro _ _ ⟨rfl, rfl⟩
  unfold rank
  by_cases h1 : value s.E x = 1
  · rw [if_pos h1]
    (repeat first | refine go ?_ | ((try conv => whnf); (first | (refine St_gate ?_; refine xS ?_) | (refine StN_gate ?_; refine xN ?_)); clear H; intro w H))
    exact Ret_in ⟨rfl, H⟩
  by_cases h2 : value s.E x = 0
  · rw [if_neg h1, if_pos h2]
    (repeat first | refine go ?_ | ((try conv => whnf); (first | (refine St_gate ?_; refine xS ?_) | (refine StN_gate ?_; refine xN ?_)); clear H; intro w H))
    exact Ret_in ⟨rfl, H⟩
  rw [if_neg h1, if_neg h2]
  (repeat first | refine go ?_ | ((try conv => whnf); (first | (refine St_gate ?_; refine xS ?_) | (refine StN_gate ?_; refine xN ?_)); clear H; intro w H))
  refine Draw_intro mixed [0, 1, 2, 3, 4, 5, 6, 7] (by decide +kernel) (fun w _ fd => ?_); replace H := H.fr fd; clear fd
  (repeat first | refine go ?_ | ((try conv => whnf); (first | (refine St_gate ?_; refine xS ?_) | (refine StN_gate ?_; refine xN ?_)); clear H; intro w H))
  refine Ld_m H he rfl ?_
  (repeat first | refine go ?_ | ((try conv => whnf); (first | (refine St_gate ?_; refine xS ?_) | (refine StN_gate ?_; refine xN ?_)); clear H; intro w H))
  refine Call_of (litVar x _) ?_
  rintro _ _ ⟨rfl, rfl⟩
  (repeat first | refine go ?_ | ((try conv => whnf); (first | (refine St_gate ?_; refine xS ?_) | (refine StN_gate ?_; refine xN ?_)); clear H; intro w H))
  refine Kept_in (Sep.cellAt H he rfl) ?_
  (repeat first | refine go ?_ | ((try conv => whnf); (first | (refine St_gate ?_; refine xS ?_) | (refine StN_gate ?_; refine xN ?_)); clear H; intro w H))
  refine Call_of (sTrailLevel H ht) ?_
  clear H
  rintro _ w ⟨rfl, H⟩
  (repeat first | refine go ?_ | ((try conv => whnf); (first | (refine St_gate ?_; refine xS ?_) | (refine StN_gate ?_; refine xN ?_)); clear H; intro w H))
  rw [lev_known]
  exact Ret_in ⟨rfl, H⟩

theorem eLook (H : Sep w0 w (eng eb s r l)) {id : Nat} (hf : s.F.length ≤ 1000000000000) (hid : id ≤ 1048576) : Does Tryz.prog 45 #[.pointer (some ⟨eb, 0, none⟩), idV id] w fun v w' =>
    ∃ a c, Sep w0 w' (eng eb { s with F := s.F ++ [id] } { r with fa := a, fc := c } l) := by
  refine Does_intro tok (Tryz.call45 _ _) Tryz.func45 rfl (by rfl) ?_
  (repeat first | refine go ?_ | ((try conv => whnf); (first | (refine St_gate ?_; refine xS ?_) | (refine StN_gate ?_; refine xN ?_)); clear H; intro w H))
  (refine Nw_sep H ?_; clear H; intro nb w H; (try simp only [Value.cells, List.toList_toArray, List.append_nil, List.cons_append, List.nil_append] at H))
  (repeat first | refine go ?_ | ((try conv => whnf); (first | (refine St_gate ?_; refine xS ?_) | (refine StN_gate ?_; refine xN ?_)); clear H; intro w H))
  refine DoN_gate ?_
  refine append_off tok H rfl rfl rfl rfl rfl mm rfl (by omega) (by unfold maxLen; omega) ?_
  clear H
  intro a c w H
  replace H := H _ (by repeat first | exact Upd.head | apply Upd.tail)
  (repeat first | refine go ?_ | ((try conv => whnf); (first | (refine St_gate ?_; refine xS ?_) | (refine StN_gate ?_; refine xN ?_)); clear H; intro w H))
  refine Ret_in ⟨a, c, ?_⟩
  unfold eng fP eP
  rw [List.length_append, List.map_append]
  exact H
end
end Go.Proofs.YtcibiidebknkgaaGreat
