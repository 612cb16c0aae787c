/- An engine: one goes back; a clause less. -/
import Derived.Test.YtcibiidebknkgaaGreatWatchR
set_option linter.unusedVariables false
set_option linter.unusedSimpArgs false
namespace Go.Watch
open Go.Trail
def lateP (k : Nat) (p : Nat × Nat) : Bool := decide (k < p.2)
def backF (s : St) (k i : Nat) : List Nat := s.F ++ ((s.Y.take i).filter (lateP k)).map (·.1)
def backY (s : St) (k i : Nat) : List (Nat × Nat) := (s.Y.take i).filter fun p => !lateP k p
theorem back_all (s : St) (k : Nat) : back s k = { s with D := k, E := upto s.E k, h := min s.h (upto s.E k).length, F := backF s k s.Y.length, Y := backY s k s.Y.length } := by
  unfold back backF backY lateP
  rw [List.take_length]
theorem backF_next {s : St} {k i : Nat} {p : Nat × Nat} (h : s.Y[i]? = some p) : backF s k (i + 1) = if k < p.2 then backF s k i ++ [p.1] else backF s k i := by
  unfold backF
  rw [List.take_add_one, h, List.filter_append]
  by_cases hk : k < p.2
  · rw [if_pos hk]; simp [lateP, hk]
  · rw [if_neg hk]; simp [lateP, hk]
theorem backY_next {s : St} {k i : Nat} {p : Nat × Nat} (h : s.Y[i]? = some p) : backY s k (i + 1) = if k < p.2 then backY s k i else backY s k i ++ [p] := by
  unfold backY
  rw [List.take_add_one, h, List.filter_append]
  by_cases hk : k < p.2
  · rw [if_pos hk]; simp [lateP, hk]
  · rw [if_neg hk]; simp [lateP, hk]
theorem back_few (s : St) (k i : Nat) : (backF s k i).length ≤ s.F.length + s.Y.length ∧ (backY s k i).length ≤ s.Y.length := by
  unfold backF backY
  have h1 : ((s.Y.take i).filter (lateP k)).length ≤ (s.Y.take i).length := List.length_filter_le _ _
  have h2 : ((s.Y.take i).filter fun p => !lateP k p).length ≤ (s.Y.take i).length := List.length_filter_le _ _
  rw [List.length_take] at h1 h2
  rw [List.length_append, List.length_map]
  omega
end Go.Watch
namespace Go.Proofs.YtcibiidebknkgaaGreat
open Go Go.Vc Go.Watch
open Go.Trail (Ent value find upto okLit litsV)
set_option maxHeartbeats 4000000
set_option maxRecDepth 100000

section
variable {w0 w : World} {l : List Res} {eb q : Nat} {s : St} {r : Rep} {S : Nat → Prop}

theorem y2_one {Y : List (Nat × Nat)} : ∀ u ∈ Y.flatMap y2, oneCell u = true := rowOnes fun x u hu => by
  simp only [y2, List.mem_cons, List.not_mem_nil, or_false] at hu
  rcases hu with rfl | rfl <;> rfl

theorem eBack_no (H : Sep w0 w (engR eb s :: l)) {k : Int} (hk : k < 0 ∨ (s.D : Int) < k) : Does Tryz.prog 61 #[.pointer (some ⟨eb, 0, none⟩), .int .i64 k] w fun v w' => v = .int .i64 51 ∧ Sep w0 w' (engR eb s :: l) := by
  refine Does_intro tok (Tryz.call61 _ _) Tryz.func61 rfl (by rfl) ?_
  obtain ⟨r, hr, H⟩ := engOpen H
  have hb : backOk s.D k = false := by unfold backOk; simp; omega
  have hinv := Sep.trailInv H (.tail _ (.head _))
  (repeat first | refine go ?_ | ((try conv => whnf); (first | (refine St_gate ?_; refine xS ?_) | (refine StN_gate ?_; refine xN ?_)); clear H; intro w H))
  refine Call_of (sTrailBack H mm) ?_
  clear H
  rintro _ w ⟨a, c, rfl, H⟩
  replace H := (H _ (by repeat first | exact Upd.head | apply Upd.tail)).tail
  have e1 : backD s.D k = s.D := by unfold backD; rw [hb]; rfl
  rw [e1, upto_all hinv] at H
  rw [hb, if_neg Bool.false_ne_true]
  (repeat first | refine go ?_ | ((try conv => whnf); (first | (refine St_gate ?_; refine xS ?_) | (refine StN_gate ?_; refine xN ?_)); clear H; intro w H))
  exact Ret_in ⟨rfl, engClose hr H⟩

theorem eBack (H : Sep w0 w (engR eb s :: l)) {k : Nat} (hk : k ≤ s.D) (hF : s.F.length + s.Y.length ≤ 800000000000) (hE : s.E.length ≤ 1000000) (hh : s.h ≤ s.E.length) (hD : s.D ≤ 1000000) (hY : ∀ p ∈ s.Y, p.1 ≤ 1048576 ∧ p.2 ≤ 1000000) :
    Does Tryz.prog 61 #[.pointer (some ⟨eb, 0, none⟩), .int .i64 (k : Int)] w fun v w' => v = .int .i64 0 ∧ Sep w0 w' (engR eb (back s k) :: l) := by
  refine Does_intro tok (Tryz.call61 _ _) Tryz.func61 rfl (by rfl) ?_
  obtain ⟨r, hr, H⟩ := engOpen H
  have hb : backOk s.D (k : Int) = true := by unfold backOk; simp; omega
  have hul : (upto s.E k).length ≤ s.E.length := List.length_filter_le _ _
  (repeat first | refine go ?_ | ((try conv => whnf); (first | (refine St_gate ?_; refine xS ?_) | (refine StN_gate ?_; refine xN ?_)); clear H; intro w H))
  refine Call_of (sTrailBack H mm) ?_
  clear H
  rintro _ w ⟨a, c, rfl, H⟩
  replace H := (H _ (by repeat first | exact Upd.head | apply Upd.tail)).tail
  have e1 : backD s.D (k : Int) = k := by unfold backD; rw [hb]; simp
  rw [e1] at H
  rw [hb, if_pos rfl]
  (repeat first | refine go ?_ | ((try conv => whnf); (first | (refine St_gate ?_; refine xS ?_) | (refine StN_gate ?_; refine xN ?_)); clear H; intro w H))
  refine Draw_intro mixed [0, 1, 2, 3, 4, 5, 6, 7, 8, 9, 10, 11, 12, 13] (by decide +kernel) (fun w _ fd => ?_); replace H := H.fr fd; clear fd
  (repeat first | refine go ?_ | ((try conv => whnf); (first | (refine St_gate ?_; refine xS ?_) | (refine StN_gate ?_; refine xN ?_)); clear H; intro w H))
  refine Call_of (sTrailLen H mm) ?_
  rintro _ _ ⟨rfl, rfl⟩
  (repeat first | refine go ?_ | ((try conv => whnf); (first | (refine St_gate ?_; refine xS ?_) | (refine StN_gate ?_; refine xN ?_)); clear H; intro w H))
  have em : min (s.h : Int) ((upto s.E k).length : Int) = ((min s.h (upto s.E k).length : Nat) : Int) := by omega
  rw [em] at H
  replace H := Own.nilR H 137 2
  replace H := H.perm ((List.perm_middle (l₁ := [_, _, _, _, _, _, _]) (l₂ := yP s r :: l)).symm)
  have few := fun i => back_few s k i
  refine Loop_intro (fun q : Nat × Rep => [(43, .int .i64 (q.1 : Int))]) (fun q w => (q.1 ≤ s.Y.length ∧ q.2.Ok s) ∧ Sep w0 w (eng eb { s with D := k, E := upto s.E k, h := min s.h (upto s.E k).length, F := backF s k q.1, Y := backY s k q.1 } q.2 (yP s r :: l))) (fun q => s.Y.length - q.1)
    (0, { r with ya := none, yc := 0 }) ⟨rfl, trivial⟩ ⟨⟨Nat.zero_le _, ⟨hr.C, hr.W⟩⟩, by
      have e1 : backF s k 0 = s.F := by simp [backF]
      have e2 : backY s k 0 = [] := by simp [backY]
      simp only [e1, e2]
      exact H⟩ ?_
  clear H
  rintro ⟨i, rr⟩ w ⟨⟨hi, hok⟩, H⟩
  simp only [] at hi hok H ⊢
  have fi := few i
  refine Br_dec (fun k1 => ?_) (fun k1 => ?_)
  · have hlt : i < s.Y.length := by omega
    have hp : s.Y[i]? = some s.Y[i] := List.getElem?_eq_getElem hlt
    have hpb := hY _ (List.getElem_mem hlt)
    generalize s.Y[i] = p at hp hpb
    have hFn := backF_next (k := k) hp
    have hYn := backY_next (k := k) hp
    have hsrc : Src w r.ya s.Y.length 2 (s.Y.flatMap y2) := H.srcM (.tail _ (.tail _ (.tail _ (.tail _ (.tail _ (.tail _ (.tail _ (.tail _ (.head _)))))))))
    obtain ⟨ab, ao, hya⟩ := hsrc.addr (by rw [rowLen y2_len]; omega)
    rw [hya] at hsrc ⊢
    refine Ix_in i rfl hlt ?_
    (try conv => whnf)
    refine LdN_src (j := i * 2) hsrc (show _ = [idV p.1, idV p.2] from rowPart y2_len hp) rfl ?_
    clear hsrc
    (refine Nw_sep H ?_; clear H; intro bx w H; (try simp only [Value.cells, List.toList_toArray, List.append_nil, List.cons_append, List.nil_append] at H))
    (repeat first | refine go ?_ | ((try conv => whnf); (first | (refine St_gate ?_; refine xS ?_) | (refine StN_gate ?_; refine xN ?_)); clear H; intro w H))
    by_cases hkp : k < p.2
    · rw [if_pos hkp] at hFn hYn
      (repeat first | refine go ?_ | ((try conv => whnf); (first | (refine St_gate ?_; refine xS ?_) | (refine StN_gate ?_; refine xN ?_)); clear H; intro w H))
      replace H := engSink (s := { s with D := k, E := upto s.E k, h := min s.h (upto s.E k).length, F := backF s k i, Y := backY s k i }) H
      refine Call_of (eLook H (by simp only []; omega) hpb.1) ?_
      clear H
      rintro _ w ⟨fa', fc', H⟩
      replace H := H.drop 8 rfl rfl
      (repeat first | refine go ?_ | ((try conv => whnf); (first | (refine St_gate ?_; refine xS ?_) | (refine StN_gate ?_; refine xN ?_)); clear H; intro w H))
      refine ⟨(i + 1, { rr with fa := fa', fc := fc' }), ⟨congrArg some (vint (by simp)), trivial⟩, ⟨⟨by omega, ⟨hok.C, hok.W⟩⟩, ?_⟩, by simp; omega⟩
      simp only [hFn, hYn]
      exact H
    · rw [if_neg hkp] at hFn hYn
      (repeat first | refine go ?_ | ((try conv => whnf); (first | (refine St_gate ?_; refine xS ?_) | (refine StN_gate ?_; refine xN ?_)); clear H; intro w H))
      refine Draw_intro mixed [0, 1, 2, 3, 4, 5, 6, 7, 8, 9, 10] (by decide +kernel) (fun w _ fd => ?_); replace H := H.fr fd; clear fd
      (repeat first | refine go ?_ | ((try conv => whnf); (first | (refine St_gate ?_; refine xS ?_) | (refine StN_gate ?_; refine xN ?_)); clear H; intro w H))
      (refine Nw_sep H ?_; clear H; intro nb w H; (try simp only [Value.cells, List.toList_toArray, List.append_nil, List.cons_append, List.nil_append] at H))
      (repeat first | refine go ?_ | ((try conv => whnf); (first | (refine St_gate ?_; refine xS ?_) | (refine StN_gate ?_; refine xN ?_)); clear H; intro w H))
      have fi2 : ({ s with D := k, E := upto s.E k, h := min s.h (upto s.E k).length, F := backF s k i, Y := backY s k i } : St).Y.length ≤ 800000000000 := by show (backY s k i).length ≤ _; omega
      (refine DoN_gate ?_; refine append_one tok H rfl rfl rfl rfl rfl (by decide) mm (m := 1) rfl (by simp [oneCell]) (by omega) (by unfold maxLen; omega) ?_; clear H; intro ya' yc' w H; replace H := H _ (by repeat first | exact Upd.head | apply Upd.tail))
      (repeat first | refine go ?_ | ((try conv => whnf); (first | (refine St_gate ?_; refine xS ?_) | (refine StN_gate ?_; refine xN ?_)); clear H; intro w H))
      replace H := H.drop 0 rfl rfl
      refine ⟨(i + 1, { rr with ya := ya', yc := yc' }), ⟨congrArg some (vint (by simp)), trivial⟩, ⟨⟨by omega, ⟨hok.C, hok.W⟩⟩, ?_⟩, by simp; omega⟩
      simp only [hFn, hYn]
      unfold eng yP eP
      simp only [List.length_append, List.length_singleton, List.flatMap_append]
      exact H
  · obtain rfl : i = s.Y.length := by omega
    (repeat first | refine go ?_ | ((try conv => whnf); (first | (refine St_gate ?_; refine xS ?_) | (refine StN_gate ?_; refine xN ?_)); clear H; intro w H))
    refine Ret_in ⟨rfl, ?_⟩
    rw [back_all]
    exact engClose (s := { s with D := k, E := upto s.E k, h := min s.h (upto s.E k).length, F := backF s k s.Y.length, Y := backY s k s.Y.length }) (r := rr) ⟨hok.C, hok.W⟩ (H.drop 8 rfl rfl)
end
end Go.Proofs.YtcibiidebknkgaaGreat
