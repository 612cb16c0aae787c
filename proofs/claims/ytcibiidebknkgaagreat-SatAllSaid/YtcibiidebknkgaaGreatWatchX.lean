/- An engine's methods: what leads, New, Decide, True. -/
import Derived.Test.YtcibiidebknkgaaGreatWatchW
namespace Go.Proofs.YtcibiidebknkgaaGreat
open Go Go.Vc Go.Watch
open Go.Trail (Ent value find upto okLit litsV)
set_option linter.unusedVariables false
set_option linter.unusedSimpArgs false
set_option maxHeartbeats 4000000
set_option maxRecDepth 100000

section
variable {w0 w : World} {l : List Res} {eb : Nat} {s : St} {r : Rep}

theorem eAgain (H : Sep w0 w (eng eb s r l)) {id : Nat} (hy : s.Y.length ≤ 1000000000000) (hid : id ≤ 1048576) : Does Tryz.prog 73 #[.pointer (some ⟨eb, 0, none⟩), idV id] w fun v w' =>
    ∃ a c, Sep w0 w' (eng eb (Watch.again s id) { r with ya := a, yc := c } l) := by
  refine Does_intro tok (Tryz.call73 _ _) Tryz.func73 rfl (by rfl) ?_
  (repeat first | refine go ?_ | ((try conv => whnf); (first | (refine St_gate ?_; refine xS ?_) | (refine StN_gate ?_; refine xN ?_)); clear H; intro w H))
  refine Call_of (sTrailDepth H mm) ?_
  rintro _ _ ⟨rfl, rfl⟩
  by_cases hD : 0 < s.D
  · have e : Watch.again s id = { s with Y := s.Y ++ [(id, s.D)] } := by unfold Watch.again; rw [if_pos hD]
    rw [e]
    (repeat first | refine go ?_ | ((try conv => whnf); (first | (refine St_gate ?_; refine xS ?_) | (refine StN_gate ?_; refine xN ?_)); clear H; intro w H))
    refine Draw_intro mixed [0, 1, 2, 3, 4, 5, 6, 7, 8, 9, 10, 11, 12, 13, 14, 15, 16] (by decide +kernel) (fun w _ fd => ?_); replace H := H.fr fd; clear fd
    (repeat first | refine go ?_ | ((try conv => whnf); (first | (refine St_gate ?_; refine xS ?_) | (refine StN_gate ?_; refine xN ?_)); clear H; intro w H))
    refine Call_of (sTrailDepth H mm) ?_
    rintro _ _ ⟨rfl, rfl⟩
    (repeat first | refine go ?_ | ((try conv => whnf); (first | (refine St_gate ?_; refine xS ?_) | (refine StN_gate ?_; refine xN ?_)); clear H; intro w H))
    (refine Nw_sep H ?_; clear H; intro nb w H; (try simp only [Value.cells, List.toList_toArray, List.append_nil, List.cons_append, List.nil_append] at H))
    (repeat first | refine go ?_ | ((try conv => whnf); (first | (refine St_gate ?_; refine xS ?_) | (refine StN_gate ?_; refine xN ?_)); clear H; intro w H))
    (refine DoN_gate ?_; refine append_one tok H rfl rfl rfl rfl rfl (by decide) mm (m := 1) rfl (by simp [oneCell]) (by omega) (by unfold maxLen; omega) ?_; clear H; intro a c w H; replace H := H _ (by repeat first | exact Upd.head | apply Upd.tail))
    (repeat first | refine go ?_ | ((try conv => whnf); (first | (refine St_gate ?_; refine xS ?_) | (refine StN_gate ?_; refine xN ?_)); clear H; intro w H))
    refine Ret_in ⟨a, c, ?_⟩
    unfold eng yP eP
    rw [List.length_append, List.flatMap_append]
    exact H
  · have e : Watch.again s id = s := by unfold Watch.again; rw [if_neg hD]
    rw [e]
    (repeat first | refine go ?_ | ((try conv => whnf); (first | (refine St_gate ?_; refine xS ?_) | (refine StN_gate ?_; refine xN ?_)); clear H; intro w H))
    exact Ret_in ⟨r.ya, r.yc, H⟩

theorem eLead {xs : List Int} {a : Option Addr} {c : Nat} (H : Sep w0 w (ownR a xs.length c 29 1 (xs.map lV) :: l)) (he : eP eb s r ∈ l) (ht : tP s r ∈ l) (hl : xs.length ≤ 1000000000) :
    Does Tryz.prog 43 #[.pointer (some ⟨eb, 0, none⟩), .slice a xs.length c] w fun v w' => Sep w0 w' (ownR a xs.length c 29 1 ((leadP s.E xs).map lV) :: l) := by
  rw [leadP_at]
  refine Does_intro tok (Tryz.call43 _ _) Tryz.func43 rfl (by rfl) ?_
  (repeat first | refine go ?_ | ((try conv => whnf); (first | (refine St_gate ?_; refine xS ?_) | (refine StN_gate ?_; refine xN ?_)); clear H; intro w H))
  have em : min (2 : Int) (xs.length : Int) = ((min 2 xs.length : Nat) : Int) := by omega
  rw [em]
  refine Loop_intro (fun i : Nat => [(10, .int .i64 (i : Int))]) (fun i w => i ≤ min 2 xs.length ∧ Sep w0 w (ownR a xs.length c 29 1 ((leadAt s.E xs i).map lV) :: l)) (fun i => 2 - i) 0 ⟨rfl, trivial⟩ ⟨Nat.zero_le _, H⟩ ?_
  clear H
  rintro i w ⟨hi, H⟩
  simp only [] at hi H ⊢
  have hL := leadAt_len s.E xs i
  refine Br_dec (fun k1 => ?_) (fun k1 => ?_)
  · have hil : i < xs.length := by omega
    have hnx : leadAt s.E xs (i + 1) = swapL (leadAt s.E xs i) i (bestTo s.E (leadAt s.E xs i) i (xs.length - (i + 1))) := by
      show swapL _ _ _ = _
      rw [hL]
    generalize leadAt s.E xs i = L at *
    obtain ⟨b, rfl⟩ := (H.ownM (hm := .head _)).some (by omega)
    (repeat first | refine go ?_ | ((try conv => whnf); (first | (refine St_gate ?_; refine xS ?_) | (refine StN_gate ?_; refine xN ?_)); clear H; intro w H))
    refine Loop_intro (fun m : Nat => [(6, .int .i64 ((i + 1 + m : Nat) : Int)), (5, .int .i64 (bestTo s.E L i m : Int))]) (fun m w => m ≤ xs.length - (i + 1) ∧ Sep w0 w (ownR (some ⟨b, 0, none⟩) xs.length c 29 1 (L.map lV) :: l)) (fun m => xs.length - m) 0 ⟨congrArg some (vint (by omega)), rfl, trivial⟩ ⟨Nat.zero_le _, H⟩ ?_
    clear H
    rintro m w ⟨hm, H⟩
    simp only [] at hm H ⊢
    have hb := bestTo_in s.E L i m
    refine Br_dec (fun k2 => ?_) (fun k2 => ?_)
    · have hbn : bestTo s.E L i (m + 1) = if rank s.E (L.getD (bestTo s.E L i m) 0) < rank s.E (L.getD (i + 1 + m) 0) then i + 1 + m else bestTo s.E L i m := rfl
      generalize bestTo s.E L i m = best at *
      (repeat first | refine go ?_ | ((try conv => whnf); (first | (refine St_gate ?_; refine xS ?_) | (refine StN_gate ?_; refine xN ?_)); clear H; intro w H))
      refine Draw_intro mixed [0, 1, 2, 3, 4, 6, 7, 8, 9, 10, 5, 11, 12] (by decide +kernel) (fun w _ fd => ?_); replace H := H.fr fd; clear fd
      (repeat first | refine go ?_ | ((try conv => whnf); (first | (refine St_gate ?_; refine xS ?_) | (refine StN_gate ?_; refine xN ?_)); clear H; intro w H))
      refine Ix_in (i + 1 + m) rfl (by omega) ?_
      refine Ld_mO H mm (lits_get (by omega)) ?_
      (repeat first | refine go ?_ | ((try conv => whnf); (first | (refine St_gate ?_; refine xS ?_) | (refine StN_gate ?_; refine xN ?_)); clear H; intro w H))
      refine Ix_in best rfl (by omega) ?_
      refine Ld_mO H mm (lits_get (by omega)) ?_
      (repeat first | refine go ?_ | ((try conv => whnf); (first | (refine St_gate ?_; refine xS ?_) | (refine StN_gate ?_; refine xN ?_)); clear H; intro w H))
      (try conv => whnf)
      refine Call_of (eRank H (.tail _ he) (.tail _ ht)) ?_
      clear H
      rintro _ w ⟨rfl, H⟩
      (try conv => whnf)
      refine Kept_in (Sep.cellAtO H mm (lits_get (by omega))) ?_
      (repeat first | refine go ?_ | ((try conv => whnf); (first | (refine St_gate ?_; refine xS ?_) | (refine StN_gate ?_; refine xN ?_)); clear H; intro w H))
      (try conv => whnf)
      refine Call_of (eRank H (.tail _ he) (.tail _ ht)) ?_
      clear H
      rintro _ w ⟨rfl, H⟩
      by_cases hlt : rank s.E (L.getD best 0) < rank s.E (L.getD (i + 1 + m) 0)
      · rw [if_pos hlt] at hbn
        (repeat first | refine go ?_ | ((try conv => whnf); (first | (refine St_gate ?_; refine xS ?_) | (refine StN_gate ?_; refine xN ?_)); clear H; intro w H))
        exact ⟨m + 1, ⟨congrArg some (vint (by omega)), congrArg some (vint (by rw [hbn])), trivial⟩, ⟨by omega, H⟩, by omega⟩
      · rw [if_neg hlt] at hbn
        (repeat first | refine go ?_ | ((try conv => whnf); (first | (refine St_gate ?_; refine xS ?_) | (refine StN_gate ?_; refine xN ?_)); clear H; intro w H))
        exact ⟨m + 1, ⟨congrArg some (vint (by omega)), congrArg some (vint (by rw [hbn])), trivial⟩, ⟨by omega, H⟩, by omega⟩
    obtain rfl : m = xs.length - (i + 1) := by omega
    generalize bestTo s.E L i (xs.length - (i + 1)) = best at *
    (repeat first | refine go ?_ | ((try conv => whnf); (first | (refine St_gate ?_; refine xS ?_) | (refine StN_gate ?_; refine xN ?_)); clear H; intro w H))
    refine Draw_intro mixed [0, 1, 2, 3, 4, 5, 6, 7, 8, 9, 10, 11, 12, 13, 14, 15] (by decide +kernel) (fun w _ fd => ?_); replace H := H.fr fd; clear fd
    (repeat first | refine go ?_ | ((try conv => whnf); (first | (refine St_gate ?_; refine xS ?_) | (refine StN_gate ?_; refine xN ?_)); clear H; intro w H))
    refine Ix_in best rfl (by omega) ?_
    refine Ld_mO H mm (lits_get (by omega)) ?_
    (repeat first | refine go ?_ | ((try conv => whnf); (first | (refine St_gate ?_; refine xS ?_) | (refine StN_gate ?_; refine xN ?_)); clear H; intro w H))
    refine Ix_in i rfl (by omega) ?_
    refine Ld_mO H mm (lits_get (by omega)) ?_
    (repeat first | refine go ?_ | ((try conv => whnf); (first | (refine St_gate ?_; refine xS ?_) | (refine StN_gate ?_; refine xN ?_)); clear H; intro w H))
    refine Ix_in i rfl (by omega) ?_
    (repeat first | refine go ?_ | ((try conv => whnf); (first | (refine St_gate ?_; refine xS ?_) | (refine StN_gate ?_; refine xN ?_)); clear H; intro w H))
    refine St_uO H (by repeat first | exact Upd.head | apply Upd.tail) rfl (by rw [List.length_map]; omega) lits_set ?_
    clear H; intro w H
    (repeat first | refine go ?_ | ((try conv => whnf); (first | (refine St_gate ?_; refine xS ?_) | (refine StN_gate ?_; refine xN ?_)); clear H; intro w H))
    refine Ix_in best rfl (by omega) ?_
    (repeat first | refine go ?_ | ((try conv => whnf); (first | (refine St_gate ?_; refine xS ?_) | (refine StN_gate ?_; refine xN ?_)); clear H; intro w H))
    refine St_uO H (by repeat first | exact Upd.head | apply Upd.tail) rfl (by rw [List.length_map, List.length_set]; omega) lits_set ?_
    clear H; intro w H
    (repeat first | refine go ?_ | ((try conv => whnf); (first | (refine St_gate ?_; refine xS ?_) | (refine StN_gate ?_; refine xN ?_)); clear H; intro w H))
    refine ⟨i + 1, ⟨congrArg some (vint (by omega)), trivial⟩, ⟨by omega, ?_⟩, by omega⟩
    rw [hnx]
    exact H
  · obtain rfl : i = min 2 xs.length := by omega
    (repeat first | refine go ?_ | ((try conv => whnf); (first | (refine St_gate ?_; refine xS ?_) | (refine StN_gate ?_; refine xN ?_)); clear H; intro w H))
    exact Ret_in H
end
end Go.Proofs.YtcibiidebknkgaaGreat
