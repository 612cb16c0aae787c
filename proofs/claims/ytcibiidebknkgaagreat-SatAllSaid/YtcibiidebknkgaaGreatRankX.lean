/- What the methods of a rank hand back and leave. -/
import Derived.Test.YtcibiidebknkgaaGreatRankW
namespace Go.Proofs.YtcibiidebknkgaaGreat
open Go Go.Vc Go.Rank
set_option linter.unusedVariables false
set_option linter.unusedSimpArgs false
set_option maxHeartbeats 4000000
set_option maxRecDepth 100000

section
variable {w0 w : World} {l : List Res} {b : Nat} {L : List Nat} {sc : List Int}

theorem rVars (H : Sep w0 w l) (hm : rankR b L sc ∈ l) : Does Tryz.prog 63 #[.pointer (some ⟨b, 0, none⟩)] w fun v w' => v = .int .i64 ((sc.length - 1 : Nat) : Int) ∧ w = w' := by
  obtain ⟨hok, al, cl, ap, cp, aq, cq, r, hp, H⟩ := rankOpen H hm
  have hmany := hok.many
  refine Does_intro tok (Tryz.call63 _ _) Tryz.func63 rfl (by rfl) ?_
  (repeat first | refine go ?_ | ((try conv => whnf); (first | (refine St_gate ?_; refine xS ?_) | (refine StN_gate ?_; refine xN ?_)); clear H; intro w H))
  exact Ret_in ⟨vint (by omega), rfl⟩

theorem rLen (H : Sep w0 w l) (hm : rankR b L sc ∈ l) : Does Tryz.prog 112 #[.pointer (some ⟨b, 0, none⟩)] w fun v w' => v = .int .i64 L.length ∧ w = w' := by
  obtain ⟨hok, al, cl, ap, cp, aq, cq, r, hp, H⟩ := rankOpen H hm
  refine Does_intro tok (Tryz.call112 _ _) Tryz.func112 rfl (by rfl) ?_
  (repeat first | refine go ?_ | ((try conv => whnf); (first | (refine St_gate ?_; refine xS ?_) | (refine StN_gate ?_; refine xN ?_)); clear H; intro w H))
  exact Ret_in ⟨rfl, rfl⟩

/-- Is there such a variable? -/
def thereB (sc : List Int) (v : Int) : Bool := decide (1 ≤ v ∧ v < sc.length)

theorem rThere (H : Sep w0 w l) (hm : rankR b L sc ∈ l) {v : Int} : Does Tryz.prog 90 #[.pointer (some ⟨b, 0, none⟩), .int .i64 v] w fun r w' => r = .bool (thereB sc v) ∧ w = w' := by
  have hmany := (rankOk H hm).many
  unfold thereB
  refine Does_intro tok (Tryz.call90 _ _) Tryz.func90 rfl (by rfl) ?_
  refine Br_dec (fun k => ?_) (fun k => ?_)
  · (repeat first | refine go ?_ | ((try conv => whnf); (first | (refine St_gate ?_; refine xS ?_) | (refine StN_gate ?_; refine xN ?_)); clear H; intro w H))
    refine Call_of (rVars H hm) ?_
    rintro _ _ ⟨rfl, rfl⟩
    (repeat first | refine go ?_ | ((try conv => whnf); (first | (refine St_gate ?_; refine xS ?_) | (refine StN_gate ?_; refine xN ?_)); clear H; intro w H))
    refine Ret_in ⟨vbool ?_, rfl⟩
    rw [decide_eq_decide]; omega
  · (repeat first | refine go ?_ | ((try conv => whnf); (first | (refine St_gate ?_; refine xS ?_) | (refine StN_gate ?_; refine xN ?_)); clear H; intro w H))
    exact Ret_in ⟨vbool (decide_eq_false (by omega)).symm, rfl⟩



theorem scoresV_set {sc : List Int} {v : Nat} {x : Int} : (scoresV sc).set v (.int .i64 x) = scoresV (sc.set v x) := by unfold scoresV; rw [List.map_set]

def bumpOk (sc : List Int) (v y : Int) : Bool := thereB sc v && (decide (0 ≤ y) && decide (y ≤ 1152921504606846976))
def bumpSc (sc : List Int) (v : Nat) (y : Int) : List Int := sc.set v (min (sc.getD v 0 + y) 1152921504606846976)

theorem getD_range {sc : List Int} (h : ∀ x ∈ sc, 0 ≤ x ∧ x ≤ 1152921504606846976) (v : Nat) : 0 ≤ sc.getD v 0 ∧ sc.getD v 0 ≤ 1152921504606846976 := by
  rw [List.getD_eq_getElem?_getD]
  cases hg : sc[v]? with
  | none => simp
  | some x => exact h x (List.mem_of_getElem? hg)

theorem RankOk.scores {L : List Nat} {sc sc' : List Int} (h : RankOk L sc) (hl : sc'.length = sc.length) (hr : ∀ x ∈ sc', 0 ≤ x ∧ x ≤ 1152921504606846976) : RankOk L sc' :=
  ⟨by rw [hl]; exact h.many, h.once, fun v hv => by rw [hl]; exact h.there v hv, hr⟩

theorem bumpSc_ok {L : List Nat} {sc : List Int} (h : RankOk L sc) {v : Nat} {y : Int} (hy : 0 ≤ y) : RankOk L (bumpSc sc v y) := by
  refine h.scores (by simp [bumpSc]) fun x hx => ?_
  rcases List.mem_or_eq_of_mem_set hx with hx | rfl
  · exact h.range x hx
  · have := getD_range h.range v
    omega

theorem rBump (H : Sep w0 w l) (hm : rankR b L sc ∈ l) {v y : Int} : Does Tryz.prog 79 #[.pointer (some ⟨b, 0, none⟩), .int .i64 v, .int .i64 y] w fun r w' =>
    (bumpOk sc v y = false ∧ r = .int .i64 31 ∧ w = w') ∨
    (bumpOk sc v y = true ∧ r = .int .i64 0 ∧ SepU w0 w' l (rankR b L sc) (rankR b (if v.toNat ∈ L then fixL (bumpSc sc v.toNat y) L (pos L v.toNat - 1) else L) (bumpSc sc v.toNat y))) := by
  obtain ⟨hok, al, cl, ap, cp, aq, cq, r, hp, H2⟩ := rankOpen H hm
  have hmany := hok.many
  obtain ⟨bs, rfl⟩ := (H2.ownM (hm := .tail _ (.tail _ (.tail _ (.head _))))).some (by omega)
  obtain ⟨bp, rfl⟩ := (H2.ownM (hm := .tail _ (.tail _ (.head _)))).some (by omega)
  refine Does_intro tok (Tryz.call79 _ _) Tryz.func79 rfl (by rfl) ?_
  refine Call_of (rThere H hm) ?_
  rintro _ _ ⟨rfl, rfl⟩
  replace H := H2
  refine Br_not (Br_if (fun k => ?_) (fun k => ?_))
  · (repeat first | refine go ?_ | ((try conv => whnf); (first | (refine St_gate ?_; refine xS ?_) | (refine StN_gate ?_; refine xN ?_)); clear H; intro w H))
    have kk : 1 ≤ v ∧ v < sc.length := by unfold thereB at k; simpa using k
    refine Br_dec (fun k1 => ?_) (fun k1 => ?_)
    · (repeat first | refine go ?_ | ((try conv => whnf); (first | (refine St_gate ?_; refine xS ?_) | (refine StN_gate ?_; refine xN ?_)); clear H; intro w H))
      exact Ret_in (.inl ⟨by unfold bumpOk; simp; omega, rfl, rfl⟩)
    (repeat first | refine go ?_ | ((try conv => whnf); (first | (refine St_gate ?_; refine xS ?_) | (refine StN_gate ?_; refine xN ?_)); clear H; intro w H))
    refine Br_dec (fun k2 => ?_) (fun k2 => ?_)
    · (repeat first | refine go ?_ | ((try conv => whnf); (first | (refine St_gate ?_; refine xS ?_) | (refine StN_gate ?_; refine xN ?_)); clear H; intro w H))
      exact Ret_in (.inl ⟨by unfold bumpOk; simp; omega, rfl, rfl⟩)
    have hb : bumpOk sc v y = true := by unfold bumpOk; rw [k]; simp; omega
    obtain ⟨u, rfl⟩ : ∃ u : Nat, v = u := ⟨v.toNat, by omega⟩
    simp only [Int.toNat_natCast]
    have hgr := getD_range hok.range u
    have hok' : RankOk L (bumpSc sc u y) := bumpSc_ok hok (by omega)
    have hsl : (bumpSc sc u y).length = sc.length := by simp [bumpSc]
    (repeat first | refine go ?_ | ((try conv => whnf); (first | (refine St_gate ?_; refine xS ?_) | (refine StN_gate ?_; refine xN ?_)); clear H; intro w H))
    refine Draw_intro mixed [0, 1, 2, 3, 4, 5, 6, 7, 8, 9, 10, 11, 12, 13, 14, 15, 16] (by decide +kernel) (fun w _ fd => ?_); replace H := H.fr fd; clear fd
    (repeat first | refine go ?_ | ((try conv => whnf); (first | (refine St_gate ?_; refine xS ?_) | (refine StN_gate ?_; refine xN ?_)); clear H; intro w H))
    refine Ix_in u rfl (by omega) ?_
    refine Ld_mO H mm (scoresV_get (by omega)) ?_
    (repeat first | refine go ?_ | ((try conv => whnf); (first | (refine St_gate ?_; refine xS ?_) | (refine StN_gate ?_; refine xN ?_)); clear H; intro w H))
    refine Ix_in u rfl (by omega) ?_
    refine St_uO (xs' := scoresV (bumpSc sc u y)) H (by repeat first | exact Upd.head | apply Upd.tail) rfl (by rw [scoresV_len]; omega) scoresV_set ?_
    clear H; intro w H
    (repeat first | refine go ?_ | ((try conv => whnf); (first | (refine St_gate ?_; refine xS ?_) | (refine StN_gate ?_; refine xN ?_)); clear H; intro w H))
    refine Ix_in u rfl (by omega) ?_
    refine Ld_mO H mm (placesV_get (by omega)) ?_
    rw [← hsl] at H
    replace H := rankClose hok' H
    by_cases hu : u ∈ L
    · rw [if_pos hu]
      have hidx := List.idxOf_lt_length_iff.2 hu
      have hpz : pos L u = L.idxOf u + 1 := by unfold pos; rw [if_pos hu]
      have hpc : ((pos L u : Nat) : Int) - 1 = (pos L u - 1 : Nat) := by omega
      have hlen := hok.len
      (repeat first | refine go ?_ | ((try conv => whnf); (first | (refine St_gate ?_; refine xS ?_) | (refine StN_gate ?_; refine xN ?_)); clear H; intro w H))
      rw [hpc]
      refine Call_of (heapFix H (.head _) (i := pos L u - 1) (by omega)) ?_
      clear H
      rintro _ w ⟨rfl, H⟩
      replace H := H _ .head
      (repeat first | refine go ?_ | ((try conv => whnf); (first | (refine St_gate ?_; refine xS ?_) | (refine StN_gate ?_; refine xN ?_)); clear H; intro w H))
      exact Ret_in (.inr ⟨hb, rfl, SepU.mk hp H⟩)
    · rw [if_neg hu]
      have hpz : pos L u = 0 := pos_zero.2 hu
      (repeat first | refine go ?_ | ((try conv => whnf); (first | (refine St_gate ?_; refine xS ?_) | (refine StN_gate ?_; refine xN ?_)); clear H; intro w H))
      exact Ret_in (.inr ⟨hb, rfl, SepU.mk hp H⟩)
  · (repeat first | refine go ?_ | ((try conv => whnf); (first | (refine St_gate ?_; refine xS ?_) | (refine StN_gate ?_; refine xN ?_)); clear H; intro w H))
    exact Ret_in (.inl ⟨by unfold bumpOk; rw [k]; rfl, rfl, rfl⟩)

/-- All are half as much. -/
def halfSc (sc : List Int) : List Int := sc.map fun x => x / 2
def halfTo (sc : List Int) (k : Nat) : List Int := (sc.take k).map (fun x => x / 2) ++ sc.drop k

theorem halfTo_len (sc : List Int) (k : Nat) : (halfTo sc k).length = sc.length := by
  simp [halfTo]; omega
theorem halfTo_get {sc : List Int} {k v : Nat} (h : k ≤ v) : (halfTo sc k).getD v 0 = sc.getD v 0 := by
  unfold halfTo
  rw [List.getD_eq_getElem?_getD, List.getD_eq_getElem?_getD]
  by_cases hk : k ≤ sc.length
  · rw [List.getElem?_append_right (by simp; omega), List.getElem?_drop]
    congr 2; simp; omega
  · rw [List.getElem?_eq_none (by simp; omega), List.getElem?_eq_none (by omega)]
theorem halfTo_next {sc : List Int} {k : Nat} (h : k < sc.length) : (halfTo sc k).set k (sc.getD k 0 / 2) = halfTo sc (k + 1) := by
  have h1 : sc.getD k 0 = sc[k] := by rw [List.getD_eq_getElem?_getD, List.getElem?_eq_getElem h]; rfl
  have h2 : (sc.drop k).set 0 (sc[k] / 2) = (sc[k] / 2) :: sc.drop (k + 1) := by rw [List.drop_eq_getElem_cons h]; rfl
  have h3 : k - ((sc.take k).map fun x => x / 2).length = 0 := by simp; omega
  unfold halfTo
  rw [List.set_append_right _ _ (by simp; omega), h3, h1, h2, List.take_add_one, List.getElem?_eq_getElem h, List.map_append, List.append_assoc]
  rfl
theorem halfTo_all {sc : List Int} : halfTo sc sc.length = halfSc sc := by simp [halfTo, halfSc]
theorem halfTo_zero {sc : List Int} : halfTo sc 0 = sc := by simp [halfTo]
theorem halfTo_ok {L : List Nat} {sc : List Int} (h : RankOk L sc) (k : Nat) : RankOk L (halfTo sc k) := by
  refine h.scores (halfTo_len _ _) fun x hx => ?_
  unfold halfTo at hx
  rcases List.mem_append.1 hx with hx | hx
  · obtain ⟨y, hy, rfl⟩ := List.mem_map.1 hx
    have := h.range y (List.mem_of_mem_take hy)
    omega
  · exact h.range x (List.mem_of_mem_drop hx)

theorem rHalve (H : Sep w0 w l) (hm : rankR b L sc ∈ l) : Does Tryz.prog 80 #[.pointer (some ⟨b, 0, none⟩)] w fun r w' => r = .tuple #[] ∧ SepU w0 w' l (rankR b L sc) (rankR b (initL (halfSc sc) L.length (L.length / 2) L) (halfSc sc)) := by
  obtain ⟨hok, al, cl, ap, cp, aq, cq, r, hp, H⟩ := rankOpen H hm
  have hmany := hok.many
  obtain ⟨bs, rfl⟩ := (H.ownM (hm := .tail _ (.tail _ (.tail _ (.head _))))).some (by omega)
  refine Does_intro tok (Tryz.call80 _ _) Tryz.func80 rfl (by rfl) ?_
  (repeat first | refine go ?_ | ((try conv => whnf); (first | (refine St_gate ?_; refine xS ?_) | (refine StN_gate ?_; refine xN ?_)); clear H; intro w H))
  refine Loop_intro (fun k : Nat => [(9, .int .i64 k)]) (fun k w => k ≤ sc.length ∧ Sep w0 w (cellsR b 86 [.slice al L.length cl, .slice ap sc.length cp, .slice (some ⟨bs, 0, none⟩) sc.length cq] :: ownR al L.length cl 3 1 (listV L) ::
    ownR ap sc.length cp 3 1 (placesV L sc.length) :: ownR (some ⟨bs, 0, none⟩) sc.length cq 2 1 (scoresV (halfTo sc k)) :: r)) (fun k => sc.length - k) 0 ⟨rfl, trivial⟩ ⟨Nat.zero_le _, by rw [halfTo_zero]; exact H⟩ ?_
  clear H
  rintro k w ⟨hk, H⟩
  refine Br_dec (fun k1 => ?_) (fun k1 => ?_)
  · have hgr := getD_range hok.range k
    have hg : (scoresV (halfTo sc k))[k]? = some (.int .i64 (sc.getD k 0)) := by rw [scoresV_get (by rw [halfTo_len]; omega), halfTo_get (Nat.le_refl _)]
    have hd : (sc.getD k 0).tdiv 2 = sc.getD k 0 / 2 := Int.tdiv_eq_ediv_of_nonneg hgr.1
    (repeat first | refine go ?_ | ((try conv => whnf); (first | (refine St_gate ?_; refine xS ?_) | (refine StN_gate ?_; refine xN ?_)); clear H; intro w H))
    refine Ix_in k rfl (by omega) ?_
    refine Ld_mO H mm hg ?_
    (repeat first | refine go ?_ | ((try conv => whnf); (first | (refine St_gate ?_; refine xS ?_) | (refine StN_gate ?_; refine xN ?_)); clear H; intro w H))
    rw [hd]
    refine Ix_in k rfl (by omega) ?_
    refine St_uO (xs' := scoresV (halfTo sc (k + 1))) H (by repeat first | exact Upd.head | apply Upd.tail) rfl (by rw [scoresV_len, halfTo_len]; omega) (by rw [scoresV_set, halfTo_next (by omega)]) ?_
    clear H; intro w H
    (repeat first | refine go ?_ | ((try conv => whnf); (first | (refine St_gate ?_; refine xS ?_) | (refine StN_gate ?_; refine xN ?_)); clear H; intro w H))
    exact ⟨k + 1, ⟨congrArg some (vint (by omega)), trivial⟩, ⟨by omega, H⟩, by omega⟩
  · obtain rfl : k = sc.length := by omega
    have hok' := halfTo_ok hok sc.length
    have hsl := halfTo_len sc sc.length
    rw [halfTo_all] at H hok' hsl
    rw [← hsl] at H
    replace H := rankClose hok' H
    (repeat first | refine go ?_ | ((try conv => whnf); (first | (refine St_gate ?_; refine xS ?_) | (refine StN_gate ?_; refine xN ?_)); clear H; intro w H))
    refine Call_of (heapInit H (.head _)) ?_
    clear H
    rintro _ w ⟨rfl, H⟩
    replace H := H _ .head
    exact Ret_in ⟨rfl, SepU.mk hp H⟩

theorem rPush (H : Sep w0 w l) (hm : rankR b L sc ∈ l) {v : Int} : Does Tryz.prog 60 #[.pointer (some ⟨b, 0, none⟩), .int .i64 v] w fun r w' =>
    (thereB sc v = false ∧ r = .int .i64 31 ∧ w = w') ∨
    (thereB sc v = true ∧ r = .int .i64 0 ∧ SepU w0 w' l (rankR b L sc) (rankR b (if v.toNat ∈ L then L else upL sc (L ++ [v.toNat]) L.length) sc)) := by
  obtain ⟨hok, al, cl, ap, cp, aq, cq, r, hp, H2⟩ := rankOpen H hm
  have hmany := hok.many
  obtain ⟨bp, rfl⟩ := (H2.ownM (hm := .tail _ (.tail _ (.head _)))).some (by omega)
  refine Does_intro tok (Tryz.call60 _ _) Tryz.func60 rfl (by rfl) ?_
  refine Call_of (rThere H hm) ?_
  rintro _ _ ⟨rfl, rfl⟩
  replace H := H2
  refine Br_not (Br_if (fun k => ?_) (fun k => ?_))
  · (repeat first | refine go ?_ | ((try conv => whnf); (first | (refine St_gate ?_; refine xS ?_) | (refine StN_gate ?_; refine xN ?_)); clear H; intro w H))
    have kk : 1 ≤ v ∧ v < sc.length := by unfold thereB at k; simpa using k
    obtain ⟨u, rfl⟩ : ∃ u : Nat, v = u := ⟨v.toNat, by omega⟩
    simp only [Int.toNat_natCast]
    refine Ix_in u rfl (by omega) ?_
    refine Ld_mO H mm (placesV_get (by omega)) ?_
    replace H := rankClose hok H
    by_cases hu : u ∈ L
    · rw [if_pos hu]
      have hpz : pos L u ≠ 0 := fun e => pos_zero.1 e hu
      (repeat first | refine go ?_ | ((try conv => whnf); (first | (refine St_gate ?_; refine xS ?_) | (refine StN_gate ?_; refine xN ?_)); clear H; intro w H))
      exact Ret_in (.inr ⟨k, rfl, SepU.mk hp H⟩)
    · rw [if_neg hu]
      have hpz : pos L u = 0 := pos_zero.2 hu
      (repeat first | refine go ?_ | ((try conv => whnf); (first | (refine St_gate ?_; refine xS ?_) | (refine StN_gate ?_; refine xN ?_)); clear H; intro w H))
      refine Call_of (heapPush H (.head _) hu (by omega) (by omega)) ?_
      clear H
      rintro _ w ⟨rfl, H⟩
      replace H := H _ .head
      exact Ret_in (.inr ⟨k, rfl, SepU.mk hp H⟩)
  · exact Ret_in (.inl ⟨k, rfl, rfl⟩)

def popL (sc : List Int) (L : List Nat) : List Nat := (downL sc (swap L 0 (L.length - 1)) 0 (L.length - 1)).1.dropLast

theorem rPop (H : Sep w0 w l) (hm : rankR b L sc ∈ l) : Does Tryz.prog 84 #[.pointer (some ⟨b, 0, none⟩)] w fun r w' =>
    (L = [] ∧ r = .tuple #[.int .i64 0, .bool false] ∧ w = w') ∨
    (L ≠ [] ∧ r = .tuple #[.int .i64 (at_ L 0 : Int), .bool true] ∧ SepU w0 w' l (rankR b L sc) (rankR b (popL sc L) sc)) := by
  obtain ⟨r, hp⟩ := mem_cut hm
  replace H := H.perm hp
  refine Does_intro tok (Tryz.call84 _ _) Tryz.func84 rfl (by rfl) ?_
  refine Call_of (rLen H (.head _)) ?_
  rintro _ _ ⟨rfl, rfl⟩
  refine Br_eq (fun k => ?_) (fun k => ?_)
  · exact Ret_in (.inl ⟨List.length_eq_zero_iff.1 (by omega), rfl, rfl⟩)
  · (repeat first | refine go ?_ | ((try conv => whnf); (first | (refine St_gate ?_; refine xS ?_) | (refine StN_gate ?_; refine xN ?_)); clear H; intro w H))
    refine Call_of (heapPop H (.head _) (by omega)) ?_
    clear H
    rintro _ w ⟨rfl, H⟩
    replace H := H _ .head
    refine Do_assert_ok tok rfl rfl ?_
    exact Ret_in (.inr ⟨fun e => k (by rw [e]; rfl), rfl, SepU.mk hp H⟩)

theorem scoresV_app (sc : List Int) : scoresV sc ++ [.int .i64 0] = scoresV (sc ++ [0]) := by simp [scoresV]
theorem placesV_more {L : List Nat} {n : Nat} (h : n ∉ L) : placesV L n ++ [.int .i64 0] = placesV L (n + 1) := by
  unfold placesV
  rw [List.range_succ, List.map_append, List.map_singleton, pos_zero.2 h]; rfl

theorem rGrow (H : Sep w0 w l) (hm : rankR b L sc ∈ l) (hn : sc.length ≤ 262144) : Does Tryz.prog 34 #[.pointer (some ⟨b, 0, none⟩)] w fun r w' =>
    r = .int .i64 sc.length ∧ SepU w0 w' l (rankR b L sc) (rankR b (upL (sc ++ [0]) (L ++ [sc.length]) L.length) (sc ++ [0])) := by
  obtain ⟨hok, al, cl, ap, cp, aq, cq, r, hp, H2⟩ := rankOpen H hm
  have hmany := hok.many
  have hlen := hok.len
  have hnin : sc.length ∉ L := fun h => by have := hok.there _ h; omega
  have hsl : (sc ++ [0]).length = sc.length + 1 := by simp
  have hok' : RankOk L (sc ++ [0]) := ⟨by omega, hok.once, fun v hv => by have := hok.there v hv; omega, fun x hx => by
    rcases List.mem_append.1 hx with hx | hx
    · exact hok.range x hx
    · simp at hx; omega⟩
  refine Does_intro tok (Tryz.call34 _ _) Tryz.func34 rfl (by rfl) ?_
  refine Call_of (rVars H hm) ?_
  rintro _ _ ⟨rfl, rfl⟩
  clear H
  replace H := H2
  clear H2
  (repeat first | refine go ?_ | ((try conv => whnf); (first | (refine St_gate ?_; refine xS ?_) | (refine StN_gate ?_; refine xN ?_)); clear H; intro w H))
  (refine Nw_sep H ?_; clear H; intro bn w H; (try simp only [Value.cells, List.toList_toArray, List.append_nil, List.cons_append, List.nil_append] at H))
  (refine DoN_gate ?_; refine append_one tok H rfl rfl rfl rfl rfl (by decide) mm (m := 1) rfl (by simp [oneCell]) (by omega) (by unfold maxLen; omega) ?_; clear H; intro a2 c2 w H; replace H := H _ (by repeat first | exact Upd.head | apply Upd.tail))
  (repeat first | refine go ?_ | ((try conv => whnf); (first | (refine St_gate ?_; refine xS ?_) | (refine StN_gate ?_; refine xN ?_)); clear H; intro w H))
  (refine Nw_sep H ?_; clear H; intro bn w H; (try simp only [Value.cells, List.toList_toArray, List.append_nil, List.cons_append, List.nil_append] at H))
  (refine DoN_gate ?_; refine append_one tok H rfl rfl rfl rfl rfl (by decide) mm (m := 1) rfl (by simp [oneCell]) (by omega) (by unfold maxLen; omega) ?_; clear H; intro a3 c3 w H; replace H := H _ (by repeat first | exact Upd.head | apply Upd.tail))
  rw [scoresV_app] at H
  rw [placesV_more hnin] at H
  (repeat first | refine go ?_ | ((try conv => whnf); (first | (refine St_gate ?_; refine xS ?_) | (refine StN_gate ?_; refine xN ?_)); clear H; intro w H))
  rw [← hsl] at H
  replace H := rankClose hok' H
  refine Call_of (rVars H (.head _)) ?_
  rintro _ _ ⟨rfl, rfl⟩
  have e1 : (sc ++ [0]).length - 1 = sc.length := by omega
  rw [e1]
  (repeat first | refine go ?_ | ((try conv => whnf); (first | (refine St_gate ?_; refine xS ?_) | (refine StN_gate ?_; refine xN ?_)); clear H; intro w H))
  refine Call_of (heapPush H (.head _) hnin (by omega) (by omega)) ?_
  clear H
  rintro _ w ⟨rfl, H⟩
  replace H := H _ .head
  refine Call_of (rVars H (.head _)) ?_
  rintro _ _ ⟨rfl, rfl⟩
  rw [e1]
  exact Ret_in ⟨rfl, SepU.mk hp H⟩
end
end Go.Proofs.YtcibiidebknkgaaGreat
