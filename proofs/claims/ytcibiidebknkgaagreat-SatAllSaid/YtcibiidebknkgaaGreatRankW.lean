/- What the functions of package rank and of container/heap do to a rank in memory. -/
import Derived.Test.YtcibiidebknkgaaGreatRankM
import Derived.KernelRfl
namespace Go.Proofs.YtcibiidebknkgaaGreat
open Go Go.Vc Go.Rank
set_option linter.unusedVariables false
set_option linter.unusedSimpArgs false
set_option maxHeartbeats 4000000
set_option maxRecDepth 100000


/-! A rank in memory -/
def pos (L : List Nat) (v : Nat) : Nat := if v ∈ L then L.idxOf v + 1 else 0
def listV (L : List Nat) : List Value := L.map fun (v : Nat) => Value.int .i64 (v : Int)
def placesV (L : List Nat) (n : Nat) : List Value := (List.range n).map fun v => .int .i64 (pos L v : Int)
def scoresV (sc : List Int) : List Value := sc.map fun x => .int .i64 x

structure RankOk (L : List Nat) (sc : List Int) : Prop where
  many : 0 < sc.length ∧ sc.length ≤ 262145
  once : L.Nodup
  there : ∀ v ∈ L, 0 < v ∧ v < sc.length
  range : ∀ x ∈ sc, 0 ≤ x ∧ x ≤ 1152921504606846976

def rankParts (b : Nat) (L : List Nat) (sc : List Int) (s : Option Addr × Nat × Option Addr × Nat × Option Addr × Nat) : List Res :=
  [cellsR b 86 [.slice s.1 L.length s.2.1, .slice s.2.2.1 sc.length s.2.2.2.1, .slice s.2.2.2.2.1 sc.length s.2.2.2.2.2], ownR s.1 L.length s.2.1 3 1 (listV L),
    ownR s.2.2.1 sc.length s.2.2.2.1 3 1 (placesV L sc.length), ownR s.2.2.2.2.1 sc.length s.2.2.2.2.2 2 1 (scoresV sc)]
def rankR (b : Nat) (L : List Nat) (sc : List Int) : Res := exR fun s : Option Addr × Nat × Option Addr × Nat × Option Addr × Nat => sepR (pureR (RankOk L sc) :: rankParts b L sc s)

theorem RankOk.len {L : List Nat} {sc : List Int} (h : RankOk L sc) : L.length < sc.length := by
  have := pigeons (sc.length - 1) L h.once (fun x hx => by have := h.there x hx; omega)
  have := h.many; omega

section
variable {w0 w : World} {l : List Res} {b : Nat} {L : List Nat} {sc : List Int}

/-- A rank taken apart, ahead of the rest. -/
theorem rankOpen (H : Sep w0 w l) (hm : rankR b L sc ∈ l) : RankOk L sc ∧ ∃ al cl ap cp aq cq r, l.Perm (rankR b L sc :: r) ∧ Sep w0 w (cellsR b 86 [.slice al L.length cl, .slice ap sc.length cp, .slice aq sc.length cq] :: ownR al L.length cl 3 1 (listV L) ::
    ownR ap sc.length cp 3 1 (placesV L sc.length) :: ownR aq sc.length cq 2 1 (scoresV sc) :: r) := by
  obtain ⟨r, hp⟩ := mem_cut hm
  obtain ⟨⟨al, cl, ap, cp, aq, cq⟩, h1⟩ := (H.perm hp).ex
  obtain ⟨h2, h3⟩ := Sep.prop h1.flat
  exact ⟨h2, al, cl, ap, cp, aq, cq, r, hp, h3⟩

theorem rankClose {r : List Res} {al : Option Addr} {cl : Nat} {ap : Option Addr} {cp : Nat} {aq : Option Addr} {cq : Nat} (hok : RankOk L sc) (H : Sep w0 w (cellsR b 86 [.slice al L.length cl, .slice ap sc.length cp, .slice aq sc.length cq] :: ownR al L.length cl 3 1 (listV L) ::
    ownR ap sc.length cp 3 1 (placesV L sc.length) :: ownR aq sc.length cq 2 1 (scoresV sc) :: r)) : Sep w0 w (rankR b L sc :: r) :=
  Sep.mk_ex (f := fun s : Option Addr × Nat × Option Addr × Nat × Option Addr × Nat => sepR (pureR (RankOk L sc) :: rankParts b L sc s)) (al, cl, ap, cp, aq, cq) (Sep.app (l := pureR (RankOk L sc) :: rankParts b L sc (al, cl, ap, cp, aq, cq)) (Sep.mk_prop hok H))

theorem rankOk (H : Sep w0 w l) (hm : rankR b L sc ∈ l) : RankOk L sc := (rankOpen H hm).1

theorem listV_get {L : List Nat} {i : Nat} (h : i < L.length) : (listV L)[i]? = some (.int .i64 (at_ L i : Int)) := by
  simp [listV, at_, h]
theorem placesV_get {L : List Nat} {n v : Nat} (h : v < n) : (placesV L n)[v]? = some (.int .i64 (pos L v : Int)) := by simp [placesV, h]
theorem scoresV_get {sc : List Int} {v : Nat} (h : v < sc.length) : (scoresV sc)[v]? = some (.int .i64 (sc.getD v 0)) := by simp [scoresV, h]
theorem listV_len (L : List Nat) : (listV L).length = L.length := by simp [listV]
theorem placesV_len (L : List Nat) (n : Nat) : (placesV L n).length = n := by simp [placesV]
theorem scoresV_len (sc : List Int) : (scoresV sc).length = sc.length := by simp [scoresV]
theorem at_mem {L : List Nat} {i : Nat} (h : i < L.length) : at_ L i ∈ L := by
  unfold at_; rw [List.getD_eq_getElem?_getD, List.getElem?_eq_getElem h]; exact List.getElem_mem h

/-! What a heap asks -/
theorem qLen (H : Sep w0 w l) (hm : rankR b L sc ∈ l) : Does Tryz.prog 162 #[.pointer (some ⟨b, 0, none⟩)] w fun v w' => v = .int .i64 L.length ∧ w = w' := by
  obtain ⟨hok, al, cl, ap, cp, aq, cq, r, hp, H⟩ := rankOpen H hm
  refine Does_intro tok (Tryz.call162 _ _) Tryz.func162 rfl (by rfl) ?_
  (repeat first | refine go ?_ | ((try conv => whnf); (first | (refine St_gate ?_; refine xS ?_) | (refine StN_gate ?_; refine xN ?_)); clear H; intro w H))
  exact Ret_in ⟨rfl, rfl⟩

theorem qLess (H : Sep w0 w l) (hm : rankR b L sc ∈ l) {i j : Nat} (hi : i < L.length) (hj : j < L.length) : Does Tryz.prog 163 #[.pointer (some ⟨b, 0, none⟩), .int .i64 i, .int .i64 j] w fun v w' => v = .bool (lt sc (at_ L i) (at_ L j)) ∧ Sep w0 w' l := by
  obtain ⟨hok, al, cl, ap, cp, aq, cq, r, hp, H⟩ := rankOpen H hm
  have hai := hok.there _ (at_mem hi)
  have haj := hok.there _ (at_mem hj)
  have gi := listV_get hi
  have gj := listV_get hj
  have si := scoresV_get hai.2
  have sj := scoresV_get haj.2
  obtain ⟨bl, rfl⟩ := (H.ownM (hm := .tail _ (.head _))).some (by omega)
  obtain ⟨bs, rfl⟩ := (H.ownM (hm := .tail _ (.tail _ (.tail _ (.head _))))).some (by omega)
  unfold lt
  refine Does_intro tok (Tryz.call163 _ _) Tryz.func163 rfl (by rfl) ?_
  refine Draw_intro mixed [0, 1, 2, 3, 4, 5, 6, 7, 8, 9, 10, 11, 12, 13, 14, 15] (by decide +kernel) (fun w _ fd => ?_); replace H := H.fr fd; clear fd
  (repeat first | refine go ?_ | ((try conv => whnf); (first | (refine St_gate ?_; refine xS ?_) | (refine StN_gate ?_; refine xN ?_)); clear H; intro w H))
  refine Ix_in i rfl hi ?_
  refine Ld_mO H mm gi ?_
  (repeat first | refine go ?_ | ((try conv => whnf); (first | (refine St_gate ?_; refine xS ?_) | (refine StN_gate ?_; refine xN ?_)); clear H; intro w H))
  refine Ix_in j rfl hj ?_
  refine Ld_mO H mm gj ?_
  refine Draw_intro mixed [0, 1, 2, 3, 4, 5, 6, 7, 8, 9, 10, 11, 12, 13, 14] (by decide +kernel) (fun w _ fd => ?_); replace H := H.fr fd; clear fd
  (repeat first | refine go ?_ | ((try conv => whnf); (first | (refine St_gate ?_; refine xS ?_) | (refine StN_gate ?_; refine xN ?_)); clear H; intro w H))
  refine Ix_in (at_ L i) rfl hai.2 ?_
  refine Ld_mO H mm si ?_
  (repeat first | refine go ?_ | ((try conv => whnf); (first | (refine St_gate ?_; refine xS ?_) | (refine StN_gate ?_; refine xN ?_)); clear H; intro w H))
  refine Ix_in (at_ L j) rfl haj.2 ?_
  refine Ld_mO H mm sj ?_
  refine Br_ne (fun k => ?_) (fun k => ?_)
  · rw [if_neg k]
    refine Draw_intro mixed [0, 1, 2, 3, 4, 5, 6, 7, 8, 9, 10, 11, 12, 13, 14, 15] (by decide +kernel) (fun w _ fd => ?_); replace H := H.fr fd; clear fd
    (repeat first | refine go ?_ | ((try conv => whnf); (first | (refine St_gate ?_; refine xS ?_) | (refine StN_gate ?_; refine xN ?_)); clear H; intro w H))
    refine Ix_in (at_ L i) rfl hai.2 ?_
    refine Ld_mO H mm si ?_
    (repeat first | refine go ?_ | ((try conv => whnf); (first | (refine St_gate ?_; refine xS ?_) | (refine StN_gate ?_; refine xN ?_)); clear H; intro w H))
    refine Ix_in (at_ L j) rfl haj.2 ?_
    refine Ld_mO H mm sj ?_
    exact Ret_in ⟨rfl, (rankClose hok H).perm hp.symm⟩
  · rw [if_pos k]
    refine Ret_in ⟨vbool ?_, (rankClose hok H).perm hp.symm⟩
    rw [decide_eq_decide]; omega

theorem pos_at {L : List Nat} (h : L.Nodup) {i : Nat} (hi : i < L.length) : pos L (at_ L i) = i + 1 := by
  unfold pos
  rw [if_pos (at_mem hi)]
  congr 1
  unfold at_
  rw [List.getD_eq_getElem?_getD, List.getElem?_eq_getElem hi]
  exact List.Nodup.idxOf_getElem h i hi

theorem pos_zero {L : List Nat} {v : Nat} : pos L v = 0 ↔ v ∉ L := by
  unfold pos; split
  · rename_i h; simp [h]
  · rename_i h; simp [h]

theorem listV_swap (L : List Nat) (i j : Nat) : ((listV L).set i (.int .i64 (at_ L j : Int))).set j (.int .i64 (at_ L i : Int)) = listV (swap L i j) := by
  unfold listV swap; rw [List.map_set, List.map_set]

theorem placesV_swap {L : List Nat} (h : L.Nodup) {i j n : Nat} (hi : i < L.length) (hj : j < L.length) (hn : ∀ v ∈ L, v < n) :
    ((placesV L n).set (at_ (swap L i j) i) (.int .i64 ((i + 1 : Nat) : Int))).set (at_ (swap L i j) j) (.int .i64 ((j + 1 : Nat) : Int)) = placesV (swap L i j) n := by
  have hnd : (swap L i j).Nodup := (swap_perm hi hj).nodup_iff.2 h
  have hl := swap_len L i j
  have h1 := hn _ ((swap_perm hi hj).mem_iff.1 (at_mem (L := swap L i j) (i := i) (by omega)))
  have h2 := hn _ ((swap_perm hi hj).mem_iff.1 (at_mem (L := swap L i j) (i := j) (by omega)))
  apply List.ext_getElem?
  intro v
  rw [List.getElem?_set, List.length_set, placesV_len, List.getElem?_set, placesV_len]
  by_cases hv : v < n
  · rw [placesV_get hv, placesV_get hv]
    by_cases e1 : at_ (swap L i j) j = v
    · rw [if_pos e1, if_pos h2, ← e1, pos_at hnd (by omega)]
    · rw [if_neg e1]
      by_cases e2 : at_ (swap L i j) i = v
      · rw [if_pos e2, if_pos h1, ← e2, pos_at hnd (by omega)]
      · rw [if_neg e2]
        congr 3
        by_cases hm : v ∈ L
        · obtain ⟨k, hk, rfl⟩ : ∃ k, k < L.length ∧ at_ L k = v := by
            obtain ⟨k, hk, e⟩ := List.getElem_of_mem hm
            exact ⟨k, hk, by unfold at_; rw [List.getD_eq_getElem?_getD, List.getElem?_eq_getElem hk]; exact e⟩
          have hsw := swap_at hi hj
          have hki : k ≠ i := by
            rintro rfl
            apply e1; rw [hsw]; simp
          have hkj : k ≠ j := by
            rintro rfl
            apply e2; rw [hsw]
            by_cases hik : i = k
            · rw [if_pos hik]; rw [hik]
            · rw [if_neg hik, if_pos rfl]
          have hsk : at_ (swap L i j) k = at_ L k := by rw [hsw, if_neg hkj, if_neg hki]
          rw [pos_at h hk, ← hsk, pos_at hnd (by omega)]
        · rw [pos_zero.2 hm, pos_zero.2 (fun hm' => hm ((swap_perm hi hj).mem_iff.1 hm'))]
  · rw [if_neg (by omega), if_neg (by omega), List.getElem?_eq_none (by rw [placesV_len]; omega), List.getElem?_eq_none (by rw [placesV_len]; omega)]

theorem RankOk.perm {L L' : List Nat} {sc : List Int} (h : RankOk L sc) (hp : L'.Perm L) : RankOk L' sc :=
  ⟨h.many, hp.nodup_iff.2 h.once, fun v hv => h.there v (hp.mem_iff.1 hv), h.range⟩

theorem qSwap (H : Sep w0 w l) (hm : rankR b L sc ∈ l) {i j : Nat} (hi : i < L.length) (hj : j < L.length) : Does Tryz.prog 166 #[.pointer (some ⟨b, 0, none⟩), .int .i64 i, .int .i64 j] w fun v w' => v = .tuple #[] ∧ SepU w0 w' l (rankR b L sc) (rankR b (swap L i j) sc) := by
  obtain ⟨hok, al, cl, ap, cp, aq, cq, r, hp, H⟩ := rankOpen H hm
  have gi := listV_get hi
  have gj := listV_get hj
  have hlen := hok.len
  have hmany := hok.many
  obtain ⟨bl, rfl⟩ := (H.ownM (hm := .tail _ (.head _))).some (by omega)
  obtain ⟨bp, rfl⟩ := (H.ownM (hm := .tail _ (.tail _ (.head _)))).some (by omega)
  refine Does_intro tok (Tryz.call166 _ _) Tryz.func166 rfl (by rfl) ?_
  refine Draw_intro mixed [0, 1, 2, 3, 4, 5, 6, 7, 8, 9, 10, 11, 12, 13, 14, 15, 16, 17, 18, 19, 20, 21, 22, 23, 24, 25, 26, 27] (by decide +kernel) (fun w _ fd => ?_); replace H := H.fr fd; clear fd
  (repeat first | refine go ?_ | ((try conv => whnf); (first | (refine St_gate ?_; refine xS ?_) | (refine StN_gate ?_; refine xN ?_)); clear H; intro w H))
  refine Ix_in j rfl hj ?_
  refine Ld_mO H mm gj ?_
  (repeat first | refine go ?_ | ((try conv => whnf); (first | (refine St_gate ?_; refine xS ?_) | (refine StN_gate ?_; refine xN ?_)); clear H; intro w H))
  refine Ix_in i rfl hi ?_
  refine Ld_mO H mm gi ?_
  (repeat first | refine go ?_ | ((try conv => whnf); (first | (refine St_gate ?_; refine xS ?_) | (refine StN_gate ?_; refine xN ?_)); clear H; intro w H))
  refine Ix_in i rfl hi ?_
  refine St_uO H (by repeat first | exact Upd.head | apply Upd.tail) rfl (by rw [listV_len]; exact hi) rfl ?_
  clear H; intro w H
  (repeat first | refine go ?_ | ((try conv => whnf); (first | (refine St_gate ?_; refine xS ?_) | (refine StN_gate ?_; refine xN ?_)); clear H; intro w H))
  refine Ix_in j rfl hj ?_
  refine St_uO H (by repeat first | exact Upd.head | apply Upd.tail) rfl (by rw [List.length_set, listV_len]; exact hj) (listV_swap L i j) ?_
  clear H; intro w H
  (repeat first | refine go ?_ | ((try conv => whnf); (first | (refine St_gate ?_; refine xS ?_) | (refine StN_gate ?_; refine xN ?_)); clear H; intro w H))
  have hsl := swap_len L i j
  have hok' := hok.perm (swap_perm hi hj)
  have gi' := listV_get (L := swap L i j) (i := i) (by omega)
  have gj' := listV_get (L := swap L i j) (i := j) (by omega)
  have ti := (hok'.there _ (at_mem (L := swap L i j) (i := i) (by omega))).2
  have tj := (hok'.there _ (at_mem (L := swap L i j) (i := j) (by omega))).2
  refine Draw_intro mixed [0, 1, 2, 3, 4, 5, 6, 7, 8, 9, 10, 11, 12, 13, 14, 15, 16, 17, 18, 19, 20, 21, 22, 23, 24, 25, 26, 27, 28, 29] (by decide +kernel) (fun w _ fd => ?_); replace H := H.fr fd; clear fd
  (repeat first | refine go ?_ | ((try conv => whnf); (first | (refine St_gate ?_; refine xS ?_) | (refine StN_gate ?_; refine xN ?_)); clear H; intro w H))
  refine Ix_in i rfl hi ?_
  refine Ld_mO H mm gi' ?_
  (repeat first | refine go ?_ | ((try conv => whnf); (first | (refine St_gate ?_; refine xS ?_) | (refine StN_gate ?_; refine xN ?_)); clear H; intro w H))
  refine Ix_in j rfl hj ?_
  refine Ld_mO H mm gj' ?_
  (repeat first | refine go ?_ | ((try conv => whnf); (first | (refine St_gate ?_; refine xS ?_) | (refine StN_gate ?_; refine xN ?_)); clear H; intro w H))
  refine Ix_in _ rfl ti ?_
  refine St_uO H (by repeat first | exact Upd.head | apply Upd.tail) rfl (by rw [placesV_len]; exact ti) rfl ?_
  clear H; intro w H
  (repeat first | refine go ?_ | ((try conv => whnf); (first | (refine St_gate ?_; refine xS ?_) | (refine StN_gate ?_; refine xN ?_)); clear H; intro w H))
  refine Ix_in _ rfl tj ?_
  refine St_uO H (by repeat first | exact Upd.head | apply Upd.tail) rfl (by rw [List.length_set, placesV_len]; exact tj) (placesV_swap hok.once hi hj fun v hv => (hok.there v hv).2) ?_
  clear H; intro w H
  (repeat first | refine go ?_ | ((try conv => whnf); (first | (refine St_gate ?_; refine xS ?_) | (refine StN_gate ?_; refine xN ?_)); clear H; intro w H))
  rw [← hsl] at H
  exact Ret_in ⟨rfl, SepU.mk hp (rankClose hok' H)⟩

theorem listV_app (L : List Nat) (v : Nat) : listV L ++ [.int .i64 (v : Int)] = listV (L ++ [v]) := by simp [listV]

theorem pos_app {L : List Nat} {v u : Nat} (hv : v ∉ L) : pos (L ++ [v]) u = if u = v then L.length + 1 else pos L u := by
  unfold pos
  by_cases h : u = v
  · subst h
    rw [if_pos (by simp), if_pos rfl, List.idxOf_append, if_neg hv]; simp
  · rw [if_neg h]
    by_cases hu : u ∈ L
    · rw [if_pos (by simp [hu]), if_pos hu, List.idxOf_append, if_pos hu]
    · rw [if_neg (by simp [hu, h]), if_neg hu]

theorem placesV_app {L : List Nat} {v n : Nat} (hv : v ∉ L) (hn : v < n) : (placesV L n).set v (.int .i64 ((L.length + 1 : Nat) : Int)) = placesV (L ++ [v]) n := by
  apply List.ext_getElem?
  intro u
  rw [List.getElem?_set, placesV_len]
  by_cases hu : u < n
  · rw [placesV_get hu, placesV_get hu, pos_app hv]
    by_cases e : v = u
    · subst e; simp [hn]
    · rw [if_neg e, if_neg (fun h => e h.symm)]
  · rw [if_neg (by omega), List.getElem?_eq_none (by rw [placesV_len]; omega), List.getElem?_eq_none (by rw [placesV_len]; omega)]

theorem qPush (H : Sep w0 w l) (hm : rankR b L sc ∈ l) {v : Nat} (hv : v ∉ L) (hv0 : 0 < v) (hvn : v < sc.length) : Does Tryz.prog 165 #[.pointer (some ⟨b, 0, none⟩), .iface 3 (.int .i64 v)] w fun r w' => r = .tuple #[] ∧ SepU w0 w' l (rankR b L sc) (rankR b (L ++ [v]) sc) := by
  obtain ⟨hok, al, cl, ap, cp, aq, cq, r, hp, H⟩ := rankOpen H hm
  have hlen := hok.len
  have hmany := hok.many
  obtain ⟨bp, rfl⟩ := (H.ownM (hm := .tail _ (.tail _ (.head _)))).some (by omega)
  have hok' : RankOk (L ++ [v]) sc := ⟨hok.many, by rw [List.nodup_append]; exact ⟨hok.once, by simp, fun a ha c hc => by simp at hc; subst hc; rintro rfl; exact hv ha⟩, fun u hu => by
    rcases List.mem_append.1 hu with hu | hu
    · exact hok.there u hu
    · simp at hu; subst hu; exact ⟨hv0, hvn⟩, hok.range⟩
  refine Does_intro tok (Tryz.call165 _ _) Tryz.func165 rfl (by rfl) ?_
  refine Do_assert tok rfl rfl ?_
  (repeat first | refine go ?_ | ((try conv => whnf); (first | (refine St_gate ?_; refine xS ?_) | (refine StN_gate ?_; refine xN ?_)); clear H; intro w H))
  (refine Nw_sep H ?_; clear H; intro bn w H; (try simp only [Value.cells, List.toList_toArray, List.append_nil, List.cons_append, List.nil_append] at H))
  (refine DoN_gate ?_; refine append_one tok H rfl rfl rfl rfl rfl (by decide) mm (m := 1) rfl (by simp [oneCell]) (by omega) (by unfold maxLen; omega) ?_; clear H; intro a2 c2 w H; replace H := H _ (by repeat first | exact Upd.head | apply Upd.tail))
  (repeat first | refine go ?_ | ((try conv => whnf); (first | (refine St_gate ?_; refine xS ?_) | (refine StN_gate ?_; refine xN ?_)); clear H; intro w H))
  refine Draw_intro mixed [0, 1, 2, 3, 4, 5, 6, 7, 8, 9, 10, 11] (by decide +kernel) (fun w _ fd => ?_); replace H := H.fr fd; clear fd
  (repeat first | refine go ?_ | ((try conv => whnf); (first | (refine St_gate ?_; refine xS ?_) | (refine StN_gate ?_; refine xN ?_)); clear H; intro w H))
  refine Ix_in v rfl hvn ?_
  refine St_uO H (by repeat first | exact Upd.head | apply Upd.tail) rfl (by rw [placesV_len]; exact hvn) (placesV_app hv hvn) ?_
  clear H; intro w H
  (repeat first | refine go ?_ | ((try conv => whnf); (first | (refine St_gate ?_; refine xS ?_) | (refine StN_gate ?_; refine xN ?_)); clear H; intro w H))
  rw [listV_app] at H
  have e : L.length + 1 = (L ++ [v]).length := by simp
  rw [e] at H
  exact Ret_in ⟨rfl, SepU.mk hp (rankClose hok' H)⟩

theorem at_last {L : List Nat} (h : 0 < L.length) : L = L.dropLast ++ [at_ L (L.length - 1)] := by
  have hne : L ≠ [] := fun e => by rw [e] at h; simp at h
  have : at_ L (L.length - 1) = L.getLast hne := by
    unfold at_
    rw [List.getD_eq_getElem?_getD, List.getElem?_eq_getElem (by omega), List.getLast_eq_getElem]; rfl
  rw [this, List.dropLast_concat_getLast]

theorem placesV_drop {L : List Nat} {v n : Nat} (hv : v ∉ L) (hn : v < n) : (placesV (L ++ [v]) n).set v (.int .i64 0) = placesV L n := by
  apply List.ext_getElem?
  intro u
  rw [List.getElem?_set, placesV_len]
  by_cases hu : u < n
  · rw [placesV_get hu, placesV_get hu, pos_app hv]
    by_cases e : v = u
    · subst e; rw [if_pos rfl, if_pos hn, pos_zero.2 hv]; rfl
    · rw [if_neg e, if_neg (fun h => e h.symm)]
  · rw [if_neg (by omega), List.getElem?_eq_none (by rw [placesV_len]; omega), List.getElem?_eq_none (by rw [placesV_len]; omega)]

theorem Sep.cutRow {w0 w : World} {l l' : List Res} {a : Option Addr} {n cap el : Nat} {xs ys : List Value} {k : Nat} (H : Sep w0 w l) (u : Upd (ownR a n cap el 1 xs) (ownR a k cap el 1 ys) l l') (hk : k ≤ n) (hy : xs.take k = ys) : Sep w0 w l' := by
  obtain ⟨r, hp, hp'⟩ := u.cut
  refine Sep.perm ((H.perm hp).head (R' := ownR a k cap el 1 ys) fun S hS => ⟨hS.1, ?_⟩) hp'.symm
  have := hS.2.cut hk
  rw [Nat.mul_one, hy] at this
  exact this

theorem qPop (H : Sep w0 w l) (hm : rankR b L sc ∈ l) (hpos : 0 < L.length) : Does Tryz.prog 164 #[.pointer (some ⟨b, 0, none⟩)] w fun r w' => r = .iface 3 (.int .i64 (at_ L (L.length - 1) : Int)) ∧ SepU w0 w' l (rankR b L sc) (rankR b L.dropLast sc) := by
  obtain ⟨hok, al, cl, ap, cp, aq, cq, r, hp, H⟩ := rankOpen H hm
  have hlen := hok.len
  have hmany := hok.many
  have hlast := at_last hpos
  have gi := listV_get (L := L) (i := L.length - 1) (by omega)
  have hth := hok.there _ (at_mem (L := L) (i := L.length - 1) (by omega))
  have hcap := (H.ownM (hm := .tail _ (.head _))).2.1
  obtain ⟨bl, rfl⟩ := (H.ownM (hm := .tail _ (.head _))).some (by omega)
  obtain ⟨bp, rfl⟩ := (H.ownM (hm := .tail _ (.tail _ (.head _)))).some (by omega)
  have hnd := hok.once
  have hnotin : at_ L (L.length - 1) ∉ L.dropLast := by
    rw [hlast, List.nodup_append] at hnd
    intro hm'
    exact hnd.2.2 _ hm' _ (by simp) rfl
  have hok' : RankOk L.dropLast sc := ⟨hok.many, hok.once.sublist (List.dropLast_sublist L), fun v hv => hok.there v ((List.dropLast_sublist L).subset hv), hok.range⟩
  have hpl : (placesV L sc.length).set (at_ L (L.length - 1)) (.int .i64 0) = placesV L.dropLast sc.length := by
    have := placesV_drop hnotin hth.2
    rw [← hlast] at this
    exact this
  have hlv : (listV L).take (L.length - 1) = listV L.dropLast := by
    unfold listV; rw [← List.map_take, List.dropLast_eq_take]
  generalize at_ L (L.length - 1) = v at *
  refine Does_intro tok (Tryz.call164 _ _) Tryz.func164 rfl (by rfl) ?_
  (repeat first | refine go ?_ | ((try conv => whnf); (first | (refine St_gate ?_; refine xS ?_) | (refine StN_gate ?_; refine xN ?_)); clear H; intro w H))
  refine Ix_in (L.length - 1) (by omega) (by omega) ?_
  refine Ld_mO H mm gi ?_
  refine Draw_intro mixed [0, 1, 2, 3, 4, 5, 6, 7, 8, 9, 10, 11, 12, 13, 14, 15, 16] (by decide +kernel) (fun w _ fd => ?_); replace H := H.fr fd; clear fd
  (repeat first | refine go ?_ | ((try conv => whnf); (first | (refine St_gate ?_; refine xS ?_) | (refine StN_gate ?_; refine xN ?_)); clear H; intro w H))
  have ec : ((L.length - 1 : Nat) : Int) = (L.length : Int) - 1 := by omega
  refine DoS_slice tok rfl rfl 0 (L.length - 1) (.inl ⟨rfl, rfl⟩) (.inr ⟨.i64, by rw [ec]⟩) (by omega) (by omega) (fun J hJ => ?_)
  rw [add_zero_map]
  (repeat first | refine go ?_ | ((try conv => whnf); (first | (refine St_gate ?_; refine xS ?_) | (refine StN_gate ?_; refine xN ?_)); clear H; intro w H))
  repeat (first | refine Kept_in (hJ _) ?_)
  (repeat first | refine go ?_ | ((try conv => whnf); (first | (refine St_gate ?_; refine xS ?_) | (refine StN_gate ?_; refine xN ?_)); clear H; intro w H))
  refine Ix_in v rfl hth.2 ?_
  refine St_uO H (by repeat first | exact Upd.head | apply Upd.tail) rfl (by rw [placesV_len]; exact hth.2) hpl ?_
  clear H; intro w H
  (repeat first | refine go ?_ | ((try conv => whnf); (first | (refine St_gate ?_; refine xS ?_) | (refine StN_gate ?_; refine xN ?_)); clear H; intro w H))
  have H2 : Sep w0 w (cellsR b 86 [.slice (some ⟨bl, 0, none⟩) L.dropLast.length cl, .slice (some ⟨bp, 0, none⟩) sc.length cp, .slice aq sc.length cq] :: ownR (some ⟨bl, 0, none⟩) L.dropLast.length cl 3 1 (listV L.dropLast) ::
      ownR (some ⟨bp, 0, none⟩) sc.length cp 3 1 (placesV L.dropLast sc.length) :: ownR aq sc.length cq 2 1 (scoresV sc) :: r) := by
    rw [List.length_dropLast]
    exact Sep.cutRow H (.tail (.head)) (by omega) hlv
  exact Ret_in ⟨rfl, SepU.mk hp (rankClose hok' H2)⟩

/-! The same, by the interface -/
theorem iLen (v : Value) (args : Array Value) (w : World) : (callMethod (.iface 107 v) "Len" args).run Tryz.prog w = (callFunc 162 (#[v] ++ args)).run Tryz.prog w := callMethod_ptr (Tryz.typeInfo107 w) (by kernel_rfl) Tryz.underlying107
theorem iLess (v : Value) (args : Array Value) (w : World) : (callMethod (.iface 107 v) "Less" args).run Tryz.prog w = (callFunc 163 (#[v] ++ args)).run Tryz.prog w := callMethod_ptr (Tryz.typeInfo107 w) (by kernel_rfl) Tryz.underlying107
theorem iSwap (v : Value) (args : Array Value) (w : World) : (callMethod (.iface 107 v) "Swap" args).run Tryz.prog w = (callFunc 166 (#[v] ++ args)).run Tryz.prog w := callMethod_ptr (Tryz.typeInfo107 w) (by kernel_rfl) Tryz.underlying107
theorem iPush (v : Value) (args : Array Value) (w : World) : (callMethod (.iface 107 v) "Push" args).run Tryz.prog w = (callFunc 165 (#[v] ++ args)).run Tryz.prog w := callMethod_ptr (Tryz.typeInfo107 w) (by kernel_rfl) Tryz.underlying107
theorem iPop (v : Value) (args : Array Value) (w : World) : (callMethod (.iface 107 v) "Pop" args).run Tryz.prog w = (callFunc 164 (#[v] ++ args)).run Tryz.prog w := callMethod_ptr (Tryz.typeInfo107 w) (by kernel_rfl) Tryz.underlying107

/-- The value that the heap is handed. -/
def qV (b : Nat) : Value := .iface 107 (.pointer (some ⟨b, 0, none⟩))

theorem half_up (i : Nat) : ((i : Int) - 1).tdiv 2 = (par i : Nat) := by
  by_cases h : i = 0
  · subst h; decide
  · unfold par
    rw [Int.tdiv_eq_ediv_of_nonneg (by omega)]; omega

theorem heapUp (H : Sep w0 w l) (hm : rankR b L sc ∈ l) {j : Nat} (hj : j < L.length) : Does Tryz.prog 92 #[qV b, .int .i64 j] w fun r w' => r = .tuple #[] ∧ SepU w0 w' l (rankR b L sc) (rankR b (upL sc L j) sc) := by
  obtain ⟨r, hp⟩ := mem_cut hm
  have hok := rankOk H hm
  have hlen := hok.len
  have hmany := hok.many
  replace H := H.perm hp
  refine Does_intro tok (Tryz.call92 _ _) Tryz.func92 rfl (by rfl) ?_
  refine Loop_intro (fun s : List Nat × Nat => [(1, .int .i64 s.2)]) (fun s w => Sep w0 w (rankR b s.1 sc :: r) ∧ s.1.length = L.length ∧ s.2 < L.length ∧ upL sc s.1 s.2 = upL sc L j) (fun s => s.2) (L, j) ⟨rfl, trivial⟩ ⟨H, rfl, hj, rfl⟩ ?_
  clear H
  rintro ⟨M, i⟩ w ⟨H, hM, hi, he⟩
  simp only [] at H hM hi he ⊢
  (repeat first | refine go ?_ | ((try conv => whnf); (first | (refine St_gate ?_; refine xS ?_) | (refine StN_gate ?_; refine xN ?_)); clear H; intro w H))
  have hpi : par i ≤ i := by unfold par; omega
  have hpi' : i = 0 ∨ par i < i := by unfold par; omega
  refine Ar_is (par i : Nat) (by rw [half_up]; exact wrap_i64 (by omega) (by omega)) ?_
  refine Br_eq (fun k => ?_) (fun k => ?_)
  · (repeat first | refine go ?_ | ((try conv => whnf); (first | (refine St_gate ?_; refine xS ?_) | (refine StN_gate ?_; refine xN ?_)); clear H; intro w H))
    have hi0 : i = 0 := by unfold par at k; omega
    subst hi0
    have : upL sc M 0 = M := by unfold upL; simp
    rw [this] at he
    rw [← he]
    exact Ret_in ⟨rfl, SepU.mk hp H⟩
  · have hi0 : 0 < i := by
      rcases Nat.eq_zero_or_pos i with h | h
      · subst h; exact absurd rfl k
      · exact h
    have hu : upL sc M i = if lt sc (at_ M i) (at_ M (par i)) = true then upL sc (swap M (par i) i) (par i) else M := by
      rw [upL]; rw [dif_neg (by omega)]
    (repeat first | refine go ?_ | ((try conv => whnf); (first | (refine St_gate ?_; refine xS ?_) | (refine StN_gate ?_; refine xN ?_)); clear H; intro w H))
    refine DoN_method (iLess _ _ _) (qLess H (.head _) (show i < M.length by omega) (show par i < M.length by omega)) ?_
    clear H
    rintro _ w ⟨rfl, H⟩
    (repeat first | refine go ?_ | ((try conv => whnf); (first | (refine St_gate ?_; refine xS ?_) | (refine StN_gate ?_; refine xN ?_)); clear H; intro w H))
    refine Br_if (fun k2 => ?_) (fun k2 => ?_)
    · (repeat first | refine go ?_ | ((try conv => whnf); (first | (refine St_gate ?_; refine xS ?_) | (refine StN_gate ?_; refine xN ?_)); clear H; intro w H))
      refine DoN_method (iSwap _ _ _) (qSwap H (.head _) (show par i < M.length by omega) (show i < M.length by omega)) ?_
      clear H
      rintro _ w ⟨rfl, H⟩
      replace H := H _ .head
      (repeat first | refine go ?_ | ((try conv => whnf); (first | (refine St_gate ?_; refine xS ?_) | (refine StN_gate ?_; refine xN ?_)); clear H; intro w H))
      rw [if_pos k2] at hu
      exact ⟨(swap M (par i) i, par i), ⟨rfl, trivial⟩, ⟨H, by rw [swap_len]; exact hM, by simp only; omega, by rw [← he, hu]⟩, by simp only; omega⟩
    · (repeat first | refine go ?_ | ((try conv => whnf); (first | (refine St_gate ?_; refine xS ?_) | (refine StN_gate ?_; refine xN ?_)); clear H; intro w H))
      rw [if_neg (by rw [k2]; exact Bool.false_ne_true)] at hu
      rw [hu] at he
      rw [← he]
      exact Ret_in ⟨rfl, SepU.mk hp H⟩

theorem heapDown (H : Sep w0 w l) (hm : rankR b L sc ∈ l) {i n : Nat} (hn : n ≤ L.length) (hi : i < L.length) : Does Tryz.prog 131 #[qV b, .int .i64 i, .int .i64 n] w fun r w' =>
    r = .bool (decide (i < (downL sc L i n).2)) ∧ SepU w0 w' l (rankR b L sc) (rankR b (downL sc L i n).1 sc) := by
  obtain ⟨r, hp⟩ := mem_cut hm
  have hok := rankOk H hm
  have hlen := hok.len
  have hmany := hok.many
  replace H := H.perm hp
  refine Does_intro tok (Tryz.call131 _ _) Tryz.func131 rfl (by rfl) ?_
  refine Loop_intro (fun s : List Nat × Nat => [(7, .int .i64 s.2)]) (fun s w => Sep w0 w (rankR b s.1 sc :: r) ∧ s.1.length = L.length ∧ s.2 < L.length ∧ i ≤ s.2 ∧ downL sc s.1 s.2 n = downL sc L i n) (fun s => L.length - s.2) (L, i) ⟨rfl, trivial⟩ ⟨H, rfl, hi, Nat.le_refl _, rfl⟩ ?_
  clear H
  rintro ⟨M, q⟩ w ⟨H, hM, hq, hiq, he⟩
  simp only [] at H hM hq hiq he ⊢
  (repeat first | refine go ?_ | ((try conv => whnf); (first | (refine St_gate ?_; refine xS ?_) | (refine StN_gate ?_; refine xN ?_)); clear H; intro w H))
  refine Br_dec (fun k => ?_) (fun k => ?_)
  · (repeat first | refine go ?_ | ((try conv => whnf); (first | (refine St_gate ?_; refine xS ?_) | (refine StN_gate ?_; refine xN ?_)); clear H; intro w H))
    have hd : downL sc M q n = (M, q) := by rw [downL]; rw [dif_pos (by omega)]
    rw [hd] at he
    rw [← he]
    exact Ret_in ⟨vbool (by rw [decide_eq_decide]; simp only; omega), SepU.mk hp H⟩
  · (repeat (first | refine Br_true ?_ | refine Br_false ?_))
    have hd : downL sc M q n = if lt sc (at_ M (kid sc M q n)) (at_ M q) = true then downL sc (swap M q (kid sc M q n)) (kid sc M q n) n else (M, q) := by
      rw [downL]; rw [dif_neg (by omega)]
    have hk := kid_cases sc M q n
    (repeat (first | refine Br_true ?_ | refine Br_false ?_ | refine Ar_i64 (by omega) (by omega) ?_ | refine Eqv_in ?_ | refine Br_dec_yes (by omega) ?_ | refine Br_dec_no (by omega) ?_ | refine Br_eq_yes rfl ?_ | refine Br_ne_no rfl ?_ | refine Br_eq_yes (by omega) ?_ | refine Br_eq_no (by omega) ?_ | refine Br_ne_yes (by omega) ?_ | refine Br_ne_no (by omega) ?_ | refine Br_not ?_ | refine Join_dup (Br_dec_yes (by omega) ?_) | refine Join_dup (Br_dec_no (by omega) ?_) | refine Join_dup (Br_eq_yes (by omega) ?_) | refine Join_dup (Br_eq_no (by omega) ?_) | refine Join_dup (Br_ne_yes (by omega) ?_) | refine Join_dup (Br_ne_no (by omega) ?_) | refine Ar_i32 (by omega) (by omega) ?_ | refine Ar_u64 (by omega) (by omega) ?_ | refine Ar_u32 (by omega) (by omega) ?_ | refine Nn_in (by omega) ?_ | refine Nz_in (by omega) ?_))
    refine Br_dec (fun k2 => ?_) (fun k2 => ?_)
    · (repeat (first | refine Br_true ?_ | refine Br_false ?_))
      refine DoN_method (iLess _ _ _) (qLess H (.head _) (i := 2 * q + 2) (j := 2 * q + 1) (by omega) (by omega)) ?_
      clear H
      rintro _ w ⟨rfl, H⟩
      (repeat first | refine go ?_ | ((try conv => whnf); (first | (refine St_gate ?_; refine xS ?_) | (refine StN_gate ?_; refine xN ?_)); clear H; intro w H))
      refine Br_if (fun k4 => ?_) (fun k4 => ?_)
      · have hkid : kid sc M q n = 2 * q + 2 := by unfold kid; rw [if_pos ⟨by omega, k4⟩]
        (repeat first | refine go ?_ | ((try conv => whnf); (first | (refine St_gate ?_; refine xS ?_) | (refine StN_gate ?_; refine xN ?_)); clear H; intro w H))
        refine DoN_method (iLess _ _ _) (qLess H (.head _) (i := 2 * q + 2) (j := q) (by omega) (by omega)) ?_
        clear H
        rintro _ w ⟨rfl, H⟩
        (repeat first | refine go ?_ | ((try conv => whnf); (first | (refine St_gate ?_; refine xS ?_) | (refine StN_gate ?_; refine xN ?_)); clear H; intro w H))
        refine Br_if (fun k3 => ?_) (fun k3 => ?_)
        · rw [hkid, if_pos k3] at hd
          (repeat first | refine go ?_ | ((try conv => whnf); (first | (refine St_gate ?_; refine xS ?_) | (refine StN_gate ?_; refine xN ?_)); clear H; intro w H))
          refine DoN_method (iSwap _ _ _) (qSwap H (.head _) (i := q) (j := 2 * q + 2) (by omega) (by omega)) ?_
          clear H
          rintro _ w ⟨rfl, H⟩
          replace H := H _ .head
          (repeat first | refine go ?_ | ((try conv => whnf); (first | (refine St_gate ?_; refine xS ?_) | (refine StN_gate ?_; refine xN ?_)); clear H; intro w H))
          exact ⟨(swap M q (2 * q + 2), 2 * q + 2), ⟨rfl, trivial⟩, ⟨H, by rw [swap_len]; exact hM, by simp only; omega, by simp only; omega, by rw [← he, hd]⟩, by simp only; omega⟩
        · rw [hkid, if_neg (by rw [k3]; exact Bool.false_ne_true)] at hd
          (repeat first | refine go ?_ | ((try conv => whnf); (first | (refine St_gate ?_; refine xS ?_) | (refine StN_gate ?_; refine xN ?_)); clear H; intro w H))
          rw [hd] at he
          rw [← he]
          exact Ret_in ⟨vbool (by rw [decide_eq_decide]; simp only; omega), SepU.mk hp H⟩
      · have hkid : kid sc M q n = 2 * q + 1 := by unfold kid; rw [if_neg (fun h => by rw [k4] at h; cases h.2)]
        (repeat first | refine go ?_ | ((try conv => whnf); (first | (refine St_gate ?_; refine xS ?_) | (refine StN_gate ?_; refine xN ?_)); clear H; intro w H))
        refine DoN_method (iLess _ _ _) (qLess H (.head _) (i := 2 * q + 1) (j := q) (by omega) (by omega)) ?_
        clear H
        rintro _ w ⟨rfl, H⟩
        (repeat first | refine go ?_ | ((try conv => whnf); (first | (refine St_gate ?_; refine xS ?_) | (refine StN_gate ?_; refine xN ?_)); clear H; intro w H))
        refine Br_if (fun k3 => ?_) (fun k3 => ?_)
        · rw [hkid, if_pos k3] at hd
          (repeat first | refine go ?_ | ((try conv => whnf); (first | (refine St_gate ?_; refine xS ?_) | (refine StN_gate ?_; refine xN ?_)); clear H; intro w H))
          refine DoN_method (iSwap _ _ _) (qSwap H (.head _) (i := q) (j := 2 * q + 1) (by omega) (by omega)) ?_
          clear H
          rintro _ w ⟨rfl, H⟩
          replace H := H _ .head
          (repeat first | refine go ?_ | ((try conv => whnf); (first | (refine St_gate ?_; refine xS ?_) | (refine StN_gate ?_; refine xN ?_)); clear H; intro w H))
          exact ⟨(swap M q (2 * q + 1), 2 * q + 1), ⟨rfl, trivial⟩, ⟨H, by rw [swap_len]; exact hM, by simp only; omega, by simp only; omega, by rw [← he, hd]⟩, by simp only; omega⟩
        · rw [hkid, if_neg (by rw [k3]; exact Bool.false_ne_true)] at hd
          (repeat first | refine go ?_ | ((try conv => whnf); (first | (refine St_gate ?_; refine xS ?_) | (refine StN_gate ?_; refine xN ?_)); clear H; intro w H))
          rw [hd] at he
          rw [← he]
          exact Ret_in ⟨vbool (by rw [decide_eq_decide]; simp only; omega), SepU.mk hp H⟩
    · have hkid : kid sc M q n = 2 * q + 1 := by unfold kid; rw [if_neg (fun h => by omega)]
      (repeat first | refine go ?_ | ((try conv => whnf); (first | (refine St_gate ?_; refine xS ?_) | (refine StN_gate ?_; refine xN ?_)); clear H; intro w H))
      refine DoN_method (iLess _ _ _) (qLess H (.head _) (i := 2 * q + 1) (j := q) (by omega) (by omega)) ?_
      clear H
      rintro _ w ⟨rfl, H⟩
      (repeat first | refine go ?_ | ((try conv => whnf); (first | (refine St_gate ?_; refine xS ?_) | (refine StN_gate ?_; refine xN ?_)); clear H; intro w H))
      refine Br_if (fun k3 => ?_) (fun k3 => ?_)
      · rw [hkid, if_pos k3] at hd
        (repeat first | refine go ?_ | ((try conv => whnf); (first | (refine St_gate ?_; refine xS ?_) | (refine StN_gate ?_; refine xN ?_)); clear H; intro w H))
        refine DoN_method (iSwap _ _ _) (qSwap H (.head _) (i := q) (j := 2 * q + 1) (by omega) (by omega)) ?_
        clear H
        rintro _ w ⟨rfl, H⟩
        replace H := H _ .head
        (repeat first | refine go ?_ | ((try conv => whnf); (first | (refine St_gate ?_; refine xS ?_) | (refine StN_gate ?_; refine xN ?_)); clear H; intro w H))
        exact ⟨(swap M q (2 * q + 1), 2 * q + 1), ⟨rfl, trivial⟩, ⟨H, by rw [swap_len]; exact hM, by simp only; omega, by simp only; omega, by rw [← he, hd]⟩, by simp only; omega⟩
      · rw [hkid, if_neg (by rw [k3]; exact Bool.false_ne_true)] at hd
        (repeat first | refine go ?_ | ((try conv => whnf); (first | (refine St_gate ?_; refine xS ?_) | (refine StN_gate ?_; refine xN ?_)); clear H; intro w H))
        rw [hd] at he
        rw [← he]
        exact Ret_in ⟨vbool (by rw [decide_eq_decide]; simp only; omega), SepU.mk hp H⟩


theorem heapPush (H : Sep w0 w l) (hm : rankR b L sc ∈ l) {v : Nat} (hv : v ∉ L) (hv0 : 0 < v) (hvn : v < sc.length) : Does Tryz.prog 64 #[qV b, .iface 3 (.int .i64 v)] w fun r w' => r = .tuple #[] ∧ SepU w0 w' l (rankR b L sc) (rankR b (upL sc (L ++ [v]) L.length) sc) := by
  obtain ⟨r, hp⟩ := mem_cut hm
  have hok := rankOk H hm
  have hlen := hok.len
  have hmany := hok.many
  replace H := H.perm hp
  refine Does_intro tok (Tryz.call64 _ _) Tryz.func64 rfl (by rfl) ?_
  refine DoN_method (iPush _ _ _) (qPush H (.head _) hv hv0 hvn) ?_
  clear H
  rintro _ w ⟨rfl, H⟩
  replace H := H _ .head
  have hl : (L ++ [v]).length = L.length + 1 := by simp
  (repeat first | refine go ?_ | ((try conv => whnf); (first | (refine St_gate ?_; refine xS ?_) | (refine StN_gate ?_; refine xN ?_)); clear H; intro w H))
  refine DoN_method (iLen _ _ _) (qLen H (.head _)) ?_
  rintro _ _ ⟨rfl, rfl⟩
  rw [hl]
  refine Ar_is (L.length : Nat) (by rw [show ((L.length + 1 : Nat) : Int) - 1 = L.length by omega]; exact wrap_i64 (by omega) (by omega)) ?_
  refine Call_of (heapUp H (.head _) (j := L.length) (by omega)) ?_
  clear H
  rintro _ w ⟨rfl, H⟩
  replace H := H _ .head
  exact Ret_in ⟨rfl, SepU.mk hp H⟩

theorem heapPop (H : Sep w0 w l) (hm : rankR b L sc ∈ l) (hpos : 0 < L.length) : Does Tryz.prog 113 #[qV b] w fun r w' => r = .iface 3 (.int .i64 (at_ L 0 : Int)) ∧
    SepU w0 w' l (rankR b L sc) (rankR b (downL sc (swap L 0 (L.length - 1)) 0 (L.length - 1)).1.dropLast sc) := by
  obtain ⟨r, hp⟩ := mem_cut hm
  have hok := rankOk H hm
  have hlen := hok.len
  have hmany := hok.many
  replace H := H.perm hp
  have ec : ((L.length - 1 : Nat) : Int) = (L.length : Int) - 1 := by omega
  have hsl := swap_len L 0 (L.length - 1)
  refine Does_intro tok (Tryz.call113 _ _) Tryz.func113 rfl (by rfl) ?_
  (repeat first | refine go ?_ | ((try conv => whnf); (first | (refine St_gate ?_; refine xS ?_) | (refine StN_gate ?_; refine xN ?_)); clear H; intro w H))
  refine DoN_method (iLen _ _ _) (qLen H (.head _)) ?_
  rintro _ _ ⟨rfl, rfl⟩
  refine Ar_is (L.length - 1 : Nat) (by rw [ec]; exact wrap_i64 (by omega) (by omega)) ?_
  (repeat first | refine go ?_ | ((try conv => whnf); (first | (refine St_gate ?_; refine xS ?_) | (refine StN_gate ?_; refine xN ?_)); clear H; intro w H))
  refine DoN_method (iSwap _ _ _) (qSwap H (.head _) (i := 0) (j := L.length - 1) (by omega) (by omega)) ?_
  clear H
  rintro _ w ⟨rfl, H⟩
  replace H := H _ .head
  refine Call_of (heapDown H (.head _) (i := 0) (n := L.length - 1) (by omega) (by omega)) ?_
  clear H
  rintro _ w ⟨rfl, H⟩
  replace H := H _ .head
  have hdl := downL_len sc (swap L 0 (L.length - 1)) 0 (L.length - 1)
  have hlast : at_ (downL sc (swap L 0 (L.length - 1)) 0 (L.length - 1)).1 ((downL sc (swap L 0 (L.length - 1)) 0 (L.length - 1)).1.length - 1) = at_ L 0 := by
    rw [hdl, hsl, downL_high (by omega) _ (Nat.le_refl _), swap_at (by omega) (by omega), if_pos rfl]
  (repeat first | refine go ?_ | ((try conv => whnf); (first | (refine St_gate ?_; refine xS ?_) | (refine StN_gate ?_; refine xN ?_)); clear H; intro w H))
  refine DoN_method (iPop _ _ _) (qPop H (.head _) (by omega)) ?_
  clear H
  rintro _ w ⟨rfl, H⟩
  replace H := H _ .head
  rw [hlast]
  exact Ret_in ⟨rfl, SepU.mk hp H⟩

def fixL (sc : List Int) (L : List Nat) (i : Nat) : List Nat := if i < (downL sc L i L.length).2 then (downL sc L i L.length).1 else upL sc (downL sc L i L.length).1 i

theorem heapFix (H : Sep w0 w l) (hm : rankR b L sc ∈ l) {i : Nat} (hi : i < L.length) : Does Tryz.prog 101 #[qV b, .int .i64 i] w fun r w' => r = .tuple #[] ∧ SepU w0 w' l (rankR b L sc) (rankR b (fixL sc L i) sc) := by
  obtain ⟨r, hp⟩ := mem_cut hm
  replace H := H.perm hp
  have hdl := downL_len sc L i L.length
  unfold fixL
  refine Does_intro tok (Tryz.call101 _ _) Tryz.func101 rfl (by rfl) ?_
  refine DoN_method (iLen _ _ _) (qLen H (.head _)) ?_
  rintro _ _ ⟨rfl, rfl⟩
  refine Call_of (heapDown H (.head _) (i := i) (n := L.length) (by omega) hi) ?_
  clear H
  rintro _ w ⟨rfl, H⟩
  replace H := H _ .head
  refine Join_dup (Br_not (Br_dec (fun k => ?_) (fun k => ?_)))
  · rw [if_pos k]
    exact Ret_in ⟨rfl, SepU.mk hp H⟩
  · rw [if_neg k]
    (repeat first | refine go ?_ | ((try conv => whnf); (first | (refine St_gate ?_; refine xS ?_) | (refine StN_gate ?_; refine xN ?_)); clear H; intro w H))
    refine Call_of (heapUp H (.head _) (j := i) (by omega)) ?_
    clear H
    rintro _ w ⟨rfl, H⟩
    replace H := H _ .head
    exact Ret_in ⟨rfl, SepU.mk hp H⟩

theorem heapInit (H : Sep w0 w l) (hm : rankR b L sc ∈ l) : Does Tryz.prog 102 #[qV b] w fun r w' => r = .tuple #[] ∧ SepU w0 w' l (rankR b L sc) (rankR b (initL sc L.length (L.length / 2) L) sc) := by
  obtain ⟨r, hp⟩ := mem_cut hm
  have hok := rankOk H hm
  have hlen := hok.len
  have hmany := hok.many
  replace H := H.perm hp
  refine Does_intro tok (Tryz.call102 _ _) Tryz.func102 rfl (by rfl) ?_
  refine DoN_method (iLen _ _ _) (qLen H (.head _)) ?_
  rintro _ _ ⟨rfl, rfl⟩
  have e2 : ((L.length : Int)).tdiv 2 = (L.length / 2 : Nat) := by rw [Int.tdiv_eq_ediv_of_nonneg (by omega)]; omega
  (repeat first | refine go ?_ | ((try conv => whnf); (first | (refine St_gate ?_; refine xS ?_) | (refine StN_gate ?_; refine xN ?_)); clear H; intro w H))
  rw [e2]
  refine Loop_intro (fun s : List Nat × Nat => [(3, .int .i64 ((s.2 : Int) - 1))]) (fun s w => Sep w0 w (rankR b s.1 sc :: r) ∧ s.1.length = L.length ∧ 2 * s.2 ≤ L.length ∧ initL sc L.length s.2 s.1 = initL sc L.length (L.length / 2) L) (fun s => s.2) (L, L.length / 2) ⟨rfl, trivial⟩ ⟨H, rfl, by simp only; omega, rfl⟩ ?_
  clear H
  rintro ⟨M, q⟩ w ⟨H, hM, hq, he⟩
  simp only [] at H hM hq he ⊢
  (repeat first | refine go ?_ | ((try conv => whnf); (first | (refine St_gate ?_; refine xS ?_) | (refine StN_gate ?_; refine xN ?_)); clear H; intro w H))
  refine Br_dec (fun k => ?_) (fun k => ?_)
  · obtain ⟨p, rfl⟩ : ∃ p, q = p + 1 := ⟨q - 1, by omega⟩
    have ep : ((p + 1 : Nat) : Int) - 1 = p := by omega
    rw [ep]
    (repeat first | refine go ?_ | ((try conv => whnf); (first | (refine St_gate ?_; refine xS ?_) | (refine StN_gate ?_; refine xN ?_)); clear H; intro w H))
    refine Call_of (heapDown H (.head _) (i := p) (n := L.length) (by omega) (by omega)) ?_
    clear H
    rintro _ w ⟨rfl, H⟩
    replace H := H _ .head
    (repeat first | refine go ?_ | ((try conv => whnf); (first | (refine St_gate ?_; refine xS ?_) | (refine StN_gate ?_; refine xN ?_)); clear H; intro w H))
    exact ⟨((downL sc M p L.length).1, p), ⟨rfl, trivial⟩, ⟨H, by rw [downL_len]; exact hM, by simp only; omega, by rw [← he]; rfl⟩, by simp only; omega⟩
  · obtain rfl : q = 0 := by omega
    have : initL sc L.length 0 M = M := rfl
    rw [this] at he
    rw [← he]
    exact Ret_in ⟨rfl, SepU.mk hp H⟩
end
end Go.Proofs.YtcibiidebknkgaaGreat
