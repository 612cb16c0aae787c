/- A graph is made; its inputs, its parts. -/
import Derived.Test.YtpllmfoaahaciaaGateX
namespace Go.Proofs.Ytpllmfoaahaciaa
open Go Go.Vc Go.Gate
set_option linter.unusedVariables false
set_option linter.unusedSimpArgs false
set_option maxHeartbeats 4000000
set_option maxRecDepth 100000

/-- A row turned round. -/
def swapped (zs : List Value) (i : Nat) : List Value := zs.reverse.take i ++ (zs.drop i).take (zs.length - 2 * i) ++ zs.reverse.drop (zs.length - i)

theorem swapped_len {zs : List Value} {i : Nat} (h : 2 * i ≤ zs.length) : (swapped zs i).length = zs.length := by simp [swapped]; omega

theorem swapped_get {zs : List Value} {i j : Nat} (h : 2 * i ≤ zs.length) (hj : j < zs.length) : (swapped zs i)[j]? = if j < i ∨ zs.length - i ≤ j then zs[zs.length - 1 - j]? else zs[j]? := by
  unfold swapped
  by_cases h1 : j < i
  · rw [if_pos (.inl h1), List.append_assoc, List.getElem?_append_left (by simp; omega), List.getElem?_take, if_pos h1, List.getElem?_reverse hj]
  · by_cases h2 : zs.length - i ≤ j
    · rw [if_pos (.inr h2), List.getElem?_append_right (by simp; omega), List.getElem?_drop]
      have : zs.length - i + (j - (zs.reverse.take i ++ (zs.drop i).take (zs.length - 2 * i)).length) = j := by simp; omega
      rw [this, List.getElem?_reverse hj]
    · rw [if_neg (by omega), List.getElem?_append_left (by simp; omega), List.getElem?_append_right (by simp; omega), List.getElem?_take, if_pos (by simp; omega), List.getElem?_drop]
      congr 1
      simp; omega

theorem swapped_next {zs : List Value} {i : Nat} {x y : Value} (h : 2 * i + 1 < zs.length) (hx : zs[i]? = some x) (hy : zs[zs.length - 1 - i]? = some y) :
    ((swapped zs i).set i y).set (zs.length - 1 - i) x = swapped zs (i + 1) := by
  apply List.ext_getElem?
  intro j
  by_cases hj : j < zs.length
  · rw [swapped_get (by omega) hj, List.getElem?_set, List.getElem?_set, List.length_set, swapped_len (by omega), swapped_get (by omega) hj]
    by_cases h1 : zs.length - 1 - i = j
    · rw [if_pos h1, if_pos (by omega), if_pos (by omega), ← hx]; congr 1; omega
    · rw [if_neg h1]
      by_cases h2 : i = j
      · rw [if_pos h2, if_pos (by omega), if_pos (by omega), ← hy]; congr 1; omega
      · rw [if_neg h2]
        by_cases h3 : j < i ∨ zs.length - i ≤ j
        · rw [if_pos h3, if_pos (by omega)]
        · rw [if_neg h3, if_neg (by omega)]
  · rw [List.getElem?_eq_none (by simp [swapped_len (show 2 * i ≤ zs.length by omega)]; omega), List.getElem?_eq_none (by rw [swapped_len (by omega)]; omega)]

theorem swapped_all {zs : List Value} {i : Nat} (h : 2 * i ≤ zs.length) (h2 : zs.length ≤ 2 * i + 1) : swapped zs i = zs.reverse := by
  apply List.ext_getElem?
  intro j
  by_cases hj : j < zs.length
  · rw [swapped_get h hj, List.getElem?_reverse hj]
    split
    · rfl
    · congr 1; omega
  · rw [List.getElem?_eq_none (by rw [swapped_len h]; omega), List.getElem?_eq_none (by simp; omega)]


theorem reverseI {w0 w : World} {l : List Res} {a : Option Addr} {m c : Nat} {zs : List Value} (H : Sep w0 w l) (hm : ownR a m c 3 1 zs ∈ l) (hone : ∀ u ∈ zs, ∃ x, u = .int .i64 x) (hmax : m ≤ 1000000000) : Does Try.prog 35 #[.slice a m c] w fun v w' =>
    v = .tuple #[] ∧ SepU w0 w' l (ownR a m c 3 1 zs) (ownR a m c 3 1 zs.reverse) := by
  have hl : zs.length = m := by have := (H.ownM hm).1; omega
  have hA := H.ownM hm
  obtain ⟨r, hp⟩ := mem_cut hm
  replace H := H.perm hp
  refine Does_intro tok (Try.call35 _ _) Try.func35 rfl (by rfl) ?_
  (repeat ((try conv => whnf); first | refine Join_dup ?_ | (refine Br_gate ?_; first | with_reducible refine Br_not ?_ | refine xB ?_ | refine xC ?_) | (refine Ld_gate ?_; refine xL ?_) | (refine LdN_gate ?_; refine xM ?_) | (refine St_gate ?_; refine xS ?_; clear H; intro w H) | (refine StN_gate ?_; refine xN ?_; clear H; intro w H) | (refine Kept_gate ?_; refine xK ?_) | (refine Ar_gate ?_; first | (with_reducible refine Ar_halfU (by omega) ?_) | refine xA ?_) | (first | with_reducible refine Eqv_flip (by omega) ?_ | with_reducible refine Eqv_odd ?_ | refine Eqv_in ?_) | refine Do_ptr_eq_nil tok rfl ?_ | refine Do_ptr_ne_nil tok rfl ?_ | refine Do_nil_eq_nil tok rfl ?_ | refine Nn_in (by omega) ?_ | refine Nz_in (by omega) ?_))
  refine Loop_intro (fun i : Nat => [(2, .int .i64 i), (3, .int .i64 ((m : Int) - 1 - i))]) (fun i w' => Sep w0 w' (ownR a m c 3 1 (swapped zs i) :: r) ∧ 2 * i ≤ m) (fun i => m - i) 0 ⟨rfl, ?_, trivial⟩ ⟨?_, by omega⟩ ?_
  · exact congrArg some (vint (by omega))
  · have : swapped zs 0 = zs := by simp [swapped]
    rw [this]; exact H
  clear H
  rintro i w ⟨H, hi⟩
  refine Br_dec (fun k => ?_) (fun k => ?_)
  · obtain ⟨b, rfl⟩ := hA.some (by omega)
    have hgx : (swapped zs i)[i]? = zs[i]? := by rw [swapped_get (by omega) (by omega), if_neg (by omega)]
    have hgy : (swapped zs i)[m - 1 - i]? = zs[m - 1 - i]? := by rw [swapped_get (by omega) (by omega), if_neg (by omega)]
    obtain ⟨x, hx⟩ := hone (zs[i]'(by omega)) (List.getElem_mem _)
    obtain ⟨y, hy⟩ := hone (zs[m - 1 - i]'(by omega)) (List.getElem_mem _)
    have ex := List.getElem?_eq_getElem (l := zs) (i := i) (by omega)
    have ey := List.getElem?_eq_getElem (l := zs) (i := m - 1 - i) (by omega)
    rw [hx] at ex
    rw [hy] at ey
    refine Draw_intro mixed [0, 1, 2, 3, 4, 5, 6, 7, 8, 9, 10, 11, 12, 13, 14, 15] (by decide +kernel) (fun w _ fd => ?_); replace H := H.fr fd; clear fd
    (repeat ((try conv => whnf); first | refine Join_dup ?_ | (refine Br_gate ?_; first | with_reducible refine Br_not ?_ | refine xB ?_ | refine xC ?_) | (refine Ld_gate ?_; refine xL ?_) | (refine LdN_gate ?_; refine xM ?_) | (refine St_gate ?_; refine xS ?_; clear H; intro w H) | (refine StN_gate ?_; refine xN ?_; clear H; intro w H) | (refine Kept_gate ?_; refine xK ?_) | (refine Ar_gate ?_; first | (with_reducible refine Ar_halfU (by omega) ?_) | refine xA ?_) | (first | with_reducible refine Eqv_flip (by omega) ?_ | with_reducible refine Eqv_odd ?_ | refine Eqv_in ?_) | refine Do_ptr_eq_nil tok rfl ?_ | refine Do_ptr_ne_nil tok rfl ?_ | refine Do_nil_eq_nil tok rfl ?_ | refine Nn_in (by omega) ?_ | refine Nz_in (by omega) ?_))
    refine Ix_in (m - 1 - i) (by omega) (by omega) ?_
    refine Ld_mO H (by repeat first | exact List.Mem.head _ | refine List.Mem.tail _ ?_) (hgy.trans ey) ?_
    (repeat ((try conv => whnf); first | refine Join_dup ?_ | (refine Br_gate ?_; first | with_reducible refine Br_not ?_ | refine xB ?_ | refine xC ?_) | (refine Ld_gate ?_; refine xL ?_) | (refine LdN_gate ?_; refine xM ?_) | (refine St_gate ?_; refine xS ?_; clear H; intro w H) | (refine StN_gate ?_; refine xN ?_; clear H; intro w H) | (refine Kept_gate ?_; refine xK ?_) | (refine Ar_gate ?_; first | (with_reducible refine Ar_halfU (by omega) ?_) | refine xA ?_) | (first | with_reducible refine Eqv_flip (by omega) ?_ | with_reducible refine Eqv_odd ?_ | refine Eqv_in ?_) | refine Do_ptr_eq_nil tok rfl ?_ | refine Do_ptr_ne_nil tok rfl ?_ | refine Do_nil_eq_nil tok rfl ?_ | refine Nn_in (by omega) ?_ | refine Nz_in (by omega) ?_))
    refine Ix_in i rfl (by omega) ?_
    refine Ld_mO H (by repeat first | exact List.Mem.head _ | refine List.Mem.tail _ ?_) (hgx.trans ex) ?_
    (repeat ((try conv => whnf); first | refine Join_dup ?_ | (refine Br_gate ?_; first | with_reducible refine Br_not ?_ | refine xB ?_ | refine xC ?_) | (refine Ld_gate ?_; refine xL ?_) | (refine LdN_gate ?_; refine xM ?_) | (refine St_gate ?_; refine xS ?_; clear H; intro w H) | (refine StN_gate ?_; refine xN ?_; clear H; intro w H) | (refine Kept_gate ?_; refine xK ?_) | (refine Ar_gate ?_; first | (with_reducible refine Ar_halfU (by omega) ?_) | refine xA ?_) | (first | with_reducible refine Eqv_flip (by omega) ?_ | with_reducible refine Eqv_odd ?_ | refine Eqv_in ?_) | refine Do_ptr_eq_nil tok rfl ?_ | refine Do_ptr_ne_nil tok rfl ?_ | refine Do_nil_eq_nil tok rfl ?_ | refine Nn_in (by omega) ?_ | refine Nz_in (by omega) ?_))
    refine Ix_in i rfl (by omega) ?_
    refine St_uO H (by repeat first | exact Upd.head | apply Upd.tail) rfl (by rw [swapped_len (show 2 * i ≤ zs.length by omega)]; omega) rfl ?_
    clear H; intro w H
    (repeat ((try conv => whnf); first | refine Join_dup ?_ | (refine Br_gate ?_; first | with_reducible refine Br_not ?_ | refine xB ?_ | refine xC ?_) | (refine Ld_gate ?_; refine xL ?_) | (refine LdN_gate ?_; refine xM ?_) | (refine St_gate ?_; refine xS ?_; clear H; intro w H) | (refine StN_gate ?_; refine xN ?_; clear H; intro w H) | (refine Kept_gate ?_; refine xK ?_) | (refine Ar_gate ?_; first | (with_reducible refine Ar_halfU (by omega) ?_) | refine xA ?_) | (first | with_reducible refine Eqv_flip (by omega) ?_ | with_reducible refine Eqv_odd ?_ | refine Eqv_in ?_) | refine Do_ptr_eq_nil tok rfl ?_ | refine Do_ptr_ne_nil tok rfl ?_ | refine Do_nil_eq_nil tok rfl ?_ | refine Nn_in (by omega) ?_ | refine Nz_in (by omega) ?_))
    refine Ix_in (m - 1 - i) (by omega) (by omega) ?_
    have hsw := swapped_next (zs := zs) (i := i) (by omega) ex (by rw [hl]; exact ey)
    rw [hl] at hsw
    refine St_uO H (by repeat first | exact Upd.head | apply Upd.tail) rfl (by rw [List.length_set, swapped_len (show 2 * i ≤ zs.length by omega)]; omega) hsw ?_
    clear H; intro w H
    (repeat ((try conv => whnf); first | refine Join_dup ?_ | (refine Br_gate ?_; first | with_reducible refine Br_not ?_ | refine xB ?_ | refine xC ?_) | (refine Ld_gate ?_; refine xL ?_) | (refine LdN_gate ?_; refine xM ?_) | (refine St_gate ?_; refine xS ?_; clear H; intro w H) | (refine StN_gate ?_; refine xN ?_; clear H; intro w H) | (refine Kept_gate ?_; refine xK ?_) | (refine Ar_gate ?_; first | (with_reducible refine Ar_halfU (by omega) ?_) | refine xA ?_) | (first | with_reducible refine Eqv_flip (by omega) ?_ | with_reducible refine Eqv_odd ?_ | refine Eqv_in ?_) | refine Do_ptr_eq_nil tok rfl ?_ | refine Do_ptr_ne_nil tok rfl ?_ | refine Do_nil_eq_nil tok rfl ?_ | refine Nn_in (by omega) ?_ | refine Nz_in (by omega) ?_))
    exact ⟨i + 1, ⟨congrArg some (vint (by omega)), congrArg some (vint (by omega)), trivial⟩, ⟨H, by omega⟩, by omega⟩
  · rw [swapped_all (by omega) (by omega)] at H
    (repeat ((try conv => whnf); first | refine Join_dup ?_ | (refine Br_gate ?_; first | with_reducible refine Br_not ?_ | refine xB ?_ | refine xC ?_) | (refine Ld_gate ?_; refine xL ?_) | (refine LdN_gate ?_; refine xM ?_) | (refine St_gate ?_; refine xS ?_; clear H; intro w H) | (refine StN_gate ?_; refine xN ?_; clear H; intro w H) | (refine Kept_gate ?_; refine xK ?_) | (refine Ar_gate ?_; first | (with_reducible refine Ar_halfU (by omega) ?_) | refine xA ?_) | (first | with_reducible refine Eqv_flip (by omega) ?_ | with_reducible refine Eqv_odd ?_ | refine Eqv_in ?_) | refine Do_ptr_eq_nil tok rfl ?_ | refine Do_ptr_ne_nil tok rfl ?_ | refine Do_nil_eq_nil tok rfl ?_ | refine Nn_in (by omega) ?_ | refine Nz_in (by omega) ?_))
    exact Ret_in ⟨rfl, SepU.mk hp H⟩


theorem Nw_map {α : Type} {enc : α → Value} {w0 w : World} {l : List Res} (H : Sep w0 w l) {K : Nat → World → Prop} (hk : ∀ b w', Sep w0 w' (mapR b enc (fun _ => none) :: l) → K b w') : Nw w (.map #[] 0) K :=
  ⟨hk _ _ ((H.newObj rfl).head fun S h => ⟨h.b_in, by obtain ⟨o, h1, h2, rfl⟩ := h.obj; exact ⟨_, h1, h2, _, _, rfl, IsMap.nil⟩⟩)⟩

section
variable {w0 w : World} {l : List Res} {b : Nat} {ps : List (Nat × Nat)} {ins : List Nat} {kn : Nat × Nat → Option Value}

theorem edgesOne {xs : List Nat} : ∀ u ∈ xs.map eV, oneCell u = true := by
  intro u hu
  obtain ⟨x, _, rfl⟩ := List.mem_map.1 hu
  rfl

theorem gNew (w : World) : Does Try.prog 6 #[] w fun v w' => ∃ b, v = .pointer (some ⟨b, 0, none⟩) ∧ Sep w w' [gR b [(0, 0)] []] := by
  have H := Sep.nil w
  refine Does_intro tok (args := []) (Try.call6 _ _) Try.func6 rfl (by rfl) ?_
  (repeat ((try conv => whnf); first | refine Join_dup ?_ | (refine Br_gate ?_; first | with_reducible refine Br_not ?_ | refine xB ?_ | refine xC ?_) | (refine Ld_gate ?_; refine xL ?_) | (refine LdN_gate ?_; refine xM ?_) | (refine St_gate ?_; refine xS ?_; clear H; intro w H) | (refine StN_gate ?_; refine xN ?_; clear H; intro w H) | (refine Kept_gate ?_; refine xK ?_) | (refine Ar_gate ?_; first | (with_reducible refine Ar_halfU (by omega) ?_) | refine xA ?_) | (first | with_reducible refine Eqv_flip (by omega) ?_ | with_reducible refine Eqv_odd ?_ | refine Eqv_in ?_) | refine Do_ptr_eq_nil tok rfl ?_ | refine Do_ptr_ne_nil tok rfl ?_ | refine Do_nil_eq_nil tok rfl ?_ | refine Nn_in (by omega) ?_ | refine Nz_in (by omega) ?_))
  refine make_sep (el := 67) tok H rfl rfl rfl rfl rfl (by decide) 1 1 rfl rfl (by omega) (by omega) (by unfold maxLen; omega) fun tb w H => ?_
  (repeat ((try conv => whnf); first | refine Join_dup ?_ | (refine Br_gate ?_; first | with_reducible refine Br_not ?_ | refine xB ?_ | refine xC ?_) | (refine Ld_gate ?_; refine xL ?_) | (refine LdN_gate ?_; refine xM ?_) | (refine St_gate ?_; refine xS ?_; clear H; intro w H) | (refine StN_gate ?_; refine xN ?_; clear H; intro w H) | (refine Kept_gate ?_; refine xK ?_) | (refine Ar_gate ?_; first | (with_reducible refine Ar_halfU (by omega) ?_) | refine xA ?_) | (first | with_reducible refine Eqv_flip (by omega) ?_ | with_reducible refine Eqv_odd ?_ | refine Eqv_in ?_) | refine Do_ptr_eq_nil tok rfl ?_ | refine Do_ptr_ne_nil tok rfl ?_ | refine Do_nil_eq_nil tok rfl ?_ | refine Nn_in (by omega) ?_ | refine Nz_in (by omega) ?_))
  refine Nw_map (enc := pK) H fun mb w H => ?_
  (repeat ((try conv => whnf); first | refine Join_dup ?_ | (refine Br_gate ?_; first | with_reducible refine Br_not ?_ | refine xB ?_ | refine xC ?_) | (refine Ld_gate ?_; refine xL ?_) | (refine LdN_gate ?_; refine xM ?_) | (refine St_gate ?_; refine xS ?_; clear H; intro w H) | (refine StN_gate ?_; refine xN ?_; clear H; intro w H) | (refine Kept_gate ?_; refine xK ?_) | (refine Ar_gate ?_; first | (with_reducible refine Ar_halfU (by omega) ?_) | refine xA ?_) | (first | with_reducible refine Eqv_flip (by omega) ?_ | with_reducible refine Eqv_odd ?_ | refine Eqv_in ?_) | refine Do_ptr_eq_nil tok rfl ?_ | refine Do_ptr_ne_nil tok rfl ?_ | refine Do_nil_eq_nil tok rfl ?_ | refine Nn_in (by omega) ?_ | refine Nz_in (by omega) ?_))
  (refine Nw_sep H ?_; clear H; intro gb w H; (try simp only [Value.cells, List.toList_toArray, List.append_nil, List.cons_append, List.nil_append] at H))
  (repeat ((try conv => whnf); first | refine Join_dup ?_ | (refine Br_gate ?_; first | with_reducible refine Br_not ?_ | refine xB ?_ | refine xC ?_) | (refine Ld_gate ?_; refine xL ?_) | (refine LdN_gate ?_; refine xM ?_) | (refine St_gate ?_; refine xS ?_; clear H; intro w H) | (refine StN_gate ?_; refine xN ?_; clear H; intro w H) | (refine Kept_gate ?_; refine xK ?_) | (refine Ar_gate ?_; first | (with_reducible refine Ar_halfU (by omega) ?_) | refine xA ?_) | (first | with_reducible refine Eqv_flip (by omega) ?_ | with_reducible refine Eqv_odd ?_ | refine Eqv_in ?_) | refine Do_ptr_eq_nil tok rfl ?_ | refine Do_ptr_ne_nil tok rfl ?_ | refine Do_nil_eq_nil tok rfl ?_ | refine Nn_in (by omega) ?_ | refine Nz_in (by omega) ?_))
  have hk : knownV [(0, 0)] = fun _ => none := by
    funext q
    unfold knownV known
    split
    · rfl
    · rename_i hq
      rw [List.findIdx?_cons]
      have : ¬ ((0, 0) = q) := fun h => hq h.symm
      simp [this]
  have hg : GOk [(0, 0)] := by
    refine ⟨by simp, rfl, ?_, ?_⟩
    · intro k p hp
      cases k with
      | zero => simp at hp; exact .inl hp.symm
      | succ k => simp at hp
    · intro i k p hi hk hne
      cases i with
      | zero => simp at hi; exact (hne hi.symm).elim
      | succ i => simp at hi
  refine Ret_in ⟨gb, rfl, ?_⟩
  unfold gR
  rw [hk]
  have H2 := Own.nilR H 25 1
  refine graphClose (ap := some ⟨tb, 0, none⟩) (cp := 1) (ai := none) (ci := 0) (mb := mb) (r := []) ⟨hg, by simp, fun a ha => (by cases ha), by simp⟩ (H2.sel [1, 3, 0, 2] (by decide) rfl)

theorem gInput (H : Sep w0 w l) (hm : gR b ps ins ∈ l) (hf : ps.length < 1048576) :
    Does Try.prog 7 #[.pointer (some ⟨b, 0, none⟩)] w fun v w' => v = .tuple #[eV (2 * ps.length), .int .i64 0] ∧ SepU w0 w' l (gR b ps ins) (gR b (ps ++ [(0, 0)]) (ins ++ [2 * ps.length])) := by
  have hgok := graphOk H hm
  have hfew := hgok.few
  obtain ⟨r, hp⟩ := mem_cut hm
  replace H := H.perm hp
  have hg : GraphOk (ps ++ [(0, 0)]) ins := ⟨hgok.g.add (.inl rfl), by simp; omega, fun x hx => by have := hgok.inps x hx; simp; omega, by have := hgok.few; simp; omega⟩
  have hg2 : GraphOk (ps ++ [(0, 0)]) (ins ++ [2 * ps.length]) := ⟨hg.g, hg.max, fun x hx => by
    rcases List.mem_append.1 hx with hx | hx
    · exact hg.inps x hx
    · simp at hx; subst hx; simp, by have := hgok.few; simp; omega⟩
  have hkn : knownV (ps ++ [(0, 0)]) = knownV ps := by
    funext q
    unfold knownV
    rw [known_add, if_neg (fun h => h.1 rfl)]
  refine Does_intro tok (Try.call7 _ _) Try.func7 rfl (by rfl) ?_
  (repeat ((try conv => whnf); first | refine Join_dup ?_ | (refine Br_gate ?_; first | with_reducible refine Br_not ?_ | refine xB ?_ | refine xC ?_) | (refine Ld_gate ?_; refine xL ?_) | (refine LdN_gate ?_; refine xM ?_) | (refine St_gate ?_; refine xS ?_; clear H; intro w H) | (refine StN_gate ?_; refine xN ?_; clear H; intro w H) | (refine Kept_gate ?_; refine xK ?_) | (refine Ar_gate ?_; first | (with_reducible refine Ar_halfU (by omega) ?_) | refine xA ?_) | (first | with_reducible refine Eqv_flip (by omega) ?_ | with_reducible refine Eqv_odd ?_ | refine Eqv_in ?_) | refine Do_ptr_eq_nil tok rfl ?_ | refine Do_ptr_ne_nil tok rfl ?_ | refine Do_nil_eq_nil tok rfl ?_ | refine Nn_in (by omega) ?_ | refine Nz_in (by omega) ?_))
  refine Call_of (gMore H (.head _) (p := (0, 0)) hg) ?_
  clear H
  rintro _ w ⟨rfl, H⟩
  replace H := H _ .head
  obtain ⟨_, ap, cp, ai, ci, mb, H⟩ := graphOpenH H
  (repeat ((try conv => whnf); first | refine Join_dup ?_ | (refine Br_gate ?_; first | with_reducible refine Br_not ?_ | refine xB ?_ | refine xC ?_) | (refine Ld_gate ?_; refine xL ?_) | (refine LdN_gate ?_; refine xM ?_) | (refine St_gate ?_; refine xS ?_; clear H; intro w H) | (refine StN_gate ?_; refine xN ?_; clear H; intro w H) | (refine Kept_gate ?_; refine xK ?_) | (refine Ar_gate ?_; first | (with_reducible refine Ar_halfU (by omega) ?_) | refine xA ?_) | (first | with_reducible refine Eqv_flip (by omega) ?_ | with_reducible refine Eqv_odd ?_ | refine Eqv_in ?_) | refine Do_ptr_eq_nil tok rfl ?_ | refine Do_ptr_ne_nil tok rfl ?_ | refine Do_nil_eq_nil tok rfl ?_ | refine Nn_in (by omega) ?_ | refine Nz_in (by omega) ?_))
  (refine Nw_sep H ?_; clear H; intro nb w H; (try simp only [Value.cells, List.toList_toArray, List.append_nil, List.cons_append, List.nil_append] at H))
  (repeat ((try conv => whnf); first | refine Join_dup ?_ | (refine Br_gate ?_; first | with_reducible refine Br_not ?_ | refine xB ?_ | refine xC ?_) | (refine Ld_gate ?_; refine xL ?_) | (refine LdN_gate ?_; refine xM ?_) | (refine St_gate ?_; refine xS ?_; clear H; intro w H) | (refine StN_gate ?_; refine xN ?_; clear H; intro w H) | (refine Kept_gate ?_; refine xK ?_) | (refine Ar_gate ?_; first | (with_reducible refine Ar_halfU (by omega) ?_) | refine xA ?_) | (first | with_reducible refine Eqv_flip (by omega) ?_ | with_reducible refine Eqv_odd ?_ | refine Eqv_in ?_) | refine Do_ptr_eq_nil tok rfl ?_ | refine Do_ptr_ne_nil tok rfl ?_ | refine Do_nil_eq_nil tok rfl ?_ | refine Nn_in (by omega) ?_ | refine Nz_in (by omega) ?_))
  (refine DoN_gate ?_; refine append_one tok H rfl rfl rfl rfl rfl (by decide) (by repeat first | exact List.Mem.head _ | refine List.Mem.tail _ ?_) (m := 1) rfl (by simp [oneCell]) (by omega) (by unfold maxLen; omega) ?_; clear H; intro ai' ci' w H; replace H := H _ (by repeat first | exact Upd.head | apply Upd.tail))
  (repeat ((try conv => whnf); first | refine Join_dup ?_ | (refine Br_gate ?_; first | with_reducible refine Br_not ?_ | refine xB ?_ | refine xC ?_) | (refine Ld_gate ?_; refine xL ?_) | (refine LdN_gate ?_; refine xM ?_) | (refine St_gate ?_; refine xS ?_; clear H; intro w H) | (refine StN_gate ?_; refine xN ?_; clear H; intro w H) | (refine Kept_gate ?_; refine xK ?_) | (refine Ar_gate ?_; first | (with_reducible refine Ar_halfU (by omega) ?_) | refine xA ?_) | (first | with_reducible refine Eqv_flip (by omega) ?_ | with_reducible refine Eqv_odd ?_ | refine Eqv_in ?_) | refine Do_ptr_eq_nil tok rfl ?_ | refine Do_ptr_ne_nil tok rfl ?_ | refine Do_nil_eq_nil tok rfl ?_ | refine Nn_in (by omega) ?_ | refine Nz_in (by omega) ?_))
  refine Ret_in ⟨rfl, SepU.mk hp ?_⟩
  have e : ins.map eV ++ [eV (2 * ps.length)] = (ins ++ [2 * ps.length]).map eV := by simp
  unfold gR
  rw [hkn]
  refine graphClose (ap := ap) (cp := cp) (ai := ai') (ci := ci') (mb := mb) hg2 ?_
  rw [← e, show (ins ++ [2 * ps.length]).length = ins.length + 1 by simp]
  exact H

/-- What a gate is made of. -/
def partsP (ps : List (Nat × Nat)) (i : Int) : Nat × Nat × Bool := if i < 0 then (0, 0, false) else match ps[i.toNat]? with
  | none => (0, 0, false)
  | some p => if p = (0, 0) then (0, 0, false) else (p.1, p.2, true)

theorem pair_run {op : BinOp} {xo yo : Operand} {p q : Nat × Nat} : pK p = .agg #[.int .u32 (p.1 : Int), .int .u32 (p.2 : Int)] := rfl

theorem Do_pne {xo yo : Operand} {p : Nat × Nat} {w : World} {K : Value → World → Prop} (h : K (.bool !decide (p = (0, 0))) w) : Do Try.prog (do eqGuard .neq 67 xo yo (pK p) (.agg #[.int .u32 0, .int .u32 0]); binOp .neq 67 (pK p) (.agg #[.int .u32 0, .int .u32 0])) w K := by
  refine Do_pair_ne tok Try.underlying67 Try.underlying25 rfl (by decide +kernel) ?_
  have : decide ((p.1 : Int) = 0 ∧ (p.2 : Int) = 0) = decide (p = (0, 0)) := by rw [decide_eq_decide, Prod.ext_iff]; simp only []; omega
  rw [this]; exact h
theorem Do_peq {xo yo : Operand} {p : Nat × Nat} {w : World} {K : Value → World → Prop} (h : K (.bool (decide (p = (0, 0)))) w) : Do Try.prog (do eqGuard .eql 67 xo yo (pK p) (.agg #[.int .u32 0, .int .u32 0]); binOp .eql 67 (pK p) (.agg #[.int .u32 0, .int .u32 0])) w K := by
  refine Do_pair_eq tok Try.underlying67 Try.underlying25 rfl (by decide +kernel) ?_
  have : decide ((p.1 : Int) = 0 ∧ (p.2 : Int) = 0) = decide (p = (0, 0)) := by rw [decide_eq_decide, Prod.ext_iff]; simp only []; omega
  rw [this]; exact h

theorem gParts (H : Sep w0 w l) (hm : gR b ps ins ∈ l) {i : Int} :
    Does Try.prog 19 #[.pointer (some ⟨b, 0, none⟩), .int .i64 i] w fun v w' => v = .tuple #[eV (partsP ps i).1, eV (partsP ps i).2.1, .bool (partsP ps i).2.2] ∧ Sep w0 w' l := by
  have hgok := graphOk H hm
  have hmx := hgok.max
  have H00 := H
  obtain ⟨r, hp⟩ := mem_cut hm
  replace H := H.perm hp
  obtain ⟨_, ap, cp, ai, ci, mb, H⟩ := graphOpenH H
  have hpos := hgok.g.pos
  obtain ⟨pb, rfl⟩ := (H.ownM (hm := .tail _ (.head _))).some (by omega)
  refine Does_intro tok (Try.call19 _ _) Try.func19 rfl (by rfl) ?_
  unfold partsP
  by_cases h0 : i < 0
  · rw [if_pos h0]
    (repeat ((try conv => whnf); first | refine Join_dup ?_ | (refine Br_gate ?_; first | with_reducible refine Br_not ?_ | refine xB ?_ | refine xC ?_) | (refine Ld_gate ?_; refine xL ?_) | (refine LdN_gate ?_; refine xM ?_) | (refine St_gate ?_; refine xS ?_; clear H; intro w H) | (refine StN_gate ?_; refine xN ?_; clear H; intro w H) | (refine Kept_gate ?_; refine xK ?_) | (refine Ar_gate ?_; first | (with_reducible refine Ar_halfU (by omega) ?_) | refine xA ?_) | (first | with_reducible refine Eqv_flip (by omega) ?_ | with_reducible refine Eqv_odd ?_ | refine Eqv_in ?_) | refine Do_ptr_eq_nil tok rfl ?_ | refine Do_ptr_ne_nil tok rfl ?_ | refine Do_nil_eq_nil tok rfl ?_ | refine Nn_in (by omega) ?_ | refine Nz_in (by omega) ?_))
    exact Ret_in ⟨rfl, H00⟩
  rw [if_neg h0]
  obtain ⟨j, rfl⟩ : ∃ j : Nat, i = j := ⟨i.toNat, by omega⟩
  simp only [Int.toNat_natCast]
  by_cases h1 : ps.length ≤ j
  · rw [List.getElem?_eq_none h1]
    (repeat ((try conv => whnf); first | refine Join_dup ?_ | (refine Br_gate ?_; first | with_reducible refine Br_not ?_ | refine xB ?_ | refine xC ?_) | (refine Ld_gate ?_; refine xL ?_) | (refine LdN_gate ?_; refine xM ?_) | (refine St_gate ?_; refine xS ?_; clear H; intro w H) | (refine StN_gate ?_; refine xN ?_; clear H; intro w H) | (refine Kept_gate ?_; refine xK ?_) | (refine Ar_gate ?_; first | (with_reducible refine Ar_halfU (by omega) ?_) | refine xA ?_) | (first | with_reducible refine Eqv_flip (by omega) ?_ | with_reducible refine Eqv_odd ?_ | refine Eqv_in ?_) | refine Do_ptr_eq_nil tok rfl ?_ | refine Do_ptr_ne_nil tok rfl ?_ | refine Do_nil_eq_nil tok rfl ?_ | refine Nn_in (by omega) ?_ | refine Nz_in (by omega) ?_))
    exact Ret_in ⟨rfl, H00⟩
  have hj : ps[j]? = some (ps[j]'(by omega)) := List.getElem?_eq_getElem (by omega)
  generalize ps[j]'(by omega) = p at hj
  rw [hj]
  simp only []
  (repeat ((try conv => whnf); first | refine Join_dup ?_ | (refine Br_gate ?_; first | with_reducible refine Br_not ?_ | refine xB ?_ | refine xC ?_) | (refine Ld_gate ?_; refine xL ?_) | (refine LdN_gate ?_; refine xM ?_) | (refine St_gate ?_; refine xS ?_; clear H; intro w H) | (refine StN_gate ?_; refine xN ?_; clear H; intro w H) | (refine Kept_gate ?_; refine xK ?_) | (refine Ar_gate ?_; first | (with_reducible refine Ar_halfU (by omega) ?_) | refine xA ?_) | (first | with_reducible refine Eqv_flip (by omega) ?_ | with_reducible refine Eqv_odd ?_ | refine Eqv_in ?_) | refine Do_ptr_eq_nil tok rfl ?_ | refine Do_ptr_ne_nil tok rfl ?_ | refine Do_nil_eq_nil tok rfl ?_ | refine Nn_in (by omega) ?_ | refine Nz_in (by omega) ?_))
  refine Ix_in j rfl (by omega) ?_
  (repeat ((try conv => whnf); first | refine Join_dup ?_ | (refine Br_gate ?_; first | with_reducible refine Br_not ?_ | refine xB ?_ | refine xC ?_) | (refine Ld_gate ?_; refine xL ?_) | (refine LdN_gate ?_; refine xM ?_) | (refine St_gate ?_; refine xS ?_; clear H; intro w H) | (refine StN_gate ?_; refine xN ?_; clear H; intro w H) | (refine Kept_gate ?_; refine xK ?_) | (refine Ar_gate ?_; first | (with_reducible refine Ar_halfU (by omega) ?_) | refine xA ?_) | (first | with_reducible refine Eqv_flip (by omega) ?_ | with_reducible refine Eqv_odd ?_ | refine Eqv_in ?_) | refine Do_ptr_eq_nil tok rfl ?_ | refine Do_ptr_ne_nil tok rfl ?_ | refine Do_nil_eq_nil tok rfl ?_ | refine Nn_in (by omega) ?_ | refine Nz_in (by omega) ?_))
  refine LdN_mO H (by repeat first | exact List.Mem.head _ | refine List.Mem.tail _ ?_) (vs := pV p) (rowPart pV_len hj) rfl ?_
  (repeat ((try conv => whnf); first | refine Join_dup ?_ | (refine Br_gate ?_; first | with_reducible refine Br_not ?_ | refine xB ?_ | refine xC ?_) | (refine Ld_gate ?_; refine xL ?_) | (refine LdN_gate ?_; refine xM ?_) | (refine St_gate ?_; refine xS ?_; clear H; intro w H) | (refine StN_gate ?_; refine xN ?_; clear H; intro w H) | (refine Kept_gate ?_; refine xK ?_) | (refine Ar_gate ?_; first | (with_reducible refine Ar_halfU (by omega) ?_) | refine xA ?_) | (first | with_reducible refine Eqv_flip (by omega) ?_ | with_reducible refine Eqv_odd ?_ | refine Eqv_in ?_) | refine Do_ptr_eq_nil tok rfl ?_ | refine Do_ptr_ne_nil tok rfl ?_ | refine Do_nil_eq_nil tok rfl ?_ | refine Nn_in (by omega) ?_ | refine Nz_in (by omega) ?_))
  refine Do_peq (p := p) ?_
  by_cases hz : p = (0, 0)
  · rw [if_pos hz]
    (repeat ((try conv => whnf); first | refine Join_dup ?_ | (refine Br_gate ?_; first | with_reducible refine Br_not ?_ | refine xB ?_ | refine xC ?_) | (refine Ld_gate ?_; refine xL ?_) | (refine LdN_gate ?_; refine xM ?_) | (refine St_gate ?_; refine xS ?_; clear H; intro w H) | (refine StN_gate ?_; refine xN ?_; clear H; intro w H) | (refine Kept_gate ?_; refine xK ?_) | (refine Ar_gate ?_; first | (with_reducible refine Ar_halfU (by omega) ?_) | refine xA ?_) | (first | with_reducible refine Eqv_flip (by omega) ?_ | with_reducible refine Eqv_odd ?_ | refine Eqv_in ?_) | refine Do_ptr_eq_nil tok rfl ?_ | refine Do_ptr_ne_nil tok rfl ?_ | refine Do_nil_eq_nil tok rfl ?_ | refine Nn_in (by omega) ?_ | refine Nz_in (by omega) ?_))
    exact Ret_in ⟨rfl, H00⟩
  · rw [if_neg hz]
    (repeat ((try conv => whnf); first | refine Join_dup ?_ | (refine Br_gate ?_; first | with_reducible refine Br_not ?_ | refine xB ?_ | refine xC ?_) | (refine Ld_gate ?_; refine xL ?_) | (refine LdN_gate ?_; refine xM ?_) | (refine St_gate ?_; refine xS ?_; clear H; intro w H) | (refine StN_gate ?_; refine xN ?_; clear H; intro w H) | (refine Kept_gate ?_; refine xK ?_) | (refine Ar_gate ?_; first | (with_reducible refine Ar_halfU (by omega) ?_) | refine xA ?_) | (first | with_reducible refine Eqv_flip (by omega) ?_ | with_reducible refine Eqv_odd ?_ | refine Eqv_in ?_) | refine Do_ptr_eq_nil tok rfl ?_ | refine Do_ptr_ne_nil tok rfl ?_ | refine Do_nil_eq_nil tok rfl ?_ | refine Nn_in (by omega) ?_ | refine Nz_in (by omega) ?_))
    clear H00
    refine Draw_intro mixed [0, 1, 2, 3, 4, 5, 6, 7, 8, 9, 10, 11, 12, 13, 14, 15, 16, 17, 18] (by decide +kernel) (fun w _ fd => ?_); replace H := H.fr fd; clear fd
    (repeat ((try conv => whnf); first | refine Join_dup ?_ | (refine Br_gate ?_; first | with_reducible refine Br_not ?_ | refine xB ?_ | refine xC ?_) | (refine Ld_gate ?_; refine xL ?_) | (refine LdN_gate ?_; refine xM ?_) | (refine St_gate ?_; refine xS ?_; clear H; intro w H) | (refine StN_gate ?_; refine xN ?_; clear H; intro w H) | (refine Kept_gate ?_; refine xK ?_) | (refine Ar_gate ?_; first | (with_reducible refine Ar_halfU (by omega) ?_) | refine xA ?_) | (first | with_reducible refine Eqv_flip (by omega) ?_ | with_reducible refine Eqv_odd ?_ | refine Eqv_in ?_) | refine Do_ptr_eq_nil tok rfl ?_ | refine Do_ptr_ne_nil tok rfl ?_ | refine Do_nil_eq_nil tok rfl ?_ | refine Nn_in (by omega) ?_ | refine Nz_in (by omega) ?_))
    refine Ix_in j rfl (by omega) ?_
    (repeat ((try conv => whnf); first | refine Join_dup ?_ | (refine Br_gate ?_; first | with_reducible refine Br_not ?_ | refine xB ?_ | refine xC ?_) | (refine Ld_gate ?_; refine xL ?_) | (refine LdN_gate ?_; refine xM ?_) | (refine St_gate ?_; refine xS ?_; clear H; intro w H) | (refine StN_gate ?_; refine xN ?_; clear H; intro w H) | (refine Kept_gate ?_; refine xK ?_) | (refine Ar_gate ?_; first | (with_reducible refine Ar_halfU (by omega) ?_) | refine xA ?_) | (first | with_reducible refine Eqv_flip (by omega) ?_ | with_reducible refine Eqv_odd ?_ | refine Eqv_in ?_) | refine Do_ptr_eq_nil tok rfl ?_ | refine Do_ptr_ne_nil tok rfl ?_ | refine Do_nil_eq_nil tok rfl ?_ | refine Nn_in (by omega) ?_ | refine Nz_in (by omega) ?_))
    refine Ix_in 0 rfl (by omega) ?_
    refine Ld_mO (j := j * 2 + 0) H (by repeat first | exact List.Mem.head _ | refine List.Mem.tail _ ?_) (rowGet pV_len hj (by omega)) ?_
    (repeat ((try conv => whnf); first | refine Join_dup ?_ | (refine Br_gate ?_; first | with_reducible refine Br_not ?_ | refine xB ?_ | refine xC ?_) | (refine Ld_gate ?_; refine xL ?_) | (refine LdN_gate ?_; refine xM ?_) | (refine St_gate ?_; refine xS ?_; clear H; intro w H) | (refine StN_gate ?_; refine xN ?_; clear H; intro w H) | (refine Kept_gate ?_; refine xK ?_) | (refine Ar_gate ?_; first | (with_reducible refine Ar_halfU (by omega) ?_) | refine xA ?_) | (first | with_reducible refine Eqv_flip (by omega) ?_ | with_reducible refine Eqv_odd ?_ | refine Eqv_in ?_) | refine Do_ptr_eq_nil tok rfl ?_ | refine Do_ptr_ne_nil tok rfl ?_ | refine Do_nil_eq_nil tok rfl ?_ | refine Nn_in (by omega) ?_ | refine Nz_in (by omega) ?_))
    refine Ix_in j rfl (by omega) ?_
    (repeat ((try conv => whnf); first | refine Join_dup ?_ | (refine Br_gate ?_; first | with_reducible refine Br_not ?_ | refine xB ?_ | refine xC ?_) | (refine Ld_gate ?_; refine xL ?_) | (refine LdN_gate ?_; refine xM ?_) | (refine St_gate ?_; refine xS ?_; clear H; intro w H) | (refine StN_gate ?_; refine xN ?_; clear H; intro w H) | (refine Kept_gate ?_; refine xK ?_) | (refine Ar_gate ?_; first | (with_reducible refine Ar_halfU (by omega) ?_) | refine xA ?_) | (first | with_reducible refine Eqv_flip (by omega) ?_ | with_reducible refine Eqv_odd ?_ | refine Eqv_in ?_) | refine Do_ptr_eq_nil tok rfl ?_ | refine Do_ptr_ne_nil tok rfl ?_ | refine Do_nil_eq_nil tok rfl ?_ | refine Nn_in (by omega) ?_ | refine Nz_in (by omega) ?_))
    refine Ix_in 1 rfl (by omega) ?_
    refine Ld_mO (j := j * 2 + 1) H (by repeat first | exact List.Mem.head _ | refine List.Mem.tail _ ?_) (rowGet pV_len hj (by omega)) ?_
    (repeat ((try conv => whnf); first | refine Join_dup ?_ | (refine Br_gate ?_; first | with_reducible refine Br_not ?_ | refine xB ?_ | refine xC ?_) | (refine Ld_gate ?_; refine xL ?_) | (refine LdN_gate ?_; refine xM ?_) | (refine St_gate ?_; refine xS ?_; clear H; intro w H) | (refine StN_gate ?_; refine xN ?_; clear H; intro w H) | (refine Kept_gate ?_; refine xK ?_) | (refine Ar_gate ?_; first | (with_reducible refine Ar_halfU (by omega) ?_) | refine xA ?_) | (first | with_reducible refine Eqv_flip (by omega) ?_ | with_reducible refine Eqv_odd ?_ | refine Eqv_in ?_) | refine Do_ptr_eq_nil tok rfl ?_ | refine Do_ptr_ne_nil tok rfl ?_ | refine Do_nil_eq_nil tok rfl ?_ | refine Nn_in (by omega) ?_ | refine Nz_in (by omega) ?_))
    exact Ret_in ⟨rfl, (graphClose hgok H).perm hp.symm⟩

/-- Backward gives the parts, the last one first. -/
theorem backP {a : Option Addr} {n c : Nat} {ps : List (Nat × Nat)} {sb : Nat} {Rd : World → Prop} (hl : ps.length = n) (hn : n ≤ 1048576)
    (hR : ∀ w, Rd w → w.cell? ⟨sb, 0, none⟩ = some (.slice a n c) ∧ Src w a n 2 (ps.flatMap pV)) :
    IterOk Try.prog 41 [.pointer (some ⟨sb, 0, none⟩)] n (fun k => [.int .i64 ((n - 1 - k : Nat) : Int), pK (ps[n - 1 - k]?.getD (0, 0))]) Rd := by
  refine Iter_intro tok (fun args w => Try.call41 _ _) Try.func41 rfl (by rfl) ?_
  intro l J Jx W hJ hG h0
  refine Ld_of (hR _ (hJ 0 W (Nat.zero_le _) h0)).1 ?_
  (repeat ((try conv => whnf); first | refine Join_dup ?_ | (refine Br_gate ?_; first | with_reducible refine Br_not ?_ | refine xB ?_ | refine xC ?_) | (refine Ld_gate ?_; refine xL ?_) | (refine LdN_gate ?_; refine xM ?_) | (refine St_gate ?_; refine xS ?_; clear H; intro w H) | (refine StN_gate ?_; refine xN ?_; clear H; intro w H) | (refine Kept_gate ?_; refine xK ?_) | (refine Ar_gate ?_; first | (with_reducible refine Ar_halfU (by omega) ?_) | refine xA ?_) | (first | with_reducible refine Eqv_flip (by omega) ?_ | with_reducible refine Eqv_odd ?_ | refine Eqv_in ?_) | refine Do_ptr_eq_nil tok rfl ?_ | refine Do_ptr_ne_nil tok rfl ?_ | refine Do_nil_eq_nil tok rfl ?_ | refine Nn_in (by omega) ?_ | refine Nz_in (by omega) ?_))
  refine Loop_intro (fun i : Nat => [(3, .int .i64 ((n : Int) - 1 - i))]) (fun i w' => J i w' ∧ i ≤ n) (fun i => n - i) 0 ⟨congrArg some (vint (by omega)), trivial⟩ ⟨h0, by omega⟩ ?_
  rintro i w ⟨hj, hi⟩
  simp only [] at hi hj ⊢
  have hRd := hR _ (hJ i w hi hj)
  refine Br_dec (fun k1 => ?_) (fun k1 => ?_)
  · refine Ld_of hRd.1 ?_
    obtain ⟨pb, po, rfl⟩ := hRd.2.addr (by rw [rowLen pV_len]; omega)
    have hget : ps[n - 1 - i]? = some (ps[n - 1 - i]'(by omega)) := List.getElem?_eq_getElem (by omega)
    (repeat ((try conv => whnf); first | refine Join_dup ?_ | (refine Br_gate ?_; first | with_reducible refine Br_not ?_ | refine xB ?_ | refine xC ?_) | (refine Ld_gate ?_; refine xL ?_) | (refine LdN_gate ?_; refine xM ?_) | (refine St_gate ?_; refine xS ?_; clear H; intro w H) | (refine StN_gate ?_; refine xN ?_; clear H; intro w H) | (refine Kept_gate ?_; refine xK ?_) | (refine Ar_gate ?_; first | (with_reducible refine Ar_halfU (by omega) ?_) | refine xA ?_) | (first | with_reducible refine Eqv_flip (by omega) ?_ | with_reducible refine Eqv_odd ?_ | refine Eqv_in ?_) | refine Do_ptr_eq_nil tok rfl ?_ | refine Do_ptr_ne_nil tok rfl ?_ | refine Do_nil_eq_nil tok rfl ?_ | refine Nn_in (by omega) ?_ | refine Nz_in (by omega) ?_))
    refine Ix_in (n - 1 - i) (by omega) (by omega) ?_
    refine LdN_src hRd.2 (vs := pV (ps[n - 1 - i]'(by omega))) (rowPart pV_len hget) rfl ?_
    have hk := fun K => hG i w K (by omega) hj
    simp only [hget, Option.getD_some] at hk
    have e : ((n - 1 - i : Nat) : Int) = (n : Int) - 1 - i := by omega
    rw [e] at hk
    refine hk _ (fun w' hj' => ?_) (fun w' hj' => ?_)
    · (repeat ((try conv => whnf); first | refine Join_dup ?_ | (refine Br_gate ?_; first | with_reducible refine Br_not ?_ | refine xB ?_ | refine xC ?_) | (refine Ld_gate ?_; refine xL ?_) | (refine LdN_gate ?_; refine xM ?_) | (refine St_gate ?_; refine xS ?_; clear H; intro w H) | (refine StN_gate ?_; refine xN ?_; clear H; intro w H) | (refine Kept_gate ?_; refine xK ?_) | (refine Ar_gate ?_; first | (with_reducible refine Ar_halfU (by omega) ?_) | refine xA ?_) | (first | with_reducible refine Eqv_flip (by omega) ?_ | with_reducible refine Eqv_odd ?_ | refine Eqv_in ?_) | refine Do_ptr_eq_nil tok rfl ?_ | refine Do_ptr_ne_nil tok rfl ?_ | refine Do_nil_eq_nil tok rfl ?_ | refine Nn_in (by omega) ?_ | refine Nz_in (by omega) ?_))
      exact ⟨i + 1, ⟨congrArg some (vint (by omega)), trivial⟩, ⟨hj', by omega⟩, by omega⟩
    · (repeat ((try conv => whnf); first | refine Join_dup ?_ | (refine Br_gate ?_; first | with_reducible refine Br_not ?_ | refine xB ?_ | refine xC ?_) | (refine Ld_gate ?_; refine xL ?_) | (refine LdN_gate ?_; refine xM ?_) | (refine St_gate ?_; refine xS ?_; clear H; intro w H) | (refine StN_gate ?_; refine xN ?_; clear H; intro w H) | (refine Kept_gate ?_; refine xK ?_) | (refine Ar_gate ?_; first | (with_reducible refine Ar_halfU (by omega) ?_) | refine xA ?_) | (first | with_reducible refine Eqv_flip (by omega) ?_ | with_reducible refine Eqv_odd ?_ | refine Eqv_in ?_) | refine Do_ptr_eq_nil tok rfl ?_ | refine Do_ptr_ne_nil tok rfl ?_ | refine Do_nil_eq_nil tok rfl ?_ | refine Nn_in (by omega) ?_ | refine Nz_in (by omega) ?_))
      exact Ret_in (.inr hj')
  · obtain rfl : i = n := by omega
    exact Ret_in (.inl hj)
end
end Go.Proofs.Ytpllmfoaahaciaa
