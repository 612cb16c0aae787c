/- A bench in memory: a clause is added, dropped. -/
import Derived.Test.YtkgmgjiomniijaaDoorProofW
set_option linter.unusedVariables false
set_option linter.unusedSimpArgs false
namespace Go.Proofs.YtkgmgjiomniijaaDoor
open Go Go.Vc Go.Watch Go.Lit
open Go.Trail (Ent value find upto okLit litsV)
set_option maxHeartbeats 4000000
set_option maxRecDepth 100000
def rowI : Nat → Ids → Res := fun _ x => ownR x.2.1 x.2.2.2.length x.2.2.1 3 1 (x.2.2.2.map idV)
def ben (pb eb mb : Nat) (s : St) (R : List Ids) (n : Nat) (fr : Int) (l : List Res) : List Res :=
  cellsR pb 51 [.pointer (some ⟨eb, 0, none⟩), .int .i32 ((n : Int) + 1), .map (some mb), .int .i64 fr] :: engR eb s :: mapD mb keyV (mOf R) R.length :: bigR rowI R :: l
structure BOk (s : St) (R : List Ids) (n : Nat) (A : List (List Int × Bool)) (m : Nat) : Prop where
  bn : Bn s (n + 1) A m
  E : s.E = []
  D : s.D = 0
  h : s.h = 0
  ids : ROk R A
  fit : ∀ k b, (k, b) ∈ A → ∀ y ∈ k, Trail.var y ≤ n
structure BRep where
  eb : Nat
  mb : Nat
  s : St
  R : List Ids
  fr : Int
/-- A bench that has the clauses A at hand. -/
def benR (pb n : Nat) (A : List (List Int × Bool)) (m : Nat) : Res := exR fun r : BRep => sepR (pureR (BOk r.s r.R n A m) :: ben pb r.eb r.mb r.s r.R n r.fr [])
section
variable {w0 w : World} {l : List Res} {pb eb mb n m : Nat} {s : St} {R : List Ids} {A : List (List Int × Bool)} {fr : Int}
theorem benOpen (H : Sep w0 w (benR pb n A m :: l)) : ∃ eb mb s R fr, BOk s R n A m ∧ Sep w0 w (ben pb eb mb s R n fr l) := by
  obtain ⟨r, h1⟩ := H.ex
  obtain ⟨h2, h3⟩ := Sep.prop h1.flat
  exact ⟨_, _, _, _, _, h2, h3⟩
theorem benClose (h : BOk s R n A m) (H : Sep w0 w (ben pb eb mb s R n fr l)) : Sep w0 w (benR pb n A m :: l) :=
  Sep.mk_ex (f := fun r : BRep => sepR (pureR (BOk r.s r.R n A m) :: ben pb r.eb r.mb r.s r.R n r.fr [])) ⟨eb, mb, s, R, fr⟩ (Sep.app (l := pureR (BOk s R n A m) :: ben pb eb mb s R n fr []) (Sep.mk_prop h H))
theorem keyS : MKey Tryd.prog 9 fun v => ∃ k : List Int, v = keyV k := (MKey.string Tryd.underlying9).sub fun v ⟨k, h⟩ => ⟨_, h⟩
theorem mOf_at {i : Nat} {x : Ids} (h : ROk R A) (hx : R[i]? = some x) : mOf R x.1 = some (.slice x.2.1 x.2.2.2.length x.2.2.1) := by
  unfold mOf
  rw [h.at' hx]; rfl

theorem lkKept {f : List Int → Option Value} {q : Nat} (H : Sep w0 w l) (hm : mapD mb keyV f q ∈ l) (k : List Int) {v : Value} (hv : (f k).getD (.slice none 0 0) = v) : (Instr.lookup 49 (.map (some mb)) (keyV k) false).run Tryd.prog w = .ok v w := by
  have := lookupD tok keyS H hm (t := 49) (el := 65) (z := .slice none 0 0) rfl rfl k (ok := false)
  rw [if_neg Bool.false_ne_true, hv] at this
  exact this
theorem isSome_at {i : Nat} {x : Ids} (h : ROk R A) (hx : R[i]? = some x) : (mOf R x.1).isSome = true := by rw [mOf_at h hx]; rfl

theorem bAdd (H : Sep w0 w (benR pb n A m :: l)) (hp : Pow w0) {xs : List Int} {a : Option Addr} {c : Nat} (hs : ∀ {w' : World} {l' : List Res}, Sep w0 w' (l' ++ l) → Src w' a xs.length 1 (xs.map lV)) (hx : xs.length ≤ 1000000000) (hf : fitB n xs = true) (hA : A.length < 1000000) (hm : m ≤ 100000000) :
    Does Tryd.prog 17 #[.pointer (some ⟨pb, 0, none⟩), .slice a xs.length c] w fun v w' => ∃ own, Lit.Clean xs own ∧ v = .bool true ∧ Sep w0 w' (benR pb n (A ++ [(own, true)]) (m + 1) :: l) := by
  obtain ⟨eb, mb, s, R, fr, hb, H⟩ := benOpen H
  unfold ben at H
  have hg := hb.bn.good
  have hn := hb.bn.n
  have hlen := hb.bn.len
  have hfew := hb.bn.few
  have hvars := hg.inv.vars
  have hfit := fitB_iff.1 hf
  refine Does_intro tok (Tryd.call17 _ _) Tryd.func17 rfl (by rfl) ?_
  replace H := H.tp 1
  (repeat first | refine go ?_ | ((try conv => whnf); (first | (refine St_gate ?_; refine xS ?_) | (refine StN_gate ?_; refine xN ?_)); clear H; intro w H))
  refine Call_of (eAdd H (fun {w'} {l'} h => hs (l' := l' ++ [_, _, _]) (by simpa using h)) (by omega) (fun x hx => (hfit x hx).1) (fun x hx => by have := (hfit x hx).2; omega) (by omega) (by omega) hg.wl hvars (fun x h1 h2 => by have := hg.wat_few h1 h2; omega)) ?_
  clear H
  rintro _ w ⟨rfl, own, hcl, hol, H⟩
  obtain ⟨hb2, hE2, hD2, hh2⟩ := hb.bn.add (n := n + 1) (xs := xs) (own := own) (fitB_iff.2 fun x hx => ⟨(hfit x hx).1, by have := (hfit x hx).2; omega⟩) hcl
  generalize addP s (leadP s.E own) (Lit.bothB xs) = s2 at *
  rw [hb.E] at hE2; rw [hb.D] at hD2; rw [hb.h] at hh2
  (repeat first | refine go ?_ | ((try conv => whnf); (first | (refine St_gate ?_; refine xS ?_) | (refine StN_gate ?_; refine xN ?_)); clear H; intro w H))
  refine Call_of (kKey H hp (hs (l' := [_, _, _, _]) H) (by omega) fun x hx => (hfit x hx).1) ?_
  clear H
  rintro _ w ⟨own2, hcl2, rfl, H⟩
  obtain rfl : own2 = own := Lit.Clean.same (fun x hx => (hfit x hx).1) hcl2 hcl fun x => Iff.rfl
  clear hcl2
  have hkey : keyV own2 = .string ⟨(keyB own2).toArray⟩ := rfl
  (repeat first | refine go ?_ | ((try conv => whnf); (first | (refine St_gate ?_; refine xS ?_) | (refine StN_gate ?_; refine xN ?_)); clear H; intro w H))
  refine Draw_intro mixed [0, 1, 2, 3, 4, 5, 6, 7, 8, 9, 10, 11, 12, 13, 14] (by decide +kernel) (fun w _ fd => ?_); replace H := H.fr fd; clear fd
  (repeat first | refine go ?_ | ((try conv => whnf); (first | (refine St_gate ?_; refine xS ?_) | (refine StN_gate ?_; refine xN ?_)); clear H; intro w H))
  have hfA : ∀ k b, (k, b) ∈ A ++ [(own2, true)] → ∀ y ∈ k, Trail.var y ≤ n := by
    intro k b hk y hy
    rw [List.mem_append, List.mem_singleton] at hk
    rcases hk with hk | hk
    · exact hb.fit k b hk y hy
    · cases hk
      exact (hfit y ((hcl.mem y).1 hy)).2
  rcases ROk.find R own2 with hno | ⟨i, x, hxi, rfl⟩
  · have hv : (mOf R own2).getD (.slice none 0 0) = .slice none 0 0 := by rw [mOf_none hno]; rfl
    refine DoS_lookupD tok keyS H mm rfl rfl own2 ?_
    rw [if_neg Bool.false_ne_true, hv]
    (repeat first | refine go ?_ | ((try conv => whnf); (first | (refine St_gate ?_; refine xS ?_) | (refine StN_gate ?_; refine xN ?_)); clear H; intro w H))
    (refine Nw_sep H ?_; clear H; intro nb w H; (try simp only [Value.cells, List.toList_toArray, List.append_nil, List.cons_append, List.nil_append] at H))
    (repeat first | refine go ?_ | ((try conv => whnf); (first | (refine St_gate ?_; refine xS ?_) | (refine StN_gate ?_; refine xN ?_)); clear H; intro w H))
    refine Kept_in (lkKept H mm own2 hv) ?_
    (repeat first | refine go ?_ | ((try conv => whnf); (first | (refine St_gate ?_; refine xS ?_) | (refine StN_gate ?_; refine xN ?_)); clear H; intro w H))
    replace H := Own.nilR H 3 1
    replace H := H.tp 1
    (refine DoN_gate ?_; refine append_one tok H rfl rfl rfl rfl rfl (by decide) mm (m := 1) rfl (by simp [oneCell]) (by omega) (by unfold maxLen; omega) ?_; clear H; intro a2 c2 w H; replace H := H _ (by repeat first | exact Upd.head | apply Upd.tail))
    (repeat first | refine go ?_ | ((try conv => whnf); (first | (refine St_gate ?_; refine xS ?_) | (refine StN_gate ?_; refine xN ?_)); clear H; intro w H))
    refine DoU_putD keyV_inj tok keyS H mm rfl own2 _ ?_
    clear H
    intro w H
    replace H := H _ (by repeat first | exact Upd.head | apply Upd.tail)
    rw [mOf_none hno, if_neg (by simp)] at H
    (repeat first | refine go ?_ | ((try conv => whnf); (first | (refine St_gate ?_; refine xS ?_) | (refine StN_gate ?_; refine xN ?_)); clear H; intro w H))
    refine Ret_in ⟨own2, hcl, rfl, ?_⟩
    have hm2 := mOf_app hno (a := a2) (c := c2) (l := [A.length])
    replace H : Vc.Sep w0 w (rowI R.length (own2, a2, c2, [A.length]) :: engR eb s2 :: cellsR pb 51 [.pointer (some ⟨eb, 0, none⟩), .int .i32 ((n : Int) + 1), .map (some mb), .int .i64 fr] :: mapD mb keyV (mOf (R ++ [(own2, a2, c2, [A.length])])) (R ++ [(own2, a2, c2, [A.length])]).length :: bigR rowI R :: l) := by
      rw [hm2, List.length_append, ← hlen]
      exact H
    replace H := H.tp 4
    replace H := H.tp 1
    replace H := Sep.big_snoc H
    replace H := H.tp 3
    replace H := H.tp 2
    replace H := H.tp 3
    exact benClose ⟨hb2, hE2, hD2, hh2, hb.ids.add_new hno, hfA⟩ H
  · have hv : (mOf R x.1).getD (.slice none 0 0) = .slice x.2.1 x.2.2.2.length x.2.2.1 := by rw [mOf_at hb.ids hxi]; rfl
    have hil : x.2.2.2.length ≤ A.length := by
      rw [hb.ids.ids x (List.mem_of_getElem? hxi), ids_len]
      exact List.count_le_length
    refine DoS_lookupD tok keyS H mm rfl rfl x.1 ?_
    rw [if_neg Bool.false_ne_true, hv]
    (repeat first | refine go ?_ | ((try conv => whnf); (first | (refine St_gate ?_; refine xS ?_) | (refine StN_gate ?_; refine xN ?_)); clear H; intro w H))
    (refine Nw_sep H ?_; clear H; intro nb w H; (try simp only [Value.cells, List.toList_toArray, List.append_nil, List.cons_append, List.nil_append] at H))
    (repeat first | refine go ?_ | ((try conv => whnf); (first | (refine St_gate ?_; refine xS ?_) | (refine StN_gate ?_; refine xN ?_)); clear H; intro w H))
    refine Kept_in (lkKept H mm x.1 hv) ?_
    (repeat first | refine go ?_ | ((try conv => whnf); (first | (refine St_gate ?_; refine xS ?_) | (refine StN_gate ?_; refine xN ?_)); clear H; intro w H))
    replace H := H.tp 4
    replace H := H.pick hxi
    unfold rowI at H
    replace H := H.tp 2
    (refine DoN_gate ?_; refine append_one tok H rfl rfl rfl rfl rfl (by decide) mm (m := 1) rfl (by simp [oneCell]) (by omega) (by unfold maxLen; omega) ?_; clear H; intro a2 c2 w H; replace H := H _ (by repeat first | exact Upd.head | apply Upd.tail))
    (repeat first | refine go ?_ | ((try conv => whnf); (first | (refine St_gate ?_; refine xS ?_) | (refine StN_gate ?_; refine xN ?_)); clear H; intro w H))
    refine DoU_putD keyV_inj tok keyS H mm rfl x.1 _ ?_
    clear H
    intro w H
    replace H := H _ (by repeat first | exact Upd.head | apply Upd.tail)
    rw [if_pos (isSome_at hb.ids hxi)] at H
    (repeat first | refine go ?_ | ((try conv => whnf); (first | (refine St_gate ?_; refine xS ?_) | (refine StN_gate ?_; refine xN ?_)); clear H; intro w H))
    refine Ret_in ⟨x.1, hcl, rfl, ?_⟩
    have hm2 := mOf_set hb.ids hxi (a := a2) (c := c2) (l := x.2.2.2 ++ [A.length])
    replace H : Vc.Sep w0 w (rowI i (x.1, a2, c2, x.2.2.2 ++ [A.length]) :: holeR rowI R i :: engR eb s2 :: cellsR pb 51 [.pointer (some ⟨eb, 0, none⟩), .int .i32 ((n : Int) + 1), .map (some mb), .int .i64 fr] :: mapD mb keyV (mOf (R.set i (x.1, a2, c2, x.2.2.2 ++ [A.length]))) (R.set i (x.1, a2, c2, x.2.2.2 ++ [A.length])).length :: l) := by
      rw [hm2, List.length_set]
      unfold rowI
      simp only [List.length_append, List.length_singleton, List.map_append, List.map_cons, List.map_nil]
      rw [← hlen]
      exact H
    replace H := Sep.put (List.getElem?_eq_some_iff.1 hxi).1 H
    replace H := H.tp 3
    replace H := H.tp 2
    replace H := H.tp 3
    exact benClose ⟨hb2, hE2, hD2, hh2, hb.ids.add_old hxi, hfA⟩ H

theorem cutRow1 {a : Option Addr} {n cap el : Nat} {xs ys : List Value} {k : Nat} (H : Sep w0 w (ownR a n cap el 1 xs :: l)) (hk : k ≤ n) (hy : xs.take k = ys) : Sep w0 w (ownR a k cap el 1 ys :: l) :=
  H.head fun S hS => ⟨hS.1, by
    have := hS.2.cut hk
    rw [Nat.mul_one, hy] at this
    exact this⟩

theorem bDrop (H : Sep w0 w (benR pb n A m :: l)) (hp : Pow w0) {xs : List Int} {a : Option Addr} {c : Nat} (hs : ∀ {w' : World} {l' : List Res}, Sep w0 w' (l' ++ l) → Src w' a xs.length 1 (xs.map lV)) (hx : xs.length ≤ 1000000000) (ho : ∀ x ∈ xs, Lit.one x = true) (hA : A.length ≤ 1000000) :
    Does Tryd.prog 21 #[.pointer (some ⟨pb, 0, none⟩), .slice a xs.length c] w fun v w' => ∃ own, Lit.Clean xs own ∧ ((idsOf A own = [] ∧ v = .bool false ∧ Sep w0 w' (benR pb n A m :: l)) ∨
      ∃ i, (idsOf A own).getLast? = some i ∧ v = .bool true ∧ Sep w0 w' (benR pb n (A.set i (own, false)) m :: l)) := by
  obtain ⟨eb, mb, s, R, fr, hb, H⟩ := benOpen H
  unfold ben at H
  have hg := hb.bn.good
  have hn := hb.bn.n
  have hlen := hb.bn.len
  refine Does_intro tok (Tryd.call21 _ _) Tryd.func21 rfl (by rfl) ?_
  (repeat first | refine go ?_ | ((try conv => whnf); (first | (refine St_gate ?_; refine xS ?_) | (refine StN_gate ?_; refine xN ?_)); clear H; intro w H))
  refine Call_of (kKey H hp (hs (l' := [_, _, _, _]) H) (by omega) ho) ?_
  clear H
  rintro _ w ⟨own, hcl, rfl, H⟩
  have hkey : keyV own = .string ⟨(keyB own).toArray⟩ := rfl
  (repeat first | refine go ?_ | ((try conv => whnf); (first | (refine St_gate ?_; refine xS ?_) | (refine StN_gate ?_; refine xN ?_)); clear H; intro w H))
  refine Do_lookupD tok keyS H mm rfl rfl own ?_
  rw [if_neg Bool.false_ne_true]
  rcases ROk.find R own with hno | ⟨i, x, hxi, rfl⟩
  · have hv : (mOf R own).getD (.slice none 0 0) = .slice none 0 0 := by rw [mOf_none hno]; rfl
    rw [hv]
    (repeat first | refine go ?_ | ((try conv => whnf); (first | (refine St_gate ?_; refine xS ?_) | (refine StN_gate ?_; refine xN ?_)); clear H; intro w H))
    exact Ret_in ⟨own, hcl, .inl ⟨hb.ids.no own hno, rfl, benClose hb H⟩⟩
  · have hv : (mOf R x.1).getD (.slice none 0 0) = .slice x.2.1 x.2.2.2.length x.2.2.1 := by rw [mOf_at hb.ids hxi]; rfl
    have hids := hb.ids.ids x (List.mem_of_getElem? hxi)
    have hil : x.2.2.2.length ≤ A.length := by
      rw [hids, ids_len]
      exact List.count_le_length
    rw [hv]
    by_cases h0 : x.2.2.2.length = 0
    · (repeat first | refine go ?_ | ((try conv => whnf); (first | (refine St_gate ?_; refine xS ?_) | (refine StN_gate ?_; refine xN ?_)); clear H; intro w H))
      exact Ret_in ⟨x.1, hcl, .inl ⟨by rw [← hids]; exact List.length_eq_zero_iff.1 h0, rfl, benClose hb H⟩⟩
    · (repeat first | refine go ?_ | ((try conv => whnf); (first | (refine St_gate ?_; refine xS ?_) | (refine StN_gate ?_; refine xN ?_)); clear H; intro w H))
      obtain ⟨id, hlast⟩ : ∃ id, x.2.2.2.getLast? = some id := by
        cases hl : x.2.2.2.getLast? with
        | none => exact (h0 (by rw [List.getLast?_eq_none_iff.1 hl]; rfl)).elim
        | some id => exact ⟨id, rfl⟩
      have hget : x.2.2.2[x.2.2.2.length - 1]? = some id := by rw [← List.getLast?_eq_getElem?]; exact hlast
      have hAid : A[id]? = some (x.1, true) := mem_ids.1 (by rw [← hids]; exact List.mem_of_getLast? hlast)
      obtain ⟨cl, hc1, hc2, hc3, hc4⟩ := hb.bn.cls id x.1 true hAid
      have hcl0 := hg.cl cl (List.mem_of_getElem? hc1)
      have hcf := hg.lits_few (List.mem_of_getElem? hc1)
      have hgd := hb.ids.drop hxi hlast
      have hm2 := mOf_set hb.ids hxi (a := x.2.1) (c := x.2.2.1) (l := x.2.2.2.dropLast)
      replace H := H.tp 3
      replace H := H.pick hxi
      replace H : Vc.Sep w0 w (ownR x.2.1 x.2.2.2.length x.2.2.1 3 1 (x.2.2.2.map idV) :: holeR rowI R i :: _) := H
      obtain ⟨ab, hab⟩ := (H.ownM (a := x.2.1) (n := x.2.2.2.length) (cap := x.2.2.1) (.head _)).some (by omega)
      have hcap := (H.ownM (a := x.2.1) (n := x.2.2.2.length) (cap := x.2.2.1) (.head _)).2.1
      refine Draw_intro mixed [0, 1, 2, 3, 4, 5, 6, 7, 8, 9, 10] (by decide +kernel) (fun w _ fd => ?_); replace H := H.fr fd; clear fd
      (repeat first | refine go ?_ | ((try conv => whnf); (first | (refine St_gate ?_; refine xS ?_) | (refine StN_gate ?_; refine xN ?_)); clear H; intro w H))
      refine DoS_slice tok rfl rfl 0 (x.2.2.2.length - 1) (.inl ⟨rfl, rfl⟩) (.inr ⟨.i64, congrArg some (vint (by omega))⟩) (by omega) (by omega) ?_
      rw [add_zero_map, Nat.sub_zero, Nat.sub_zero]
      intro J hJ
      (repeat first | refine go ?_ | ((try conv => whnf); (first | (refine St_gate ?_; refine xS ?_) | (refine StN_gate ?_; refine xN ?_)); clear H; intro w H))
      refine DoU_putD keyV_inj tok keyS H mm rfl x.1 _ ?_
      clear H
      intro w H
      replace H := H _ (by repeat first | exact Upd.head | apply Upd.tail)
      rw [if_pos (isSome_at hb.ids hxi)] at H
      (repeat first | refine go ?_ | ((try conv => whnf); (first | (refine St_gate ?_; refine xS ?_) | (refine StN_gate ?_; refine xN ?_)); clear H; intro w H))
      refine Draw_intro mixed [0, 1, 2, 3, 4, 5, 6, 7, 8, 9, 10, 11, 12] (by decide +kernel) (fun w _ fd => ?_); replace H := H.fr fd; clear fd
      (repeat first | refine go ?_ | ((try conv => whnf); (first | (refine St_gate ?_; refine xS ?_) | (refine StN_gate ?_; refine xN ?_)); clear H; intro w H))
      rw [hab]
      refine Ix_in (x.2.2.2.length - 1) (by omega) (by omega) ?_
      have hs0 := H.srcM (a := x.2.1) (n := x.2.2.2.length) (cap := x.2.2.1) (el := 3) (sz := 1) (xs := x.2.2.2.map idV) (.head _)
      rw [hab] at hs0
      refine Ld_src (j := x.2.2.2.length - 1) hs0 (v := idV id) (by rw [List.getElem?_map, hget]; rfl) ?_
      clear hs0
      (repeat first | refine go ?_ | ((try conv => whnf); (first | (refine St_gate ?_; refine xS ?_) | (refine StN_gate ?_; refine xN ?_)); clear H; intro w H))
      replace H := H.tp 3
      refine Call_of (eRemove H hc1 hc2 (fun y hy => by rw [one_ok]; exact (hcl0.1 y hy).1) (by omega) (by omega)) ?_
      clear H
      rintro _ w (⟨_, ⟨y, _, hy⟩, _⟩ | ⟨rfl, _, H⟩)
      · have := val_tru hy.2
        rw [hb.E] at this
        obtain ⟨e, he, _⟩ := this
        cases he
      (repeat first | refine go ?_ | ((try conv => whnf); (first | (refine St_gate ?_; refine xS ?_) | (refine StN_gate ?_; refine xN ?_)); clear H; intro w H))
      refine Ret_in ⟨x.1, hcl, .inr ⟨id, by rw [← hids]; exact hlast, rfl, ?_⟩⟩
      have hdl : x.2.2.2.dropLast.length = x.2.2.2.length - 1 := List.length_dropLast
      replace H := H.tp 1
      replace H := cutRow1 (ys := x.2.2.2.dropLast.map idV) (k := x.2.2.2.dropLast.length) H (by omega) (by rw [hdl, ← List.map_take, ← List.dropLast_eq_take])
      replace H := H.tp 2
      replace H := H.tp 1
      replace H : Vc.Sep w0 w (rowI i (x.1, x.2.1, x.2.2.1, x.2.2.2.dropLast) :: holeR rowI R i :: _) := H
      replace H := Sep.put (List.getElem?_eq_some_iff.1 hxi).1 H
      have e : mapD mb keyV (Vc.putM (mOf R) x.1 (.slice x.2.1 (x.2.2.2.length - 1) x.2.2.1)) R.length = mapD mb keyV (mOf (R.set i (x.1, x.2.1, x.2.2.1, x.2.2.2.dropLast))) (R.set i (x.1, x.2.1, x.2.2.1, x.2.2.2.dropLast)).length := by
        rw [hm2, List.length_set, hdl]
      rw [e] at H
      replace H := H.tp 3
      replace H := H.tp 2
      replace H := H.tp 3
      exact benClose ⟨hb.bn.remove hc1 hAid hb.E, hb.E, hb.D, hb.h, hgd, fun k b hk => (List.mem_or_eq_of_mem_set hk).elim (hb.fit k b) fun e => by cases e; exact hb.fit _ _ (List.mem_of_getElem? hAid)⟩ H
end
end Go.Proofs.YtkgmgjiomniijaaDoor
