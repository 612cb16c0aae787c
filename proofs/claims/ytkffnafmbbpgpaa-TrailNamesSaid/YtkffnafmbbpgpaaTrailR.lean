/- What the document's functions of the chapter on the trail hand back. -/
import Derived.Test.YtkffnafmbbpgpaaTrailS
namespace Go.Proofs.Ytkffnafmbbpgpaa
open Go Go.Trail
open Go.Vc hiding find
set_option linter.unusedVariables false
set_option linter.unusedSimpArgs false

theorem refOne (l : Int) (w : World) : Does Try.prog 32 #[.int .i32 l] w fun v w' => v = .bool (okLit l) ∧ w = w' := by
  refine Does_intro tok (Try.call32 _ _) Try.func32 rfl (by rfl) ?_
  have hyes : (l ≠ 0 ∧ -262144 ≤ l ∧ l ≤ 262144) → okLit l = true := okLit_iff.2
  have hno : ¬ (l ≠ 0 ∧ -262144 ≤ l ∧ l ≤ 262144) → okLit l = false := fun h => by
    cases hc : okLit l with
    | false => rfl
    | true => exact absurd (okLit_iff.1 hc) h
  refine Br_dec (fun h1 => ?_) (fun h1 => ?_)
  · (repeat (first | refine Br_true ?_ | refine Br_false ?_))
    refine Br_dec (fun h2 => ?_) (fun h2 => ?_)
    · (repeat (first | refine Br_true ?_ | refine Br_false ?_))
      refine Ret_in ⟨vbool ?_, rfl⟩
      rw [hyes (by omega)]
    · (repeat (first | refine Br_true ?_ | refine Br_false ?_))
      refine Br_dec (fun h3 => ?_) (fun h3 => ?_)
      · omega
      · (repeat (first | refine Br_true ?_ | refine Br_false ?_))
        refine Ret_in ⟨vbool ?_, rfl⟩
        rw [hno (by omega)]
  · (repeat (first | refine Br_true ?_ | refine Br_false ?_))
    refine Br_dec (fun h3 => ?_) (fun h3 => ?_)
    · (repeat (first | refine Br_true ?_ | refine Br_false ?_))
      refine Ret_in ⟨vbool ?_, rfl⟩
      by_cases h4 : -262144 ≤ l
      · rw [hyes (by omega), decide_eq_true h4]
      · rw [hno (by omega), decide_eq_false h4]
    · (repeat (first | refine Br_true ?_ | refine Br_false ?_))
      refine Ret_in ⟨vbool ?_, rfl⟩
      rw [hno (by omega)]

theorem refVar (l : Int) (w : World) : Does Try.prog 16 #[.int .i32 l] w fun v w' => v = .int .i64 (var l) ∧ w = w' := by
  refine Does_intro tok (Try.call16 _ _) Try.func16 rfl (by rfl) ?_
  refine Call_of (refOne _ _) ?_
  rintro v w1 ⟨rfl, rfl⟩
  refine Br_not (Br_if (fun h => ?_) (fun h => ?_))
  · have h' := okLit_iff.1 h
    have hv := var_ok h
    refine Br_dec (fun h2 => ?_) (fun h2 => ?_)
    · (repeat (first | refine Br_true ?_ | refine Br_false ?_ | refine Ar_i64 (by omega) (by omega) ?_ | refine Eqv_in ?_ | refine Br_dec_yes (by omega) ?_ | refine Br_dec_no (by omega) ?_ | refine Br_eq_yes rfl ?_ | refine Br_ne_no rfl ?_ | refine Br_eq_yes (by omega) ?_ | refine Br_eq_no (by omega) ?_ | refine Br_ne_yes (by omega) ?_ | refine Br_ne_no (by omega) ?_ | refine Br_not ?_ | refine Join_dup (Br_dec_yes (by omega) ?_) | refine Join_dup (Br_dec_no (by omega) ?_) | refine Join_dup (Br_eq_yes (by omega) ?_) | refine Join_dup (Br_eq_no (by omega) ?_) | refine Join_dup (Br_ne_yes (by omega) ?_) | refine Join_dup (Br_ne_no (by omega) ?_) | refine Ar_i32 (by omega) (by omega) ?_ | refine Ar_u64 (by omega) (by omega) ?_ | refine Ar_u32 (by omega) (by omega) ?_ | refine Nn_in (by omega) ?_ | refine Nz_in (by omega) ?_))
      exact Ret_in ⟨vint (by omega), rfl⟩
    · (repeat (first | refine Br_true ?_ | refine Br_false ?_ | refine Ar_i64 (by omega) (by omega) ?_ | refine Eqv_in ?_ | refine Br_dec_yes (by omega) ?_ | refine Br_dec_no (by omega) ?_ | refine Br_eq_yes rfl ?_ | refine Br_ne_no rfl ?_ | refine Br_eq_yes (by omega) ?_ | refine Br_eq_no (by omega) ?_ | refine Br_ne_yes (by omega) ?_ | refine Br_ne_no (by omega) ?_ | refine Br_not ?_ | refine Join_dup (Br_dec_yes (by omega) ?_) | refine Join_dup (Br_dec_no (by omega) ?_) | refine Join_dup (Br_eq_yes (by omega) ?_) | refine Join_dup (Br_eq_no (by omega) ?_) | refine Join_dup (Br_ne_yes (by omega) ?_) | refine Join_dup (Br_ne_no (by omega) ?_) | refine Ar_i32 (by omega) (by omega) ?_ | refine Ar_u64 (by omega) (by omega) ?_ | refine Ar_u32 (by omega) (by omega) ?_ | refine Nn_in (by omega) ?_ | refine Nz_in (by omega) ?_))
      exact Ret_in ⟨vint (by omega), rfl⟩
  · refine Ret_in ⟨vint ?_, rfl⟩
    rw [var_no h]; rfl

/-- Are two rows of literals the same? -/
theorem refSame (a a' : Option Addr) (m m' c c' : Nat) (xs ys : List Int) (w : World) (h : Src w a m 1 (xs.map (Value.int .i32))) (h' : Src w a' m' 1 (ys.map (Value.int .i32))) (hm : m ≤ 1000000000) (hm' : m' ≤ 1000000000) :
    Does Try.prog 21 #[.slice a m c, .slice a' m' c'] w fun v w' => v = .bool (decide (xs = ys)) ∧ Fr (fun _ => False) w w' := by
  have hl : xs.length = m := by have := h.1; simpa using this
  have hl' : ys.length = m' := by have := h'.1; simpa using this
  refine Does_intro tok (Try.call21 _ _) Try.func21 rfl (by rfl) ?_
  refine Br_ne (fun h1 => ?_) (fun h1 => ?_)
  · refine Ret_in ⟨vbool ?_, Fr.refl _ _⟩
    rw [decide_eq_false]
    intro h; subst h; omega
  · obtain rfl : m = m' := by omega
    refine Loop_intro (fun i : Nat => [(13, .int .i64 i)]) (fun i w' => Fr (fun _ => False) w w' ∧ i ≤ m ∧ xs.take i = ys.take i) (fun i => m - i) 0 ⟨rfl, trivial⟩ ⟨Fr.refl _ _, by omega, by simp⟩ ?_
    rintro i w1 ⟨f1, hi, he⟩
    refine Br_dec (fun k => ?_) (fun k => ?_)
    · have hi1 : i < xs.length := by omega
      have hi2 : i < ys.length := by omega
      have g1 : (xs.map (Value.int .i32))[i]? = some (.int .i32 xs[i]) := by simp [hi1]
      have g2 : (ys.map (Value.int .i32))[i]? = some (.int .i32 ys[i]) := by simp [hi2]
      obtain ⟨b, o, rfl⟩ := h.addr (by simp; omega)
      obtain ⟨b', o', rfl⟩ := h'.addr (by simp; omega)
      have s1 := h.fr f1 (fun _ _ h => h)
      have s1' := h'.fr f1 (fun _ _ h => h)
      refine Draw_intro mixed [0, 1, 2, 3, 4, 5, 6, 7, 8] (by decide +kernel) (fun w2 eh f2 => ?_)
      have s2 := s1.fr f2 (fun _ _ h => h)
      have s2' := s1'.fr f2 (fun _ _ h => h)
      refine Ix_in i rfl (by omega) ?_
      refine Ld_src s2 g1 ?_
      refine Ix_in i rfl (by omega) ?_
      refine Ld_src s2' g2 ?_
      refine Br_ne (fun h3 => ?_) (fun h3 => ?_)
      · refine Ret_in ⟨vbool ?_, f1.trans f2⟩
        rw [decide_eq_false]
        intro h4; subst h4; exact h3 rfl
      · (repeat (first | refine Br_true ?_ | refine Br_false ?_ | refine Ar_i64 (by omega) (by omega) ?_ | refine Eqv_in ?_ | refine Br_dec_yes (by omega) ?_ | refine Br_dec_no (by omega) ?_ | refine Br_eq_yes rfl ?_ | refine Br_ne_no rfl ?_ | refine Br_eq_yes (by omega) ?_ | refine Br_eq_no (by omega) ?_ | refine Br_ne_yes (by omega) ?_ | refine Br_ne_no (by omega) ?_ | refine Br_not ?_ | refine Join_dup (Br_dec_yes (by omega) ?_) | refine Join_dup (Br_dec_no (by omega) ?_) | refine Join_dup (Br_eq_yes (by omega) ?_) | refine Join_dup (Br_eq_no (by omega) ?_) | refine Join_dup (Br_ne_yes (by omega) ?_) | refine Join_dup (Br_ne_no (by omega) ?_) | refine Ar_i32 (by omega) (by omega) ?_ | refine Ar_u64 (by omega) (by omega) ?_ | refine Ar_u32 (by omega) (by omega) ?_ | refine Nn_in (by omega) ?_ | refine Nz_in (by omega) ?_))
        refine ⟨i + 1, ⟨congrArg some (vint (by omega)), trivial⟩, ⟨f1.trans f2, by omega, ?_⟩, by omega⟩
        rw [List.take_add_one, List.take_add_one, he, List.getElem?_eq_getElem hi1, List.getElem?_eq_getElem hi2, h3]
    · refine Ret_in ⟨vbool ?_, f1⟩
      rw [List.take_of_length_le (by omega), List.take_of_length_le (by omega)] at he
      exact (decide_eq_true he).symm

/-! The document's trail: how many variables, how deep, and a list of entries -/
/-- The document's trail as a value: its list is a row that is owned. -/
def refV (n D : Nat) (a : Option Addr) (E : List Ent) (c : Nat) : Value := .agg #[.int .i64 n, .int .i64 D, .slice a E.length c]

section
variable {n D : Nat} {E : List Ent} {a : Option Addr} {c : Nat} {w : World}

theorem find_snoc {E : List Ent} {i : Nat} {x : Ent} {v : Int} (h : E[i]? = some x) (hn : find (E.take i) v = none) : find (E.take (i + 1)) v = if (var x.lit : Int) = v ∧ 0 < v then some x else none := by
  rw [List.take_add_one, h]
  show find (E.take i ++ [x]) v = _
  rw [find_app, hn]
  unfold find
  by_cases hc : (var x.lit : Int) = v ∧ 0 < v
  · rw [if_pos hc, List.find?_cons_of_pos (by simp [hc])]; rfl
  · rw [if_neg hc, List.find?_cons_of_neg (by simpa using hc)]; rfl

theorem find_take {E : List Ent} {i : Nat} {x : Ent} {v : Int} (h : find (E.take i) v = some x) : find E v = some x := by
  have : E = E.take i ++ E.drop i := (List.take_append_drop i E).symm
  rw [this]
  unfold find at h ⊢
  rw [List.find?_append, h]; rfl


theorem refFind {W : World} (v : Int) (hE : E.length ≤ 1000000) (h : Src W a E.length 3 (entsV E)) : Does Try.prog 24 #[refV n D a E c, .int .i64 v] W fun r w' => r = .tuple #[.agg (told E v).1.toArray, .bool (told E v).2] ∧ Vc.Sep W w' [] := by
  have H := Sep.nil W
  refine Does_intro tok (Try.call24 _ _) Try.func24 rfl (by rfl) ?_
  (refine Nw_sep H ?_; clear H; intro b1 w H; (try simp only [Value.cells, List.toList_toArray, List.append_nil, List.cons_append, List.nil_append] at H))
  (refine Nw_sep H ?_; clear H; intro b2 w H; (try simp only [Value.cells, List.toList_toArray, List.append_nil, List.cons_append, List.nil_append] at H))
  (refine Ld_gate ?_; refine Ld_m H (by repeat first | exact List.Mem.head _ | refine List.Mem.tail _ ?_) (by rfl) ?_)
  refine Loop_intro (fun i : Nat => [(11, .int .i64 i)]) (fun i w' => Vc.Sep W w' [cellsR b2 52 [.int .i32 0, .int .i64 0, .int .i64 0]] ∧ i ≤ E.length ∧ find (E.take i) v = none) (fun i => E.length - i) 0 ⟨rfl, trivial⟩ ⟨H.drop 1 rfl rfl, by omega, rfl⟩ ?_
  clear H
  rintro i w ⟨H, hi, hn⟩
  refine Br_dec (fun k => ?_) (fun k => ?_)
  · have hi' : i < E.length := by omega
    have ex := List.getElem?_eq_getElem hi'
    obtain ⟨bs, o, rfl⟩ := h.addr (by rw [entsV_len]; omega)
    have hs := find_snoc (v := v) ex hn
    generalize E[i] = x at ex hs
    refine Ix_in i rfl hi' ?_
    refine LdN_src (j := i * 3) (H.rd h) (show _ = [.int .i32 x.lit, .int .i64 x.lev, .int .i64 x.rea] from entsV_part ex) rfl ?_
    (refine Nw_sep H ?_; clear H; intro b4 w H; (try simp only [Value.cells, List.toList_toArray, List.append_nil, List.cons_append, List.nil_append] at H))
    (refine StN_gate ?_; refine StN_u H (by repeat first | exact Upd.head | apply Upd.tail) (by simp [oneCell]) (by rfl) ?_; clear H; intro w H)
    (refine Ld_gate ?_; refine Ld_m H (by repeat first | exact List.Mem.head _ | refine List.Mem.tail _ ?_) (by rfl) ?_)
    refine Call_of (refVar _ _) ?_
    rintro _ _ ⟨rfl, rfl⟩
    refine Br_eq (fun k1 => ?_) (fun k1 => ?_)
    · (repeat (first | refine Br_true ?_ | refine Br_false ?_))
      refine Br_dec (fun k2 => ?_) (fun k2 => ?_)
      · (refine LdN_gate ?_; refine LdN_m H (by repeat first | exact List.Mem.head _ | refine List.Mem.tail _ ?_) (by rfl) ?_)
        (refine StN_gate ?_; refine StN_u H (by repeat first | exact Upd.head | apply Upd.tail) (by simp [oneCell]) (by rfl) ?_; clear H; intro w H)
        (refine LdN_gate ?_; refine LdN_m H (by repeat first | exact List.Mem.head _ | refine List.Mem.tail _ ?_) (by rfl) ?_)
        refine Ret_in ⟨?_, H.all⟩
        rw [if_pos ⟨k1, k2⟩] at hs
        unfold told; rw [find_take hs]; rfl
      · (repeat (first | refine Br_true ?_ | refine Br_false ?_ | refine Ar_i64 (by omega) (by omega) ?_ | refine Eqv_in ?_ | refine Br_dec_yes (by omega) ?_ | refine Br_dec_no (by omega) ?_ | refine Br_eq_yes rfl ?_ | refine Br_ne_no rfl ?_ | refine Br_eq_yes (by omega) ?_ | refine Br_eq_no (by omega) ?_ | refine Br_ne_yes (by omega) ?_ | refine Br_ne_no (by omega) ?_ | refine Br_not ?_ | refine Join_dup (Br_dec_yes (by omega) ?_) | refine Join_dup (Br_dec_no (by omega) ?_) | refine Join_dup (Br_eq_yes (by omega) ?_) | refine Join_dup (Br_eq_no (by omega) ?_) | refine Join_dup (Br_ne_yes (by omega) ?_) | refine Join_dup (Br_ne_no (by omega) ?_) | refine Ar_i32 (by omega) (by omega) ?_ | refine Ar_u64 (by omega) (by omega) ?_ | refine Ar_u32 (by omega) (by omega) ?_ | refine Nn_in (by omega) ?_ | refine Nz_in (by omega) ?_))
        exact ⟨i + 1, ⟨congrArg some (vint (by omega)), trivial⟩, ⟨H.tail, by omega, by rw [hs, if_neg (by omega)]⟩, by omega⟩
    · (repeat (first | refine Br_true ?_ | refine Br_false ?_ | refine Ar_i64 (by omega) (by omega) ?_ | refine Eqv_in ?_ | refine Br_dec_yes (by omega) ?_ | refine Br_dec_no (by omega) ?_ | refine Br_eq_yes rfl ?_ | refine Br_ne_no rfl ?_ | refine Br_eq_yes (by omega) ?_ | refine Br_eq_no (by omega) ?_ | refine Br_ne_yes (by omega) ?_ | refine Br_ne_no (by omega) ?_ | refine Br_not ?_ | refine Join_dup (Br_dec_yes (by omega) ?_) | refine Join_dup (Br_dec_no (by omega) ?_) | refine Join_dup (Br_eq_yes (by omega) ?_) | refine Join_dup (Br_eq_no (by omega) ?_) | refine Join_dup (Br_ne_yes (by omega) ?_) | refine Join_dup (Br_ne_no (by omega) ?_) | refine Ar_i32 (by omega) (by omega) ?_ | refine Ar_u64 (by omega) (by omega) ?_ | refine Ar_u32 (by omega) (by omega) ?_ | refine Nn_in (by omega) ?_ | refine Nz_in (by omega) ?_))
      exact ⟨i + 1, ⟨congrArg some (vint (by omega)), trivial⟩, ⟨H.tail, by omega, by rw [hs, if_neg (by omega)]⟩, by omega⟩
  · (refine StN_gate ?_; refine StN_u H (by repeat first | exact Upd.head | apply Upd.tail) (by simp [oneCell]) (by rfl) ?_; clear H; intro w H)
    (refine LdN_gate ?_; refine LdN_m H (by repeat first | exact List.Mem.head _ | refine List.Mem.tail _ ?_) (by rfl) ?_)
    refine Ret_in ⟨?_, H.all⟩
    rw [List.take_of_length_le (by omega)] at hn
    unfold told; rw [hn]; rfl

theorem value_snoc {E : List Ent} {i : Nat} {x : Ent} {l : Int} (h : E[i]? = some x) (hn : value (E.take i) l = 0) : value (E.take (i + 1)) l = if x.lit = l then 1 else if okLit l = true ∧ x.lit = -l then -1 else 0 := by
  rw [List.take_add_one, h]
  show value (E.take i ++ [x]) l = _
  rw [value_app, if_pos hn]; rfl

theorem value_take {E : List Ent} {i : Nat} {l : Int} (hn : value (E.take i) l ≠ 0) : value E l = value (E.take i) l := by
  conv => lhs; rw [← List.take_append_drop i E]
  rw [value_app, if_neg hn]

theorem refValue {W : World} (v : Int) (hv : -2147483648 < v ∧ v ≤ 2147483647) (hE : E.length ≤ 1000000) (h : Src W a E.length 3 (entsV E)) : Does Try.prog 26 #[refV n D a E c, .int .i32 v] W fun r w' => r = .int .i64 (value E v) ∧ Vc.Sep W w' [] := by
  have H := Sep.nil W
  refine Does_intro tok (Try.call26 _ _) Try.func26 rfl (by rfl) ?_
  (refine Nw_sep H ?_; clear H; intro b1 w H; (try simp only [Value.cells, List.toList_toArray, List.append_nil, List.cons_append, List.nil_append] at H))
  (refine Ld_gate ?_; refine Ld_m H (by repeat first | exact List.Mem.head _ | refine List.Mem.tail _ ?_) (by rfl) ?_)
  refine Loop_intro (fun i : Nat => [(10, .int .i64 i)]) (fun i w' => Vc.Sep W w' [] ∧ i ≤ E.length ∧ value (E.take i) v = 0) (fun i => E.length - i) 0 ⟨rfl, trivial⟩ ⟨H.all, by omega, rfl⟩ ?_
  clear H
  rintro i w ⟨H, hi, hn⟩
  refine Br_dec (fun k => ?_) (fun k => ?_)
  · have hi' : i < E.length := by omega
    have ex := List.getElem?_eq_getElem hi'
    obtain ⟨bs, o, rfl⟩ := h.addr (by rw [entsV_len]; omega)
    have hs := value_snoc (l := v) ex hn
    have ht := value_take (E := E) (i := i + 1) (l := v)
    generalize E[i] = x at ex hs
    refine Ix_in i rfl hi' ?_
    refine LdN_src (j := i * 3) (H.rd h) (show _ = [.int .i32 x.lit, .int .i64 x.lev, .int .i64 x.rea] from entsV_part ex) rfl ?_
    (refine Nw_sep H ?_; clear H; intro b4 w H; (try simp only [Value.cells, List.toList_toArray, List.append_nil, List.cons_append, List.nil_append] at H))
    (refine StN_gate ?_; refine StN_u H (by repeat first | exact Upd.head | apply Upd.tail) (by simp [oneCell]) (by rfl) ?_; clear H; intro w H)
    (refine Ld_gate ?_; refine Ld_m H (by repeat first | exact List.Mem.head _ | refine List.Mem.tail _ ?_) (by rfl) ?_)
    refine Br_eq (fun k1 => ?_) (fun k1 => ?_)
    · refine Ret_in ⟨vint ?_, H.all⟩
      rw [if_pos k1] at hs
      rw [ht (by omega), hs]
    · rw [if_neg k1] at hs
      refine Call_of (refOne _ _) ?_
      rintro _ _ ⟨rfl, rfl⟩
      refine Br_if (fun k2 => ?_) (fun k2 => ?_)
      · (repeat ((try conv => whnf); first | refine Join_dup ?_ | (refine Br_gate ?_; first | refine Br_true ?_ | refine Br_false ?_ | refine Br_dec_yes (by omega) ?_ | refine Br_dec_no (by omega) ?_ | refine Br_eq_yes rfl ?_ | refine Br_ne_no rfl ?_ | refine Br_eq_yes (by omega) ?_ | refine Br_eq_no (by omega) ?_ | refine Br_ne_yes (by omega) ?_ | refine Br_ne_no (by omega) ?_ | refine Br_not ?_) | refine Do_ptr_eq_nil tok rfl ?_ | refine Do_nil_eq_nil tok rfl ?_ | refine Do_ptr_ne_nil tok rfl ?_ | (refine Ld_gate ?_; refine Ld_m H (by repeat first | exact List.Mem.head _ | refine List.Mem.tail _ ?_) (by rfl) ?_) | (refine LdN_gate ?_; refine LdN_m H (by repeat first | exact List.Mem.head _ | refine List.Mem.tail _ ?_) (by rfl) ?_) | (refine St_gate ?_; refine St_u H (by repeat first | exact Upd.head | apply Upd.tail) (by rfl) (by simp) (by simp only [List.set_cons_succ, List.set_cons_zero]; rfl) ?_; clear H; intro w H) | (refine StN_gate ?_; refine StN_u H (by repeat first | exact Upd.head | apply Upd.tail) (by simp [oneCell]) (by rfl) ?_; clear H; intro w H) | (refine Kept_gate ?_; first | refine Kept_in (Sep.cellAt H (by repeat first | exact List.Mem.head _ | refine List.Mem.tail _ ?_) (by rfl)) ?_ | refine Kept_in (Sep.cellN H (by repeat first | exact List.Mem.head _ | refine List.Mem.tail _ ?_)) ?_) | (refine Ar_gate ?_; first | refine Ar_i64 (by omega) (by omega) ?_ | refine Ar_i32 (by omega) (by omega) ?_ | refine Ar_u64 (by omega) (by omega) ?_ | refine Ar_u32 (by omega) (by omega) ?_ | refine Ar_u8 (by omega) (by omega) ?_) | refine Eqv_in ?_ | refine Nn_in (by omega) ?_ | refine Nz_in (by omega) ?_))
        refine Br_eq (fun k3 => ?_) (fun k3 => ?_)
        · refine Ret_in ⟨vint ?_, H.all⟩
          rw [if_pos ⟨k2, by omega⟩] at hs
          rw [ht (by omega), hs]
        · (repeat (first | refine Br_true ?_ | refine Br_false ?_ | refine Ar_i64 (by omega) (by omega) ?_ | refine Eqv_in ?_ | refine Br_dec_yes (by omega) ?_ | refine Br_dec_no (by omega) ?_ | refine Br_eq_yes rfl ?_ | refine Br_ne_no rfl ?_ | refine Br_eq_yes (by omega) ?_ | refine Br_eq_no (by omega) ?_ | refine Br_ne_yes (by omega) ?_ | refine Br_ne_no (by omega) ?_ | refine Br_not ?_ | refine Join_dup (Br_dec_yes (by omega) ?_) | refine Join_dup (Br_dec_no (by omega) ?_) | refine Join_dup (Br_eq_yes (by omega) ?_) | refine Join_dup (Br_eq_no (by omega) ?_) | refine Join_dup (Br_ne_yes (by omega) ?_) | refine Join_dup (Br_ne_no (by omega) ?_) | refine Ar_i32 (by omega) (by omega) ?_ | refine Ar_u64 (by omega) (by omega) ?_ | refine Ar_u32 (by omega) (by omega) ?_ | refine Nn_in (by omega) ?_ | refine Nz_in (by omega) ?_))
          exact ⟨i + 1, ⟨congrArg some (vint (by omega)), trivial⟩, ⟨H.tail, by omega, by rw [hs, if_neg (fun hh => k3 (by omega))]⟩, by omega⟩
      · (repeat (first | refine Br_true ?_ | refine Br_false ?_ | refine Ar_i64 (by omega) (by omega) ?_ | refine Eqv_in ?_ | refine Br_dec_yes (by omega) ?_ | refine Br_dec_no (by omega) ?_ | refine Br_eq_yes rfl ?_ | refine Br_ne_no rfl ?_ | refine Br_eq_yes (by omega) ?_ | refine Br_eq_no (by omega) ?_ | refine Br_ne_yes (by omega) ?_ | refine Br_ne_no (by omega) ?_ | refine Br_not ?_ | refine Join_dup (Br_dec_yes (by omega) ?_) | refine Join_dup (Br_dec_no (by omega) ?_) | refine Join_dup (Br_eq_yes (by omega) ?_) | refine Join_dup (Br_eq_no (by omega) ?_) | refine Join_dup (Br_ne_yes (by omega) ?_) | refine Join_dup (Br_ne_no (by omega) ?_) | refine Ar_i32 (by omega) (by omega) ?_ | refine Ar_u64 (by omega) (by omega) ?_ | refine Ar_u32 (by omega) (by omega) ?_ | refine Nn_in (by omega) ?_ | refine Nz_in (by omega) ?_))
        exact ⟨i + 1, ⟨congrArg some (vint (by omega)), trivial⟩, ⟨H.tail, by omega, by rw [hs, if_neg (fun hh => by rw [k2] at hh; cases hh.1)]⟩, by omega⟩
  · rw [List.take_of_length_le (by omega)] at hn
    exact Ret_in ⟨vint hn.symm, H.all⟩

set_option maxHeartbeats 4000000 in
theorem refSet {W : World} (x r : Int) (hE : E.length ≤ 1000000) (h : Src W a E.length 3 (entsV E)) : Does Try.prog 18 #[refV n D a E c, .int .i32 x, .int .i64 r] W fun v w' =>
    (freeNo n E x ≠ 0 ∧ v = .tuple #[refV n D a E c, .int .i64 (freeNo n E x)] ∧ Vc.Sep W w' []) ∨
    (freeNo n E x = 0 ∧ ∃ a' c', v = .tuple #[refV n D a' (E ++ [⟨x, D, r⟩]) c', .int .i64 0] ∧ Vc.Sep W w' [ownR a' (E ++ [(⟨x, D, r⟩ : Ent)]).length c' 52 3 (entsV (E ++ [⟨x, D, r⟩]))]) := by
  have H := Sep.nil W
  refine Does_intro tok (Try.call18 _ _) Try.func18 rfl (by rfl) ?_
  (refine Nw_sep H ?_; clear H; intro b1 w H; (try simp only [Value.cells, List.toList_toArray, List.append_nil, List.cons_append, List.nil_append] at H))
  (refine Nw_sep H ?_; clear H; intro b2 w H; (try simp only [Value.cells, List.toList_toArray, List.append_nil, List.cons_append, List.nil_append] at H))
  refine Call_of (refVar _ _) ?_
  rintro _ _ ⟨rfl, rfl⟩
  have hcode : ∀ e : Int, freeNo n E x = e → True := fun _ _ => trivial
  refine Br_eq (fun k1 => ?_) (fun k1 => ?_)
  · (repeat ((try conv => whnf); first | refine Join_dup ?_ | (refine Br_gate ?_; first | refine Br_true ?_ | refine Br_false ?_ | refine Br_dec_yes (by omega) ?_ | refine Br_dec_no (by omega) ?_ | refine Br_eq_yes rfl ?_ | refine Br_ne_no rfl ?_ | refine Br_eq_yes (by omega) ?_ | refine Br_eq_no (by omega) ?_ | refine Br_ne_yes (by omega) ?_ | refine Br_ne_no (by omega) ?_ | refine Br_not ?_) | refine Do_ptr_eq_nil tok rfl ?_ | refine Do_nil_eq_nil tok rfl ?_ | refine Do_ptr_ne_nil tok rfl ?_ | (refine Ld_gate ?_; refine Ld_m H (by repeat first | exact List.Mem.head _ | refine List.Mem.tail _ ?_) (by rfl) ?_) | (refine LdN_gate ?_; refine LdN_m H (by repeat first | exact List.Mem.head _ | refine List.Mem.tail _ ?_) (by rfl) ?_) | (refine St_gate ?_; refine St_u H (by repeat first | exact Upd.head | apply Upd.tail) (by rfl) (by simp) (by simp only [List.set_cons_succ, List.set_cons_zero]; rfl) ?_; clear H; intro w H) | (refine StN_gate ?_; refine StN_u H (by repeat first | exact Upd.head | apply Upd.tail) (by simp [oneCell]) (by rfl) ?_; clear H; intro w H) | (refine Kept_gate ?_; first | refine Kept_in (Sep.cellAt H (by repeat first | exact List.Mem.head _ | refine List.Mem.tail _ ?_) (by rfl)) ?_ | refine Kept_in (Sep.cellN H (by repeat first | exact List.Mem.head _ | refine List.Mem.tail _ ?_)) ?_) | (refine Ar_gate ?_; first | refine Ar_i64 (by omega) (by omega) ?_ | refine Ar_i32 (by omega) (by omega) ?_ | refine Ar_u64 (by omega) (by omega) ?_ | refine Ar_u32 (by omega) (by omega) ?_ | refine Ar_u8 (by omega) (by omega) ?_) | refine Eqv_in ?_ | refine Nn_in (by omega) ?_ | refine Nz_in (by omega) ?_))
    have hf : freeNo n E x = 41 := by unfold freeNo; rw [if_neg (by omega)]
    refine Ret_in (.inl ⟨by omega, ?_, H.all⟩)
    rw [hf]; rfl
  · (repeat ((try conv => whnf); first | refine Join_dup ?_ | (refine Br_gate ?_; first | refine Br_true ?_ | refine Br_false ?_ | refine Br_dec_yes (by omega) ?_ | refine Br_dec_no (by omega) ?_ | refine Br_eq_yes rfl ?_ | refine Br_ne_no rfl ?_ | refine Br_eq_yes (by omega) ?_ | refine Br_eq_no (by omega) ?_ | refine Br_ne_yes (by omega) ?_ | refine Br_ne_no (by omega) ?_ | refine Br_not ?_) | refine Do_ptr_eq_nil tok rfl ?_ | refine Do_nil_eq_nil tok rfl ?_ | refine Do_ptr_ne_nil tok rfl ?_ | (refine Ld_gate ?_; refine Ld_m H (by repeat first | exact List.Mem.head _ | refine List.Mem.tail _ ?_) (by rfl) ?_) | (refine LdN_gate ?_; refine LdN_m H (by repeat first | exact List.Mem.head _ | refine List.Mem.tail _ ?_) (by rfl) ?_) | (refine St_gate ?_; refine St_u H (by repeat first | exact Upd.head | apply Upd.tail) (by rfl) (by simp) (by simp only [List.set_cons_succ, List.set_cons_zero]; rfl) ?_; clear H; intro w H) | (refine StN_gate ?_; refine StN_u H (by repeat first | exact Upd.head | apply Upd.tail) (by simp [oneCell]) (by rfl) ?_; clear H; intro w H) | (refine Kept_gate ?_; first | refine Kept_in (Sep.cellAt H (by repeat first | exact List.Mem.head _ | refine List.Mem.tail _ ?_) (by rfl)) ?_ | refine Kept_in (Sep.cellN H (by repeat first | exact List.Mem.head _ | refine List.Mem.tail _ ?_)) ?_) | (refine Ar_gate ?_; first | refine Ar_i64 (by omega) (by omega) ?_ | refine Ar_i32 (by omega) (by omega) ?_ | refine Ar_u64 (by omega) (by omega) ?_ | refine Ar_u32 (by omega) (by omega) ?_ | refine Ar_u8 (by omega) (by omega) ?_) | refine Eqv_in ?_ | refine Nn_in (by omega) ?_ | refine Nz_in (by omega) ?_))
    refine Br_dec (fun k2 => ?_) (fun k2 => ?_)
    · (repeat ((try conv => whnf); first | refine Join_dup ?_ | (refine Br_gate ?_; first | refine Br_true ?_ | refine Br_false ?_ | refine Br_dec_yes (by omega) ?_ | refine Br_dec_no (by omega) ?_ | refine Br_eq_yes rfl ?_ | refine Br_ne_no rfl ?_ | refine Br_eq_yes (by omega) ?_ | refine Br_eq_no (by omega) ?_ | refine Br_ne_yes (by omega) ?_ | refine Br_ne_no (by omega) ?_ | refine Br_not ?_) | refine Do_ptr_eq_nil tok rfl ?_ | refine Do_nil_eq_nil tok rfl ?_ | refine Do_ptr_ne_nil tok rfl ?_ | (refine Ld_gate ?_; refine Ld_m H (by repeat first | exact List.Mem.head _ | refine List.Mem.tail _ ?_) (by rfl) ?_) | (refine LdN_gate ?_; refine LdN_m H (by repeat first | exact List.Mem.head _ | refine List.Mem.tail _ ?_) (by rfl) ?_) | (refine St_gate ?_; refine St_u H (by repeat first | exact Upd.head | apply Upd.tail) (by rfl) (by simp) (by simp only [List.set_cons_succ, List.set_cons_zero]; rfl) ?_; clear H; intro w H) | (refine StN_gate ?_; refine StN_u H (by repeat first | exact Upd.head | apply Upd.tail) (by simp [oneCell]) (by rfl) ?_; clear H; intro w H) | (refine Kept_gate ?_; first | refine Kept_in (Sep.cellAt H (by repeat first | exact List.Mem.head _ | refine List.Mem.tail _ ?_) (by rfl)) ?_ | refine Kept_in (Sep.cellN H (by repeat first | exact List.Mem.head _ | refine List.Mem.tail _ ?_)) ?_) | (refine Ar_gate ?_; first | refine Ar_i64 (by omega) (by omega) ?_ | refine Ar_i32 (by omega) (by omega) ?_ | refine Ar_u64 (by omega) (by omega) ?_ | refine Ar_u32 (by omega) (by omega) ?_ | refine Ar_u8 (by omega) (by omega) ?_) | refine Eqv_in ?_ | refine Nn_in (by omega) ?_ | refine Nz_in (by omega) ?_))
      have hf : freeNo n E x = 41 := by unfold freeNo; rw [if_neg (by omega)]
      refine Ret_in (.inl ⟨by omega, ?_, H.all⟩)
      rw [hf]; rfl
    · (repeat ((try conv => whnf); first | refine Join_dup ?_ | (refine Br_gate ?_; first | refine Br_true ?_ | refine Br_false ?_ | refine Br_dec_yes (by omega) ?_ | refine Br_dec_no (by omega) ?_ | refine Br_eq_yes rfl ?_ | refine Br_ne_no rfl ?_ | refine Br_eq_yes (by omega) ?_ | refine Br_eq_no (by omega) ?_ | refine Br_ne_yes (by omega) ?_ | refine Br_ne_no (by omega) ?_ | refine Br_not ?_) | refine Do_ptr_eq_nil tok rfl ?_ | refine Do_nil_eq_nil tok rfl ?_ | refine Do_ptr_ne_nil tok rfl ?_ | (refine Ld_gate ?_; refine Ld_m H (by repeat first | exact List.Mem.head _ | refine List.Mem.tail _ ?_) (by rfl) ?_) | (refine LdN_gate ?_; refine LdN_m H (by repeat first | exact List.Mem.head _ | refine List.Mem.tail _ ?_) (by rfl) ?_) | (refine St_gate ?_; refine St_u H (by repeat first | exact Upd.head | apply Upd.tail) (by rfl) (by simp) (by simp only [List.set_cons_succ, List.set_cons_zero]; rfl) ?_; clear H; intro w H) | (refine StN_gate ?_; refine StN_u H (by repeat first | exact Upd.head | apply Upd.tail) (by simp [oneCell]) (by rfl) ?_; clear H; intro w H) | (refine Kept_gate ?_; first | refine Kept_in (Sep.cellAt H (by repeat first | exact List.Mem.head _ | refine List.Mem.tail _ ?_) (by rfl)) ?_ | refine Kept_in (Sep.cellN H (by repeat first | exact List.Mem.head _ | refine List.Mem.tail _ ?_)) ?_) | (refine Ar_gate ?_; first | refine Ar_i64 (by omega) (by omega) ?_ | refine Ar_i32 (by omega) (by omega) ?_ | refine Ar_u64 (by omega) (by omega) ?_ | refine Ar_u32 (by omega) (by omega) ?_ | refine Ar_u8 (by omega) (by omega) ?_) | refine Eqv_in ?_ | refine Nn_in (by omega) ?_ | refine Nz_in (by omega) ?_))
      refine Call_of (refFind _ hE (H.rd h)) ?_
      rintro _ w' ⟨rfl, HH⟩
      replace H := H.fr HH.base
      clear HH
      unfold told freeNo
      rw [if_pos (by omega)]
      cases hf : find E (var x : Int) with
      | some y =>
        simp only [ent3]
        (refine Nw_sep H ?_; clear H; intro b3 w H; (try simp only [Value.cells, List.toList_toArray, List.append_nil, List.cons_append, List.nil_append] at H))
        (repeat ((try conv => whnf); first | refine Join_dup ?_ | (refine Br_gate ?_; first | refine Br_true ?_ | refine Br_false ?_ | refine Br_dec_yes (by omega) ?_ | refine Br_dec_no (by omega) ?_ | refine Br_eq_yes rfl ?_ | refine Br_ne_no rfl ?_ | refine Br_eq_yes (by omega) ?_ | refine Br_eq_no (by omega) ?_ | refine Br_ne_yes (by omega) ?_ | refine Br_ne_no (by omega) ?_ | refine Br_not ?_) | refine Do_ptr_eq_nil tok rfl ?_ | refine Do_nil_eq_nil tok rfl ?_ | refine Do_ptr_ne_nil tok rfl ?_ | (refine Ld_gate ?_; refine Ld_m H (by repeat first | exact List.Mem.head _ | refine List.Mem.tail _ ?_) (by rfl) ?_) | (refine LdN_gate ?_; refine LdN_m H (by repeat first | exact List.Mem.head _ | refine List.Mem.tail _ ?_) (by rfl) ?_) | (refine St_gate ?_; refine St_u H (by repeat first | exact Upd.head | apply Upd.tail) (by rfl) (by simp) (by simp only [List.set_cons_succ, List.set_cons_zero]; rfl) ?_; clear H; intro w H) | (refine StN_gate ?_; refine StN_u H (by repeat first | exact Upd.head | apply Upd.tail) (by simp [oneCell]) (by rfl) ?_; clear H; intro w H) | (refine Kept_gate ?_; first | refine Kept_in (Sep.cellAt H (by repeat first | exact List.Mem.head _ | refine List.Mem.tail _ ?_) (by rfl)) ?_ | refine Kept_in (Sep.cellN H (by repeat first | exact List.Mem.head _ | refine List.Mem.tail _ ?_)) ?_) | (refine Ar_gate ?_; first | refine Ar_i64 (by omega) (by omega) ?_ | refine Ar_i32 (by omega) (by omega) ?_ | refine Ar_u64 (by omega) (by omega) ?_ | refine Ar_u32 (by omega) (by omega) ?_ | refine Ar_u8 (by omega) (by omega) ?_) | refine Eqv_in ?_ | refine Nn_in (by omega) ?_ | refine Nz_in (by omega) ?_))
        refine Ret_in (.inl ⟨by simp, rfl, H.all⟩)
      | none =>
        simp only []
        (refine Nw_sep H ?_; clear H; intro b3 w H; (try simp only [Value.cells, List.toList_toArray, List.append_nil, List.cons_append, List.nil_append] at H))
        (repeat ((try conv => whnf); first | refine Join_dup ?_ | (refine Br_gate ?_; first | refine Br_true ?_ | refine Br_false ?_ | refine Br_dec_yes (by omega) ?_ | refine Br_dec_no (by omega) ?_ | refine Br_eq_yes rfl ?_ | refine Br_ne_no rfl ?_ | refine Br_eq_yes (by omega) ?_ | refine Br_eq_no (by omega) ?_ | refine Br_ne_yes (by omega) ?_ | refine Br_ne_no (by omega) ?_ | refine Br_not ?_) | refine Do_ptr_eq_nil tok rfl ?_ | refine Do_nil_eq_nil tok rfl ?_ | refine Do_ptr_ne_nil tok rfl ?_ | (refine Ld_gate ?_; refine Ld_m H (by repeat first | exact List.Mem.head _ | refine List.Mem.tail _ ?_) (by rfl) ?_) | (refine LdN_gate ?_; refine LdN_m H (by repeat first | exact List.Mem.head _ | refine List.Mem.tail _ ?_) (by rfl) ?_) | (refine St_gate ?_; refine St_u H (by repeat first | exact Upd.head | apply Upd.tail) (by rfl) (by simp) (by simp only [List.set_cons_succ, List.set_cons_zero]; rfl) ?_; clear H; intro w H) | (refine StN_gate ?_; refine StN_u H (by repeat first | exact Upd.head | apply Upd.tail) (by simp [oneCell]) (by rfl) ?_; clear H; intro w H) | (refine Kept_gate ?_; first | refine Kept_in (Sep.cellAt H (by repeat first | exact List.Mem.head _ | refine List.Mem.tail _ ?_) (by rfl)) ?_ | refine Kept_in (Sep.cellN H (by repeat first | exact List.Mem.head _ | refine List.Mem.tail _ ?_)) ?_) | (refine Ar_gate ?_; first | refine Ar_i64 (by omega) (by omega) ?_ | refine Ar_i32 (by omega) (by omega) ?_ | refine Ar_u64 (by omega) (by omega) ?_ | refine Ar_u32 (by omega) (by omega) ?_ | refine Ar_u8 (by omega) (by omega) ?_) | refine Eqv_in ?_ | refine Nn_in (by omega) ?_ | refine Nz_in (by omega) ?_))
        refine Draw_tree mixed (Tr.row [1, 2, 4, 5, 6, 7, 8] (.alt (.step 0 (.alt (.step 3 (Tr.row [9, 10, 11, 12] .done)) (.step 9 (Tr.row [3, 10, 11, 12] .done)))) (.step 9 (Tr.row [0, 3, 10, 11, 12] .done)))) (by decide +kernel) (fun w _ fd => ?_); replace H := H.fr fd; clear fd
        (repeat ((try conv => whnf); first | refine Join_dup ?_ | (refine Br_gate ?_; first | refine Br_true ?_ | refine Br_false ?_ | refine Br_dec_yes (by omega) ?_ | refine Br_dec_no (by omega) ?_ | refine Br_eq_yes rfl ?_ | refine Br_ne_no rfl ?_ | refine Br_eq_yes (by omega) ?_ | refine Br_eq_no (by omega) ?_ | refine Br_ne_yes (by omega) ?_ | refine Br_ne_no (by omega) ?_ | refine Br_not ?_) | refine Do_ptr_eq_nil tok rfl ?_ | refine Do_nil_eq_nil tok rfl ?_ | refine Do_ptr_ne_nil tok rfl ?_ | (refine Ld_gate ?_; refine Ld_m H (by repeat first | exact List.Mem.head _ | refine List.Mem.tail _ ?_) (by rfl) ?_) | (refine LdN_gate ?_; refine LdN_m H (by repeat first | exact List.Mem.head _ | refine List.Mem.tail _ ?_) (by rfl) ?_) | (refine St_gate ?_; refine St_u H (by repeat first | exact Upd.head | apply Upd.tail) (by rfl) (by simp) (by simp only [List.set_cons_succ, List.set_cons_zero]; rfl) ?_; clear H; intro w H) | (refine StN_gate ?_; refine StN_u H (by repeat first | exact Upd.head | apply Upd.tail) (by simp [oneCell]) (by rfl) ?_; clear H; intro w H) | (refine Kept_gate ?_; first | refine Kept_in (Sep.cellAt H (by repeat first | exact List.Mem.head _ | refine List.Mem.tail _ ?_) (by rfl)) ?_ | refine Kept_in (Sep.cellN H (by repeat first | exact List.Mem.head _ | refine List.Mem.tail _ ?_)) ?_) | (refine Ar_gate ?_; first | refine Ar_i64 (by omega) (by omega) ?_ | refine Ar_i32 (by omega) (by omega) ?_ | refine Ar_u64 (by omega) (by omega) ?_ | refine Ar_u32 (by omega) (by omega) ?_ | refine Ar_u8 (by omega) (by omega) ?_) | refine Eqv_in ?_ | refine Nn_in (by omega) ?_ | refine Nz_in (by omega) ?_))
        have e1 : (E ++ [(⟨x, D, r⟩ : Ent)]).length = E.length + 1 := by simp
        have e2 : entsV (E ++ [(⟨x, D, r⟩ : Ent)]) = entsV E ++ [.int .i32 x, .int .i64 D, .int .i64 r] := by rw [entsV_app, entsV_one]; rfl
        refine Both_in ?_ ?_
        · (refine Nw_sep H ?_; clear H; intro b4 w H; (try simp only [Value.cells, List.toList_toArray, List.append_nil, List.cons_append, List.nil_append] at H))
          (repeat (refine Kept_gate ?_; first | refine Kept_in (Sep.cellAt H (by repeat first | exact List.Mem.head _ | refine List.Mem.tail _ ?_) (by rfl)) ?_ | refine Kept_in (Sep.cellN H (by repeat first | exact List.Mem.head _ | refine List.Mem.tail _ ?_)) ?_))
          refine Both_in ?_ ?_
          · refine append_new tok H rfl rfl rfl rfl rfl (by decide) (by repeat first | exact List.Mem.head _ | refine List.Mem.tail _ ?_) (H.rd h) entsV_ones (by omega) (by unfold maxLen; omega) ?_
            clear H; intro a1 c1 w H; replace H := H _ (by repeat first | exact Upd.head | apply Upd.tail)
            (repeat (refine Kept_gate ?_; first | refine Kept_in (Sep.cellAt H (by repeat first | exact List.Mem.head _ | refine List.Mem.tail _ ?_) (by rfl)) ?_ | refine Kept_in (Sep.cellN H (by repeat first | exact List.Mem.head _ | refine List.Mem.tail _ ?_)) ?_))
            (refine Nw_sep H ?_; clear H; intro b5 w H; (try simp only [Value.cells, List.toList_toArray, List.append_nil, List.cons_append, List.nil_append] at H))
            (repeat (refine Kept_gate ?_; first | refine Kept_in (Sep.cellAt H (by repeat first | exact List.Mem.head _ | refine List.Mem.tail _ ?_) (by rfl)) ?_ | refine Kept_in (Sep.cellN H (by repeat first | exact List.Mem.head _ | refine List.Mem.tail _ ?_)) ?_))
            (refine DoN_gate ?_; refine append_one tok H rfl rfl rfl rfl rfl (by decide) (by repeat first | exact List.Mem.head _ | refine List.Mem.tail _ ?_) (m := 1) rfl (by simp [oneCell]) (by omega) (by unfold maxLen; omega) ?_; clear H; intro a2 c2 w H; replace H := H _ (by repeat first | exact Upd.head | apply Upd.tail))
            (repeat ((try conv => whnf); first | refine Join_dup ?_ | (refine Br_gate ?_; first | refine Br_true ?_ | refine Br_false ?_ | refine Br_dec_yes (by omega) ?_ | refine Br_dec_no (by omega) ?_ | refine Br_eq_yes rfl ?_ | refine Br_ne_no rfl ?_ | refine Br_eq_yes (by omega) ?_ | refine Br_eq_no (by omega) ?_ | refine Br_ne_yes (by omega) ?_ | refine Br_ne_no (by omega) ?_ | refine Br_not ?_) | refine Do_ptr_eq_nil tok rfl ?_ | refine Do_nil_eq_nil tok rfl ?_ | refine Do_ptr_ne_nil tok rfl ?_ | (refine Ld_gate ?_; refine Ld_m H (by repeat first | exact List.Mem.head _ | refine List.Mem.tail _ ?_) (by rfl) ?_) | (refine LdN_gate ?_; refine LdN_m H (by repeat first | exact List.Mem.head _ | refine List.Mem.tail _ ?_) (by rfl) ?_) | (refine St_gate ?_; refine St_u H (by repeat first | exact Upd.head | apply Upd.tail) (by rfl) (by simp) (by simp only [List.set_cons_succ, List.set_cons_zero]; rfl) ?_; clear H; intro w H) | (refine StN_gate ?_; refine StN_u H (by repeat first | exact Upd.head | apply Upd.tail) (by simp [oneCell]) (by rfl) ?_; clear H; intro w H) | (refine Kept_gate ?_; first | refine Kept_in (Sep.cellAt H (by repeat first | exact List.Mem.head _ | refine List.Mem.tail _ ?_) (by rfl)) ?_ | refine Kept_in (Sep.cellN H (by repeat first | exact List.Mem.head _ | refine List.Mem.tail _ ?_)) ?_) | (refine Ar_gate ?_; first | refine Ar_i64 (by omega) (by omega) ?_ | refine Ar_i32 (by omega) (by omega) ?_ | refine Ar_u64 (by omega) (by omega) ?_ | refine Ar_u32 (by omega) (by omega) ?_ | refine Ar_u8 (by omega) (by omega) ?_) | refine Eqv_in ?_ | refine Nn_in (by omega) ?_ | refine Nz_in (by omega) ?_))
            refine Ret_in (.inr ⟨rfl, a2, c2, by rw [refV, e1]; rfl, ?_⟩)
            rw [e1, e2]
            exact (H.sel [0] (by decide) rfl)
          · (refine Nw_sep H ?_; clear H; intro b5 w H; (try simp only [Value.cells, List.toList_toArray, List.append_nil, List.cons_append, List.nil_append] at H))
            (repeat (refine Kept_gate ?_; first | refine Kept_in (Sep.cellAt H (by repeat first | exact List.Mem.head _ | refine List.Mem.tail _ ?_) (by rfl)) ?_ | refine Kept_in (Sep.cellN H (by repeat first | exact List.Mem.head _ | refine List.Mem.tail _ ?_)) ?_))
            refine append_new tok H rfl rfl rfl rfl rfl (by decide) (by repeat first | exact List.Mem.head _ | refine List.Mem.tail _ ?_) (H.rd h) entsV_ones (by omega) (by unfold maxLen; omega) ?_
            clear H; intro a1 c1 w H; replace H := H _ (by repeat first | exact Upd.head | apply Upd.tail)
            (repeat (refine Kept_gate ?_; first | refine Kept_in (Sep.cellAt H (by repeat first | exact List.Mem.head _ | refine List.Mem.tail _ ?_) (by rfl)) ?_ | refine Kept_in (Sep.cellN H (by repeat first | exact List.Mem.head _ | refine List.Mem.tail _ ?_)) ?_))
            (refine DoN_gate ?_; refine append_one tok H rfl rfl rfl rfl rfl (by decide) (by repeat first | exact List.Mem.head _ | refine List.Mem.tail _ ?_) (m := 1) rfl (by simp [oneCell]) (by omega) (by unfold maxLen; omega) ?_; clear H; intro a2 c2 w H; replace H := H _ (by repeat first | exact Upd.head | apply Upd.tail))
            (repeat ((try conv => whnf); first | refine Join_dup ?_ | (refine Br_gate ?_; first | refine Br_true ?_ | refine Br_false ?_ | refine Br_dec_yes (by omega) ?_ | refine Br_dec_no (by omega) ?_ | refine Br_eq_yes rfl ?_ | refine Br_ne_no rfl ?_ | refine Br_eq_yes (by omega) ?_ | refine Br_eq_no (by omega) ?_ | refine Br_ne_yes (by omega) ?_ | refine Br_ne_no (by omega) ?_ | refine Br_not ?_) | refine Do_ptr_eq_nil tok rfl ?_ | refine Do_nil_eq_nil tok rfl ?_ | refine Do_ptr_ne_nil tok rfl ?_ | (refine Ld_gate ?_; refine Ld_m H (by repeat first | exact List.Mem.head _ | refine List.Mem.tail _ ?_) (by rfl) ?_) | (refine LdN_gate ?_; refine LdN_m H (by repeat first | exact List.Mem.head _ | refine List.Mem.tail _ ?_) (by rfl) ?_) | (refine St_gate ?_; refine St_u H (by repeat first | exact Upd.head | apply Upd.tail) (by rfl) (by simp) (by simp only [List.set_cons_succ, List.set_cons_zero]; rfl) ?_; clear H; intro w H) | (refine StN_gate ?_; refine StN_u H (by repeat first | exact Upd.head | apply Upd.tail) (by simp [oneCell]) (by rfl) ?_; clear H; intro w H) | (refine Kept_gate ?_; first | refine Kept_in (Sep.cellAt H (by repeat first | exact List.Mem.head _ | refine List.Mem.tail _ ?_) (by rfl)) ?_ | refine Kept_in (Sep.cellN H (by repeat first | exact List.Mem.head _ | refine List.Mem.tail _ ?_)) ?_) | (refine Ar_gate ?_; first | refine Ar_i64 (by omega) (by omega) ?_ | refine Ar_i32 (by omega) (by omega) ?_ | refine Ar_u64 (by omega) (by omega) ?_ | refine Ar_u32 (by omega) (by omega) ?_ | refine Ar_u8 (by omega) (by omega) ?_) | refine Eqv_in ?_ | refine Nn_in (by omega) ?_ | refine Nz_in (by omega) ?_))
            refine Ret_in (.inr ⟨rfl, a2, c2, by rw [refV, e1]; rfl, ?_⟩)
            rw [e1, e2]
            exact (H.sel [0] (by decide) rfl)
        · (refine Nw_sep H ?_; clear H; intro b5 w H; (try simp only [Value.cells, List.toList_toArray, List.append_nil, List.cons_append, List.nil_append] at H))
          (repeat (refine Kept_gate ?_; first | refine Kept_in (Sep.cellAt H (by repeat first | exact List.Mem.head _ | refine List.Mem.tail _ ?_) (by rfl)) ?_ | refine Kept_in (Sep.cellN H (by repeat first | exact List.Mem.head _ | refine List.Mem.tail _ ?_)) ?_))
          (refine Nw_sep H ?_; clear H; intro b4 w H; (try simp only [Value.cells, List.toList_toArray, List.append_nil, List.cons_append, List.nil_append] at H))
          (repeat (refine Kept_gate ?_; first | refine Kept_in (Sep.cellAt H (by repeat first | exact List.Mem.head _ | refine List.Mem.tail _ ?_) (by rfl)) ?_ | refine Kept_in (Sep.cellN H (by repeat first | exact List.Mem.head _ | refine List.Mem.tail _ ?_)) ?_))
          refine append_new tok H rfl rfl rfl rfl rfl (by decide) (by repeat first | exact List.Mem.head _ | refine List.Mem.tail _ ?_) (H.rd h) entsV_ones (by omega) (by unfold maxLen; omega) ?_
          clear H; intro a1 c1 w H; replace H := H _ (by repeat first | exact Upd.head | apply Upd.tail)
          (repeat (refine Kept_gate ?_; first | refine Kept_in (Sep.cellAt H (by repeat first | exact List.Mem.head _ | refine List.Mem.tail _ ?_) (by rfl)) ?_ | refine Kept_in (Sep.cellN H (by repeat first | exact List.Mem.head _ | refine List.Mem.tail _ ?_)) ?_))
          replace H := H.top 1 rfl rfl
          (try simp only [Value.cells, List.toList_toArray, List.append_nil, List.cons_append, List.nil_append] at H)
          (refine DoN_gate ?_; refine append_one tok H rfl rfl rfl rfl rfl (by decide) (by repeat first | exact List.Mem.head _ | refine List.Mem.tail _ ?_) (m := 1) rfl (by simp [oneCell]) (by omega) (by unfold maxLen; omega) ?_; clear H; intro a2 c2 w H; replace H := H _ (by repeat first | exact Upd.head | apply Upd.tail))
          (repeat ((try conv => whnf); first | refine Join_dup ?_ | (refine Br_gate ?_; first | refine Br_true ?_ | refine Br_false ?_ | refine Br_dec_yes (by omega) ?_ | refine Br_dec_no (by omega) ?_ | refine Br_eq_yes rfl ?_ | refine Br_ne_no rfl ?_ | refine Br_eq_yes (by omega) ?_ | refine Br_eq_no (by omega) ?_ | refine Br_ne_yes (by omega) ?_ | refine Br_ne_no (by omega) ?_ | refine Br_not ?_) | refine Do_ptr_eq_nil tok rfl ?_ | refine Do_nil_eq_nil tok rfl ?_ | refine Do_ptr_ne_nil tok rfl ?_ | (refine Ld_gate ?_; refine Ld_m H (by repeat first | exact List.Mem.head _ | refine List.Mem.tail _ ?_) (by rfl) ?_) | (refine LdN_gate ?_; refine LdN_m H (by repeat first | exact List.Mem.head _ | refine List.Mem.tail _ ?_) (by rfl) ?_) | (refine St_gate ?_; refine St_u H (by repeat first | exact Upd.head | apply Upd.tail) (by rfl) (by simp) (by simp only [List.set_cons_succ, List.set_cons_zero]; rfl) ?_; clear H; intro w H) | (refine StN_gate ?_; refine StN_u H (by repeat first | exact Upd.head | apply Upd.tail) (by simp [oneCell]) (by rfl) ?_; clear H; intro w H) | (refine Kept_gate ?_; first | refine Kept_in (Sep.cellAt H (by repeat first | exact List.Mem.head _ | refine List.Mem.tail _ ?_) (by rfl)) ?_ | refine Kept_in (Sep.cellN H (by repeat first | exact List.Mem.head _ | refine List.Mem.tail _ ?_)) ?_) | (refine Ar_gate ?_; first | refine Ar_i64 (by omega) (by omega) ?_ | refine Ar_i32 (by omega) (by omega) ?_ | refine Ar_u64 (by omega) (by omega) ?_ | refine Ar_u32 (by omega) (by omega) ?_ | refine Ar_u8 (by omega) (by omega) ?_) | refine Eqv_in ?_ | refine Nn_in (by omega) ?_ | refine Nz_in (by omega) ?_))
          refine Ret_in (.inr ⟨rfl, a2, c2, by rw [refV, e1]; rfl, ?_⟩)
          rw [e1, e2]
          exact (H.sel [0] (by decide) rfl)


theorem refDecide {W : World} (x : Int) (hE : E.length ≤ 1000000) (hD : D ≤ 1000000) (h : Src W a E.length 3 (entsV E)) : Does Try.prog 19 #[refV n D a E c, .int .i32 x] W fun v w' =>
    (freeNo n E x ≠ 0 ∧ v = .tuple #[refV n D a E c, .int .i64 (freeNo n E x)] ∧ Vc.Sep W w' []) ∨
    (freeNo n E x = 0 ∧ ∃ a' c', v = .tuple #[refV n (D + 1) a' (E ++ [⟨x, D + 1, -1⟩]) c', .int .i64 0] ∧ Vc.Sep W w' [ownR a' (E ++ [(⟨x, D + 1, -1⟩ : Ent)]).length c' 52 3 (entsV (E ++ [⟨x, D + 1, -1⟩]))]) := by
  have H := Sep.nil W
  refine Does_intro tok (Try.call19 _ _) Try.func19 rfl (by rfl) ?_
  (refine Nw_sep H ?_; clear H; intro b1 w H; (try simp only [Value.cells, List.toList_toArray, List.append_nil, List.cons_append, List.nil_append] at H))
  (refine Nw_sep H ?_; clear H; intro b2 w H; (try simp only [Value.cells, List.toList_toArray, List.append_nil, List.cons_append, List.nil_append] at H))
  (repeat ((try conv => whnf); first | refine Join_dup ?_ | (refine Br_gate ?_; first | refine Br_true ?_ | refine Br_false ?_ | refine Br_dec_yes (by omega) ?_ | refine Br_dec_no (by omega) ?_ | refine Br_eq_yes rfl ?_ | refine Br_ne_no rfl ?_ | refine Br_eq_yes (by omega) ?_ | refine Br_eq_no (by omega) ?_ | refine Br_ne_yes (by omega) ?_ | refine Br_ne_no (by omega) ?_ | refine Br_not ?_) | refine Do_ptr_eq_nil tok rfl ?_ | refine Do_nil_eq_nil tok rfl ?_ | refine Do_ptr_ne_nil tok rfl ?_ | (refine Ld_gate ?_; refine Ld_m H (by repeat first | exact List.Mem.head _ | refine List.Mem.tail _ ?_) (by rfl) ?_) | (refine LdN_gate ?_; refine LdN_m H (by repeat first | exact List.Mem.head _ | refine List.Mem.tail _ ?_) (by rfl) ?_) | (refine St_gate ?_; refine St_u H (by repeat first | exact Upd.head | apply Upd.tail) (by rfl) (by simp) (by simp only [List.set_cons_succ, List.set_cons_zero]; rfl) ?_; clear H; intro w H) | (refine StN_gate ?_; refine StN_u H (by repeat first | exact Upd.head | apply Upd.tail) (by simp [oneCell]) (by rfl) ?_; clear H; intro w H) | (refine Kept_gate ?_; first | refine Kept_in (Sep.cellAt H (by repeat first | exact List.Mem.head _ | refine List.Mem.tail _ ?_) (by rfl)) ?_ | refine Kept_in (Sep.cellN H (by repeat first | exact List.Mem.head _ | refine List.Mem.tail _ ?_)) ?_) | (refine Ar_gate ?_; first | refine Ar_i64 (by omega) (by omega) ?_ | refine Ar_i32 (by omega) (by omega) ?_ | refine Ar_u64 (by omega) (by omega) ?_ | refine Ar_u32 (by omega) (by omega) ?_ | refine Ar_u8 (by omega) (by omega) ?_) | refine Eqv_in ?_ | refine Nn_in (by omega) ?_ | refine Nz_in (by omega) ?_))
  (refine Nw_sep H ?_; clear H; intro b3 w H; (try simp only [Value.cells, List.toList_toArray, List.append_nil, List.cons_append, List.nil_append] at H))
  (repeat ((try conv => whnf); first | refine Join_dup ?_ | (refine Br_gate ?_; first | refine Br_true ?_ | refine Br_false ?_ | refine Br_dec_yes (by omega) ?_ | refine Br_dec_no (by omega) ?_ | refine Br_eq_yes rfl ?_ | refine Br_ne_no rfl ?_ | refine Br_eq_yes (by omega) ?_ | refine Br_eq_no (by omega) ?_ | refine Br_ne_yes (by omega) ?_ | refine Br_ne_no (by omega) ?_ | refine Br_not ?_) | refine Do_ptr_eq_nil tok rfl ?_ | refine Do_nil_eq_nil tok rfl ?_ | refine Do_ptr_ne_nil tok rfl ?_ | (refine Ld_gate ?_; refine Ld_m H (by repeat first | exact List.Mem.head _ | refine List.Mem.tail _ ?_) (by rfl) ?_) | (refine LdN_gate ?_; refine LdN_m H (by repeat first | exact List.Mem.head _ | refine List.Mem.tail _ ?_) (by rfl) ?_) | (refine St_gate ?_; refine St_u H (by repeat first | exact Upd.head | apply Upd.tail) (by rfl) (by simp) (by simp only [List.set_cons_succ, List.set_cons_zero]; rfl) ?_; clear H; intro w H) | (refine StN_gate ?_; refine StN_u H (by repeat first | exact Upd.head | apply Upd.tail) (by simp [oneCell]) (by rfl) ?_; clear H; intro w H) | (refine Kept_gate ?_; first | refine Kept_in (Sep.cellAt H (by repeat first | exact List.Mem.head _ | refine List.Mem.tail _ ?_) (by rfl)) ?_ | refine Kept_in (Sep.cellN H (by repeat first | exact List.Mem.head _ | refine List.Mem.tail _ ?_)) ?_) | (refine Ar_gate ?_; first | refine Ar_i64 (by omega) (by omega) ?_ | refine Ar_i32 (by omega) (by omega) ?_ | refine Ar_u64 (by omega) (by omega) ?_ | refine Ar_u32 (by omega) (by omega) ?_ | refine Ar_u8 (by omega) (by omega) ?_) | refine Eqv_in ?_ | refine Nn_in (by omega) ?_ | refine Nz_in (by omega) ?_))
  refine Call_of (refSet (n := n) (D := D + 1) x (-1) hE (H.rd h)) ?_
  rintro _ w' (⟨k, rfl, HH⟩ | ⟨k, a', c', rfl, HH⟩)
  · replace H := H.add HH
    (refine Nw_sep H ?_; clear H; intro b4 w H; (try simp only [Value.cells, List.toList_toArray, List.append_nil, List.cons_append, List.nil_append] at H))
    (repeat ((try conv => whnf); first | refine Join_dup ?_ | (refine Br_gate ?_; first | refine Br_true ?_ | refine Br_false ?_ | refine Br_dec_yes (by omega) ?_ | refine Br_dec_no (by omega) ?_ | refine Br_eq_yes rfl ?_ | refine Br_ne_no rfl ?_ | refine Br_eq_yes (by omega) ?_ | refine Br_eq_no (by omega) ?_ | refine Br_ne_yes (by omega) ?_ | refine Br_ne_no (by omega) ?_ | refine Br_not ?_) | refine Do_ptr_eq_nil tok rfl ?_ | refine Do_nil_eq_nil tok rfl ?_ | refine Do_ptr_ne_nil tok rfl ?_ | (refine Ld_gate ?_; refine Ld_m H (by repeat first | exact List.Mem.head _ | refine List.Mem.tail _ ?_) (by rfl) ?_) | (refine LdN_gate ?_; refine LdN_m H (by repeat first | exact List.Mem.head _ | refine List.Mem.tail _ ?_) (by rfl) ?_) | (refine St_gate ?_; refine St_u H (by repeat first | exact Upd.head | apply Upd.tail) (by rfl) (by simp) (by simp only [List.set_cons_succ, List.set_cons_zero]; rfl) ?_; clear H; intro w H) | (refine StN_gate ?_; refine StN_u H (by repeat first | exact Upd.head | apply Upd.tail) (by simp [oneCell]) (by rfl) ?_; clear H; intro w H) | (refine Kept_gate ?_; first | refine Kept_in (Sep.cellAt H (by repeat first | exact List.Mem.head _ | refine List.Mem.tail _ ?_) (by rfl)) ?_ | refine Kept_in (Sep.cellN H (by repeat first | exact List.Mem.head _ | refine List.Mem.tail _ ?_)) ?_) | (refine Ar_gate ?_; first | refine Ar_i64 (by omega) (by omega) ?_ | refine Ar_i32 (by omega) (by omega) ?_ | refine Ar_u64 (by omega) (by omega) ?_ | refine Ar_u32 (by omega) (by omega) ?_ | refine Ar_u8 (by omega) (by omega) ?_) | refine Eqv_in ?_ | refine Nn_in (by omega) ?_ | refine Nz_in (by omega) ?_))
    exact Ret_in (.inl ⟨k, rfl, H.all⟩)
  · replace H := H.add HH
    (refine Nw_sep H ?_; clear H; intro b4 w H; (try simp only [Value.cells, List.toList_toArray, List.append_nil, List.cons_append, List.nil_append] at H))
    (repeat ((try conv => whnf); first | refine Join_dup ?_ | (refine Br_gate ?_; first | refine Br_true ?_ | refine Br_false ?_ | refine Br_dec_yes (by omega) ?_ | refine Br_dec_no (by omega) ?_ | refine Br_eq_yes rfl ?_ | refine Br_ne_no rfl ?_ | refine Br_eq_yes (by omega) ?_ | refine Br_eq_no (by omega) ?_ | refine Br_ne_yes (by omega) ?_ | refine Br_ne_no (by omega) ?_ | refine Br_not ?_) | refine Do_ptr_eq_nil tok rfl ?_ | refine Do_nil_eq_nil tok rfl ?_ | refine Do_ptr_ne_nil tok rfl ?_ | (refine Ld_gate ?_; refine Ld_m H (by repeat first | exact List.Mem.head _ | refine List.Mem.tail _ ?_) (by rfl) ?_) | (refine LdN_gate ?_; refine LdN_m H (by repeat first | exact List.Mem.head _ | refine List.Mem.tail _ ?_) (by rfl) ?_) | (refine St_gate ?_; refine St_u H (by repeat first | exact Upd.head | apply Upd.tail) (by rfl) (by simp) (by simp only [List.set_cons_succ, List.set_cons_zero]; rfl) ?_; clear H; intro w H) | (refine StN_gate ?_; refine StN_u H (by repeat first | exact Upd.head | apply Upd.tail) (by simp [oneCell]) (by rfl) ?_; clear H; intro w H) | (refine Kept_gate ?_; first | refine Kept_in (Sep.cellAt H (by repeat first | exact List.Mem.head _ | refine List.Mem.tail _ ?_) (by rfl)) ?_ | refine Kept_in (Sep.cellN H (by repeat first | exact List.Mem.head _ | refine List.Mem.tail _ ?_)) ?_) | (refine Ar_gate ?_; first | refine Ar_i64 (by omega) (by omega) ?_ | refine Ar_i32 (by omega) (by omega) ?_ | refine Ar_u64 (by omega) (by omega) ?_ | refine Ar_u32 (by omega) (by omega) ?_ | refine Ar_u8 (by omega) (by omega) ?_) | refine Eqv_in ?_ | refine Nn_in (by omega) ?_ | refine Nz_in (by omega) ?_))
    exact Ret_in (.inr ⟨k, a', c', rfl, (H.sel [1] (by decide) rfl)⟩)

/-- What isn't true any more, the last first, as the document has it. -/
def outs (E : List Ent) (k : Nat) : List Ent := (E.filter fun x => !decide (x.lev ≤ k)).reverse

theorem upto_snoc {E : List Ent} {i k : Nat} {x : Ent} (h : E[i]? = some x) : upto (E.take (i + 1)) k = if x.lev ≤ k then upto (E.take i) k ++ [x] else upto (E.take i) k := by
  rw [List.take_add_one, h]
  show upto (E.take i ++ [x]) k = _
  unfold upto
  rw [List.filter_append]
  by_cases hx : x.lev ≤ k <;> simp [hx]

theorem outs_snoc {E : List Ent} {i k : Nat} {x : Ent} (h : E[i]? = some x) : outs (E.take (i + 1)) k = if x.lev ≤ k then outs (E.take i) k else x :: outs (E.take i) k := by
  rw [List.take_add_one, h]
  show outs (E.take i ++ [x]) k = _
  unfold outs
  rw [List.filter_append]
  by_cases hx : x.lev ≤ k <;> simp [hx]

theorem part_len {E : List Ent} {i k : Nat} : (upto (E.take i) k).length ≤ E.length ∧ (outs (E.take i) k).length ≤ E.length := by
  have h0 : (E.take i).length ≤ E.length := by rw [List.length_take]; omega
  unfold upto outs
  rw [List.length_reverse]
  exact ⟨Nat.le_trans (List.length_filter_le _ _) h0, Nat.le_trans (List.length_filter_le _ _) h0⟩

theorem refBack {W : World} (k : Int) (hE : E.length ≤ 1000000) (h : Src W a E.length 3 (entsV E)) : Does Try.prog 20 #[refV n D a E c, .int .i64 k] W fun v w' =>
    (backOk D k = false ∧ v = .tuple #[refV n D a E c, .slice none 0 0, .int .i64 41] ∧ Vc.Sep W w' []) ∨
    (backOk D k = true ∧ ∃ a1 c1 a2 c2, v = .tuple #[refV n k.toNat a1 (upto E k.toNat) c1, .slice a2 (outs E k.toNat).length c2, .int .i64 0] ∧
      Vc.Sep W w' [ownR a1 (upto E k.toNat).length c1 52 3 (entsV (upto E k.toNat)), ownR a2 (outs E k.toNat).length c2 26 1 (litsV (outs E k.toNat))]) := by
  have H := Sep.nil W
  refine Does_intro tok (Try.call20 _ _) Try.func20 rfl (by rfl) ?_
  (refine Nw_sep H ?_; clear H; intro b1 w H; (try simp only [Value.cells, List.toList_toArray, List.append_nil, List.cons_append, List.nil_append] at H))
  (refine Nw_sep H ?_; clear H; intro b2 w H; (try simp only [Value.cells, List.toList_toArray, List.append_nil, List.cons_append, List.nil_append] at H))
  refine Br_dec (fun k1 => ?_) (fun k1 => ?_)
  · (repeat ((try conv => whnf); first | refine Join_dup ?_ | (refine Br_gate ?_; first | refine Br_true ?_ | refine Br_false ?_ | refine Br_dec_yes (by omega) ?_ | refine Br_dec_no (by omega) ?_ | refine Br_eq_yes rfl ?_ | refine Br_ne_no rfl ?_ | refine Br_eq_yes (by omega) ?_ | refine Br_eq_no (by omega) ?_ | refine Br_ne_yes (by omega) ?_ | refine Br_ne_no (by omega) ?_ | refine Br_not ?_) | refine Do_ptr_eq_nil tok rfl ?_ | refine Do_nil_eq_nil tok rfl ?_ | refine Do_ptr_ne_nil tok rfl ?_ | (refine Ld_gate ?_; refine Ld_m H (by repeat first | exact List.Mem.head _ | refine List.Mem.tail _ ?_) (by rfl) ?_) | (refine LdN_gate ?_; refine LdN_m H (by repeat first | exact List.Mem.head _ | refine List.Mem.tail _ ?_) (by rfl) ?_) | (refine St_gate ?_; refine St_u H (by repeat first | exact Upd.head | apply Upd.tail) (by rfl) (by simp) (by simp only [List.set_cons_succ, List.set_cons_zero]; rfl) ?_; clear H; intro w H) | (refine StN_gate ?_; refine StN_u H (by repeat first | exact Upd.head | apply Upd.tail) (by simp [oneCell]) (by rfl) ?_; clear H; intro w H) | (refine Kept_gate ?_; first | refine Kept_in (Sep.cellAt H (by repeat first | exact List.Mem.head _ | refine List.Mem.tail _ ?_) (by rfl)) ?_ | refine Kept_in (Sep.cellN H (by repeat first | exact List.Mem.head _ | refine List.Mem.tail _ ?_)) ?_) | (refine Ar_gate ?_; first | refine Ar_i64 (by omega) (by omega) ?_ | refine Ar_i32 (by omega) (by omega) ?_ | refine Ar_u64 (by omega) (by omega) ?_ | refine Ar_u32 (by omega) (by omega) ?_ | refine Ar_u8 (by omega) (by omega) ?_) | refine Eqv_in ?_ | refine Nn_in (by omega) ?_ | refine Nz_in (by omega) ?_))
    exact Ret_in (.inl ⟨by unfold backOk; simp; omega, rfl, H.all⟩)
  (repeat ((try conv => whnf); first | refine Join_dup ?_ | (refine Br_gate ?_; first | refine Br_true ?_ | refine Br_false ?_ | refine Br_dec_yes (by omega) ?_ | refine Br_dec_no (by omega) ?_ | refine Br_eq_yes rfl ?_ | refine Br_ne_no rfl ?_ | refine Br_eq_yes (by omega) ?_ | refine Br_eq_no (by omega) ?_ | refine Br_ne_yes (by omega) ?_ | refine Br_ne_no (by omega) ?_ | refine Br_not ?_) | refine Do_ptr_eq_nil tok rfl ?_ | refine Do_nil_eq_nil tok rfl ?_ | refine Do_ptr_ne_nil tok rfl ?_ | (refine Ld_gate ?_; refine Ld_m H (by repeat first | exact List.Mem.head _ | refine List.Mem.tail _ ?_) (by rfl) ?_) | (refine LdN_gate ?_; refine LdN_m H (by repeat first | exact List.Mem.head _ | refine List.Mem.tail _ ?_) (by rfl) ?_) | (refine St_gate ?_; refine St_u H (by repeat first | exact Upd.head | apply Upd.tail) (by rfl) (by simp) (by simp only [List.set_cons_succ, List.set_cons_zero]; rfl) ?_; clear H; intro w H) | (refine StN_gate ?_; refine StN_u H (by repeat first | exact Upd.head | apply Upd.tail) (by simp [oneCell]) (by rfl) ?_; clear H; intro w H) | (refine Kept_gate ?_; first | refine Kept_in (Sep.cellAt H (by repeat first | exact List.Mem.head _ | refine List.Mem.tail _ ?_) (by rfl)) ?_ | refine Kept_in (Sep.cellN H (by repeat first | exact List.Mem.head _ | refine List.Mem.tail _ ?_)) ?_) | (refine Ar_gate ?_; first | refine Ar_i64 (by omega) (by omega) ?_ | refine Ar_i32 (by omega) (by omega) ?_ | refine Ar_u64 (by omega) (by omega) ?_ | refine Ar_u32 (by omega) (by omega) ?_ | refine Ar_u8 (by omega) (by omega) ?_) | refine Eqv_in ?_ | refine Nn_in (by omega) ?_ | refine Nz_in (by omega) ?_))
  refine Br_dec (fun k2 => ?_) (fun k2 => ?_)
  · (repeat ((try conv => whnf); first | refine Join_dup ?_ | (refine Br_gate ?_; first | refine Br_true ?_ | refine Br_false ?_ | refine Br_dec_yes (by omega) ?_ | refine Br_dec_no (by omega) ?_ | refine Br_eq_yes rfl ?_ | refine Br_ne_no rfl ?_ | refine Br_eq_yes (by omega) ?_ | refine Br_eq_no (by omega) ?_ | refine Br_ne_yes (by omega) ?_ | refine Br_ne_no (by omega) ?_ | refine Br_not ?_) | refine Do_ptr_eq_nil tok rfl ?_ | refine Do_nil_eq_nil tok rfl ?_ | refine Do_ptr_ne_nil tok rfl ?_ | (refine Ld_gate ?_; refine Ld_m H (by repeat first | exact List.Mem.head _ | refine List.Mem.tail _ ?_) (by rfl) ?_) | (refine LdN_gate ?_; refine LdN_m H (by repeat first | exact List.Mem.head _ | refine List.Mem.tail _ ?_) (by rfl) ?_) | (refine St_gate ?_; refine St_u H (by repeat first | exact Upd.head | apply Upd.tail) (by rfl) (by simp) (by simp only [List.set_cons_succ, List.set_cons_zero]; rfl) ?_; clear H; intro w H) | (refine StN_gate ?_; refine StN_u H (by repeat first | exact Upd.head | apply Upd.tail) (by simp [oneCell]) (by rfl) ?_; clear H; intro w H) | (refine Kept_gate ?_; first | refine Kept_in (Sep.cellAt H (by repeat first | exact List.Mem.head _ | refine List.Mem.tail _ ?_) (by rfl)) ?_ | refine Kept_in (Sep.cellN H (by repeat first | exact List.Mem.head _ | refine List.Mem.tail _ ?_)) ?_) | (refine Ar_gate ?_; first | refine Ar_i64 (by omega) (by omega) ?_ | refine Ar_i32 (by omega) (by omega) ?_ | refine Ar_u64 (by omega) (by omega) ?_ | refine Ar_u32 (by omega) (by omega) ?_ | refine Ar_u8 (by omega) (by omega) ?_) | refine Eqv_in ?_ | refine Nn_in (by omega) ?_ | refine Nz_in (by omega) ?_))
    exact Ret_in (.inl ⟨by unfold backOk; simp; omega, rfl, H.all⟩)
  have hb : backOk D k = true := by unfold backOk; simp; omega
  obtain ⟨j, rfl⟩ : ∃ j : Nat, k = j := ⟨k.toNat, by omega⟩
  simp only [Int.toNat_natCast]
  (repeat ((try conv => whnf); first | refine Join_dup ?_ | (refine Br_gate ?_; first | refine Br_true ?_ | refine Br_false ?_ | refine Br_dec_yes (by omega) ?_ | refine Br_dec_no (by omega) ?_ | refine Br_eq_yes rfl ?_ | refine Br_ne_no rfl ?_ | refine Br_eq_yes (by omega) ?_ | refine Br_eq_no (by omega) ?_ | refine Br_ne_yes (by omega) ?_ | refine Br_ne_no (by omega) ?_ | refine Br_not ?_) | refine Do_ptr_eq_nil tok rfl ?_ | refine Do_nil_eq_nil tok rfl ?_ | refine Do_ptr_ne_nil tok rfl ?_ | (refine Ld_gate ?_; refine Ld_m H (by repeat first | exact List.Mem.head _ | refine List.Mem.tail _ ?_) (by rfl) ?_) | (refine LdN_gate ?_; refine LdN_m H (by repeat first | exact List.Mem.head _ | refine List.Mem.tail _ ?_) (by rfl) ?_) | (refine St_gate ?_; refine St_u H (by repeat first | exact Upd.head | apply Upd.tail) (by rfl) (by simp) (by simp only [List.set_cons_succ, List.set_cons_zero]; rfl) ?_; clear H; intro w H) | (refine StN_gate ?_; refine StN_u H (by repeat first | exact Upd.head | apply Upd.tail) (by simp [oneCell]) (by rfl) ?_; clear H; intro w H) | (refine Kept_gate ?_; first | refine Kept_in (Sep.cellAt H (by repeat first | exact List.Mem.head _ | refine List.Mem.tail _ ?_) (by rfl)) ?_ | refine Kept_in (Sep.cellN H (by repeat first | exact List.Mem.head _ | refine List.Mem.tail _ ?_)) ?_) | (refine Ar_gate ?_; first | refine Ar_i64 (by omega) (by omega) ?_ | refine Ar_i32 (by omega) (by omega) ?_ | refine Ar_u64 (by omega) (by omega) ?_ | refine Ar_u32 (by omega) (by omega) ?_ | refine Ar_u8 (by omega) (by omega) ?_) | refine Eqv_in ?_ | refine Nn_in (by omega) ?_ | refine Nz_in (by omega) ?_))
  (refine Nw_sep H ?_; clear H; intro b3 w H; (try simp only [Value.cells, List.toList_toArray, List.append_nil, List.cons_append, List.nil_append] at H))
  (repeat ((try conv => whnf); first | refine Join_dup ?_ | (refine Br_gate ?_; first | refine Br_true ?_ | refine Br_false ?_ | refine Br_dec_yes (by omega) ?_ | refine Br_dec_no (by omega) ?_ | refine Br_eq_yes rfl ?_ | refine Br_ne_no rfl ?_ | refine Br_eq_yes (by omega) ?_ | refine Br_eq_no (by omega) ?_ | refine Br_ne_yes (by omega) ?_ | refine Br_ne_no (by omega) ?_ | refine Br_not ?_) | refine Do_ptr_eq_nil tok rfl ?_ | refine Do_nil_eq_nil tok rfl ?_ | refine Do_ptr_ne_nil tok rfl ?_ | (refine Ld_gate ?_; refine Ld_m H (by repeat first | exact List.Mem.head _ | refine List.Mem.tail _ ?_) (by rfl) ?_) | (refine LdN_gate ?_; refine LdN_m H (by repeat first | exact List.Mem.head _ | refine List.Mem.tail _ ?_) (by rfl) ?_) | (refine St_gate ?_; refine St_u H (by repeat first | exact Upd.head | apply Upd.tail) (by rfl) (by simp) (by simp only [List.set_cons_succ, List.set_cons_zero]; rfl) ?_; clear H; intro w H) | (refine StN_gate ?_; refine StN_u H (by repeat first | exact Upd.head | apply Upd.tail) (by simp [oneCell]) (by rfl) ?_; clear H; intro w H) | (refine Kept_gate ?_; first | refine Kept_in (Sep.cellAt H (by repeat first | exact List.Mem.head _ | refine List.Mem.tail _ ?_) (by rfl)) ?_ | refine Kept_in (Sep.cellN H (by repeat first | exact List.Mem.head _ | refine List.Mem.tail _ ?_)) ?_) | (refine Ar_gate ?_; first | refine Ar_i64 (by omega) (by omega) ?_ | refine Ar_i32 (by omega) (by omega) ?_ | refine Ar_u64 (by omega) (by omega) ?_ | refine Ar_u32 (by omega) (by omega) ?_ | refine Ar_u8 (by omega) (by omega) ?_) | refine Eqv_in ?_ | refine Nn_in (by omega) ?_ | refine Nz_in (by omega) ?_))
  (refine Nw_sep H ?_; clear H; intro b4 w H; (try simp only [Value.cells, List.toList_toArray, List.append_nil, List.cons_append, List.nil_append] at H))
  (repeat ((try conv => whnf); first | refine Join_dup ?_ | (refine Br_gate ?_; first | refine Br_true ?_ | refine Br_false ?_ | refine Br_dec_yes (by omega) ?_ | refine Br_dec_no (by omega) ?_ | refine Br_eq_yes rfl ?_ | refine Br_ne_no rfl ?_ | refine Br_eq_yes (by omega) ?_ | refine Br_eq_no (by omega) ?_ | refine Br_ne_yes (by omega) ?_ | refine Br_ne_no (by omega) ?_ | refine Br_not ?_) | refine Do_ptr_eq_nil tok rfl ?_ | refine Do_nil_eq_nil tok rfl ?_ | refine Do_ptr_ne_nil tok rfl ?_ | (refine Ld_gate ?_; refine Ld_m H (by repeat first | exact List.Mem.head _ | refine List.Mem.tail _ ?_) (by rfl) ?_) | (refine LdN_gate ?_; refine LdN_m H (by repeat first | exact List.Mem.head _ | refine List.Mem.tail _ ?_) (by rfl) ?_) | (refine St_gate ?_; refine St_u H (by repeat first | exact Upd.head | apply Upd.tail) (by rfl) (by simp) (by simp only [List.set_cons_succ, List.set_cons_zero]; rfl) ?_; clear H; intro w H) | (refine StN_gate ?_; refine StN_u H (by repeat first | exact Upd.head | apply Upd.tail) (by simp [oneCell]) (by rfl) ?_; clear H; intro w H) | (refine Kept_gate ?_; first | refine Kept_in (Sep.cellAt H (by repeat first | exact List.Mem.head _ | refine List.Mem.tail _ ?_) (by rfl)) ?_ | refine Kept_in (Sep.cellN H (by repeat first | exact List.Mem.head _ | refine List.Mem.tail _ ?_)) ?_) | (refine Ar_gate ?_; first | refine Ar_i64 (by omega) (by omega) ?_ | refine Ar_i32 (by omega) (by omega) ?_ | refine Ar_u64 (by omega) (by omega) ?_ | refine Ar_u32 (by omega) (by omega) ?_ | refine Ar_u8 (by omega) (by omega) ?_) | refine Eqv_in ?_ | refine Nn_in (by omega) ?_ | refine Nz_in (by omega) ?_))
  replace H := H.row 0 0 1 rfl rfl (by decide) rfl
  (try simp only [Value.cells, List.toList_toArray, List.append_nil, List.cons_append, List.nil_append] at H)
  replace H := Own.nilR H 52 3
  refine Loop_intro (fun s : Nat × Option Addr × Nat × Option Addr × Nat => [(28, .int .i64 s.1), (8, .slice s.2.1 (outs (E.take s.1) j).length s.2.2.1)])
    (fun s w => s.1 ≤ E.length ∧ Vc.Sep W w [ownR s.2.2.2.1 (upto (E.take s.1) j).length s.2.2.2.2 52 3 (entsV (upto (E.take s.1) j)), ownR s.2.1 (outs (E.take s.1) j).length s.2.2.1 26 1 (litsV (outs (E.take s.1) j)),
      cellsR b3 45 [.int .i64 n, .int .i64 j, .slice s.2.2.2.1 (upto (E.take s.1) j).length s.2.2.2.2], cellsR b2 45 [.int .i64 0, .int .i64 0, .slice none 0 0]])
    (fun s => E.length - s.1) (0, some ⟨b4, 0, none⟩, 0, none, 0) ⟨rfl, rfl, trivial⟩ ⟨by simp, (H.sel [0, 1, 2, 3] (by decide) rfl)⟩ ?_
  clear H
  rintro ⟨i, a2, c2, a1, c1⟩ w ⟨hi, H⟩
  simp only [] at hi H ⊢
  have hpl := part_len (E := E) (i := i) (k := j)
  refine Br_dec (fun k3 => ?_) (fun k3 => ?_)
  · have hi' : i < E.length := by omega
    have ex := List.getElem?_eq_getElem hi'
    obtain ⟨bs, o, rfl⟩ := h.addr (by rw [entsV_len]; omega)
    have hu := upto_snoc (k := j) ex
    have ho := outs_snoc (k := j) ex
    generalize E[i] = x at ex hu ho
    refine Ix_in i rfl hi' ?_
    refine LdN_src (j := i * 3) (H.rd h) (show _ = [.int .i32 x.lit, .int .i64 x.lev, .int .i64 x.rea] from entsV_part ex) rfl ?_
    (refine Nw_sep H ?_; clear H; intro b5 w H; (try simp only [Value.cells, List.toList_toArray, List.append_nil, List.cons_append, List.nil_append] at H))
    (repeat ((try conv => whnf); first | refine Join_dup ?_ | (refine Br_gate ?_; first | refine Br_true ?_ | refine Br_false ?_ | refine Br_dec_yes (by omega) ?_ | refine Br_dec_no (by omega) ?_ | refine Br_eq_yes rfl ?_ | refine Br_ne_no rfl ?_ | refine Br_eq_yes (by omega) ?_ | refine Br_eq_no (by omega) ?_ | refine Br_ne_yes (by omega) ?_ | refine Br_ne_no (by omega) ?_ | refine Br_not ?_) | refine Do_ptr_eq_nil tok rfl ?_ | refine Do_nil_eq_nil tok rfl ?_ | refine Do_ptr_ne_nil tok rfl ?_ | (refine Ld_gate ?_; refine Ld_m H (by repeat first | exact List.Mem.head _ | refine List.Mem.tail _ ?_) (by rfl) ?_) | (refine LdN_gate ?_; refine LdN_m H (by repeat first | exact List.Mem.head _ | refine List.Mem.tail _ ?_) (by rfl) ?_) | (refine St_gate ?_; refine St_u H (by repeat first | exact Upd.head | apply Upd.tail) (by rfl) (by simp) (by simp only [List.set_cons_succ, List.set_cons_zero]; rfl) ?_; clear H; intro w H) | (refine StN_gate ?_; refine StN_u H (by repeat first | exact Upd.head | apply Upd.tail) (by simp [oneCell]) (by rfl) ?_; clear H; intro w H) | (refine Kept_gate ?_; first | refine Kept_in (Sep.cellAt H (by repeat first | exact List.Mem.head _ | refine List.Mem.tail _ ?_) (by rfl)) ?_ | refine Kept_in (Sep.cellN H (by repeat first | exact List.Mem.head _ | refine List.Mem.tail _ ?_)) ?_) | (refine Ar_gate ?_; first | refine Ar_i64 (by omega) (by omega) ?_ | refine Ar_i32 (by omega) (by omega) ?_ | refine Ar_u64 (by omega) (by omega) ?_ | refine Ar_u32 (by omega) (by omega) ?_ | refine Ar_u8 (by omega) (by omega) ?_) | refine Eqv_in ?_ | refine Nn_in (by omega) ?_ | refine Nz_in (by omega) ?_))
    refine Br_dec (fun k4 => ?_) (fun k4 => ?_)
    · rw [if_pos (by omega)] at hu ho
      have eu : entsV (upto (E.take i) j) ++ [.int .i32 x.lit, .int .i64 x.lev, .int .i64 x.rea] = entsV (upto (E.take (i + 1)) j) := by rw [hu, entsV_app, entsV_one]; rfl
      have el : (upto (E.take i) j).length + 1 = (upto (E.take (i + 1)) j).length := by rw [hu]; simp
      (repeat ((try conv => whnf); first | refine Join_dup ?_ | (refine Br_gate ?_; first | refine Br_true ?_ | refine Br_false ?_ | refine Br_dec_yes (by omega) ?_ | refine Br_dec_no (by omega) ?_ | refine Br_eq_yes rfl ?_ | refine Br_ne_no rfl ?_ | refine Br_eq_yes (by omega) ?_ | refine Br_eq_no (by omega) ?_ | refine Br_ne_yes (by omega) ?_ | refine Br_ne_no (by omega) ?_ | refine Br_not ?_) | refine Do_ptr_eq_nil tok rfl ?_ | refine Do_nil_eq_nil tok rfl ?_ | refine Do_ptr_ne_nil tok rfl ?_ | (refine Ld_gate ?_; refine Ld_m H (by repeat first | exact List.Mem.head _ | refine List.Mem.tail _ ?_) (by rfl) ?_) | (refine LdN_gate ?_; refine LdN_m H (by repeat first | exact List.Mem.head _ | refine List.Mem.tail _ ?_) (by rfl) ?_) | (refine St_gate ?_; refine St_u H (by repeat first | exact Upd.head | apply Upd.tail) (by rfl) (by simp) (by simp only [List.set_cons_succ, List.set_cons_zero]; rfl) ?_; clear H; intro w H) | (refine StN_gate ?_; refine StN_u H (by repeat first | exact Upd.head | apply Upd.tail) (by simp [oneCell]) (by rfl) ?_; clear H; intro w H) | (refine Kept_gate ?_; first | refine Kept_in (Sep.cellAt H (by repeat first | exact List.Mem.head _ | refine List.Mem.tail _ ?_) (by rfl)) ?_ | refine Kept_in (Sep.cellN H (by repeat first | exact List.Mem.head _ | refine List.Mem.tail _ ?_)) ?_) | (refine Ar_gate ?_; first | refine Ar_i64 (by omega) (by omega) ?_ | refine Ar_i32 (by omega) (by omega) ?_ | refine Ar_u64 (by omega) (by omega) ?_ | refine Ar_u32 (by omega) (by omega) ?_ | refine Ar_u8 (by omega) (by omega) ?_) | refine Eqv_in ?_ | refine Nn_in (by omega) ?_ | refine Nz_in (by omega) ?_))
      (refine Nw_sep H ?_; clear H; intro b6 w H; (try simp only [Value.cells, List.toList_toArray, List.append_nil, List.cons_append, List.nil_append] at H))
      (refine DoN_gate ?_; refine append_one tok H rfl rfl rfl rfl rfl (by decide) (by repeat first | exact List.Mem.head _ | refine List.Mem.tail _ ?_) (m := 1) rfl (by simp [oneCell]) (by omega) (by unfold maxLen; omega) ?_; clear H; intro a3 c3 w H; replace H := H _ (by repeat first | exact Upd.head | apply Upd.tail))
      rw [eu, el] at H
      rw [el]
      (repeat ((try conv => whnf); first | refine Join_dup ?_ | (refine Br_gate ?_; first | refine Br_true ?_ | refine Br_false ?_ | refine Br_dec_yes (by omega) ?_ | refine Br_dec_no (by omega) ?_ | refine Br_eq_yes rfl ?_ | refine Br_ne_no rfl ?_ | refine Br_eq_yes (by omega) ?_ | refine Br_eq_no (by omega) ?_ | refine Br_ne_yes (by omega) ?_ | refine Br_ne_no (by omega) ?_ | refine Br_not ?_) | refine Do_ptr_eq_nil tok rfl ?_ | refine Do_nil_eq_nil tok rfl ?_ | refine Do_ptr_ne_nil tok rfl ?_ | (refine Ld_gate ?_; refine Ld_m H (by repeat first | exact List.Mem.head _ | refine List.Mem.tail _ ?_) (by rfl) ?_) | (refine LdN_gate ?_; refine LdN_m H (by repeat first | exact List.Mem.head _ | refine List.Mem.tail _ ?_) (by rfl) ?_) | (refine St_gate ?_; refine St_u H (by repeat first | exact Upd.head | apply Upd.tail) (by rfl) (by simp) (by simp only [List.set_cons_succ, List.set_cons_zero]; rfl) ?_; clear H; intro w H) | (refine StN_gate ?_; refine StN_u H (by repeat first | exact Upd.head | apply Upd.tail) (by simp [oneCell]) (by rfl) ?_; clear H; intro w H) | (refine Kept_gate ?_; first | refine Kept_in (Sep.cellAt H (by repeat first | exact List.Mem.head _ | refine List.Mem.tail _ ?_) (by rfl)) ?_ | refine Kept_in (Sep.cellN H (by repeat first | exact List.Mem.head _ | refine List.Mem.tail _ ?_)) ?_) | (refine Ar_gate ?_; first | refine Ar_i64 (by omega) (by omega) ?_ | refine Ar_i32 (by omega) (by omega) ?_ | refine Ar_u64 (by omega) (by omega) ?_ | refine Ar_u32 (by omega) (by omega) ?_ | refine Ar_u8 (by omega) (by omega) ?_) | refine Eqv_in ?_ | refine Nn_in (by omega) ?_ | refine Nz_in (by omega) ?_))
      rw [← ho] at H
      refine ⟨(i + 1, a2, c2, a3, c3), ⟨congrArg some (vint (by simp)), ?_, trivial⟩, ⟨hi', (H.sel [1, 2, 3, 4] (by decide) rfl)⟩, by simp; omega⟩
      simp only []
      rw [ho]; rfl
    · rw [if_neg (by omega)] at hu ho
      have eu : [.int .i32 x.lit] ++ litsV (outs (E.take i) j) = litsV (outs (E.take (i + 1)) j) := by rw [ho]; rfl
      have el : 1 + (outs (E.take i) j).length = (outs (E.take (i + 1)) j).length := by rw [ho]; simp; omega
      (repeat ((try conv => whnf); first | refine Join_dup ?_ | (refine Br_gate ?_; first | refine Br_true ?_ | refine Br_false ?_ | refine Br_dec_yes (by omega) ?_ | refine Br_dec_no (by omega) ?_ | refine Br_eq_yes rfl ?_ | refine Br_ne_no rfl ?_ | refine Br_eq_yes (by omega) ?_ | refine Br_eq_no (by omega) ?_ | refine Br_ne_yes (by omega) ?_ | refine Br_ne_no (by omega) ?_ | refine Br_not ?_) | refine Do_ptr_eq_nil tok rfl ?_ | refine Do_nil_eq_nil tok rfl ?_ | refine Do_ptr_ne_nil tok rfl ?_ | (refine Ld_gate ?_; refine Ld_m H (by repeat first | exact List.Mem.head _ | refine List.Mem.tail _ ?_) (by rfl) ?_) | (refine LdN_gate ?_; refine LdN_m H (by repeat first | exact List.Mem.head _ | refine List.Mem.tail _ ?_) (by rfl) ?_) | (refine St_gate ?_; refine St_u H (by repeat first | exact Upd.head | apply Upd.tail) (by rfl) (by simp) (by simp only [List.set_cons_succ, List.set_cons_zero]; rfl) ?_; clear H; intro w H) | (refine StN_gate ?_; refine StN_u H (by repeat first | exact Upd.head | apply Upd.tail) (by simp [oneCell]) (by rfl) ?_; clear H; intro w H) | (refine Kept_gate ?_; first | refine Kept_in (Sep.cellAt H (by repeat first | exact List.Mem.head _ | refine List.Mem.tail _ ?_) (by rfl)) ?_ | refine Kept_in (Sep.cellN H (by repeat first | exact List.Mem.head _ | refine List.Mem.tail _ ?_)) ?_) | (refine Ar_gate ?_; first | refine Ar_i64 (by omega) (by omega) ?_ | refine Ar_i32 (by omega) (by omega) ?_ | refine Ar_u64 (by omega) (by omega) ?_ | refine Ar_u32 (by omega) (by omega) ?_ | refine Ar_u8 (by omega) (by omega) ?_) | refine Eqv_in ?_ | refine Nn_in (by omega) ?_ | refine Nz_in (by omega) ?_))
      (refine Nw_sep H ?_; clear H; intro b6 w H; (try simp only [Value.cells, List.toList_toArray, List.append_nil, List.cons_append, List.nil_append] at H))
      replace H := H.row 0 1 1 rfl rfl (by decide) (by simp only [List.set_cons_succ, List.set_cons_zero]; rfl)
      refine append_sep tok H rfl rfl rfl rfl rfl (by decide) (by repeat first | exact List.Mem.head _ | refine List.Mem.tail _ ?_) (H.srcM (by repeat first | exact List.Mem.head _ | refine List.Mem.tail _ ?_)) (by intro u hu; simp only [litsV, List.mem_map] at hu; obtain ⟨y, _, rfl⟩ := hu; rfl) (by omega) (by unfold maxLen; omega) el eu ?_
      clear H; intro a3 c3 w H; replace H := H _ (by repeat first | exact Upd.head | apply Upd.tail)
      (repeat ((try conv => whnf); first | refine Join_dup ?_ | (refine Br_gate ?_; first | refine Br_true ?_ | refine Br_false ?_ | refine Br_dec_yes (by omega) ?_ | refine Br_dec_no (by omega) ?_ | refine Br_eq_yes rfl ?_ | refine Br_ne_no rfl ?_ | refine Br_eq_yes (by omega) ?_ | refine Br_eq_no (by omega) ?_ | refine Br_ne_yes (by omega) ?_ | refine Br_ne_no (by omega) ?_ | refine Br_not ?_) | refine Do_ptr_eq_nil tok rfl ?_ | refine Do_nil_eq_nil tok rfl ?_ | refine Do_ptr_ne_nil tok rfl ?_ | (refine Ld_gate ?_; refine Ld_m H (by repeat first | exact List.Mem.head _ | refine List.Mem.tail _ ?_) (by rfl) ?_) | (refine LdN_gate ?_; refine LdN_m H (by repeat first | exact List.Mem.head _ | refine List.Mem.tail _ ?_) (by rfl) ?_) | (refine St_gate ?_; refine St_u H (by repeat first | exact Upd.head | apply Upd.tail) (by rfl) (by simp) (by simp only [List.set_cons_succ, List.set_cons_zero]; rfl) ?_; clear H; intro w H) | (refine StN_gate ?_; refine StN_u H (by repeat first | exact Upd.head | apply Upd.tail) (by simp [oneCell]) (by rfl) ?_; clear H; intro w H) | (refine Kept_gate ?_; first | refine Kept_in (Sep.cellAt H (by repeat first | exact List.Mem.head _ | refine List.Mem.tail _ ?_) (by rfl)) ?_ | refine Kept_in (Sep.cellN H (by repeat first | exact List.Mem.head _ | refine List.Mem.tail _ ?_)) ?_) | (refine Ar_gate ?_; first | refine Ar_i64 (by omega) (by omega) ?_ | refine Ar_i32 (by omega) (by omega) ?_ | refine Ar_u64 (by omega) (by omega) ?_ | refine Ar_u32 (by omega) (by omega) ?_ | refine Ar_u8 (by omega) (by omega) ?_) | refine Eqv_in ?_ | refine Nn_in (by omega) ?_ | refine Nz_in (by omega) ?_))
      rw [← hu] at H
      exact ⟨(i + 1, a3, c3, a1, c1), ⟨congrArg some (vint (by simp)), rfl, trivial⟩, ⟨hi', (H.sel [2, 0, 4, 5] (by decide) rfl)⟩, by simp; omega⟩
  · (repeat ((try conv => whnf); first | refine Join_dup ?_ | (refine Br_gate ?_; first | refine Br_true ?_ | refine Br_false ?_ | refine Br_dec_yes (by omega) ?_ | refine Br_dec_no (by omega) ?_ | refine Br_eq_yes rfl ?_ | refine Br_ne_no rfl ?_ | refine Br_eq_yes (by omega) ?_ | refine Br_eq_no (by omega) ?_ | refine Br_ne_yes (by omega) ?_ | refine Br_ne_no (by omega) ?_ | refine Br_not ?_) | refine Do_ptr_eq_nil tok rfl ?_ | refine Do_nil_eq_nil tok rfl ?_ | refine Do_ptr_ne_nil tok rfl ?_ | (refine Ld_gate ?_; refine Ld_m H (by repeat first | exact List.Mem.head _ | refine List.Mem.tail _ ?_) (by rfl) ?_) | (refine LdN_gate ?_; refine LdN_m H (by repeat first | exact List.Mem.head _ | refine List.Mem.tail _ ?_) (by rfl) ?_) | (refine St_gate ?_; refine St_u H (by repeat first | exact Upd.head | apply Upd.tail) (by rfl) (by simp) (by simp only [List.set_cons_succ, List.set_cons_zero]; rfl) ?_; clear H; intro w H) | (refine StN_gate ?_; refine StN_u H (by repeat first | exact Upd.head | apply Upd.tail) (by simp [oneCell]) (by rfl) ?_; clear H; intro w H) | (refine Kept_gate ?_; first | refine Kept_in (Sep.cellAt H (by repeat first | exact List.Mem.head _ | refine List.Mem.tail _ ?_) (by rfl)) ?_ | refine Kept_in (Sep.cellN H (by repeat first | exact List.Mem.head _ | refine List.Mem.tail _ ?_)) ?_) | (refine Ar_gate ?_; first | refine Ar_i64 (by omega) (by omega) ?_ | refine Ar_i32 (by omega) (by omega) ?_ | refine Ar_u64 (by omega) (by omega) ?_ | refine Ar_u32 (by omega) (by omega) ?_ | refine Ar_u8 (by omega) (by omega) ?_) | refine Eqv_in ?_ | refine Nn_in (by omega) ?_ | refine Nz_in (by omega) ?_))
    obtain rfl : i = E.length := by omega
    rw [List.take_length] at H ⊢
    exact Ret_in (.inr ⟨hb, a1, c1, a2, c2, rfl, (H.sel [0, 1] (by decide) rfl)⟩)

end
end Go.Proofs.Ytkffnafmbbpgpaa
