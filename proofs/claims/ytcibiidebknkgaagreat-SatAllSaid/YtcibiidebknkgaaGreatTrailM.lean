/- The trail, plain: which literals are true, since when, and why; what its cells hold. -/
import Derived.Test.YtcibiidebknkgaaGreatMem
set_option linter.unusedVariables false
set_option linter.unusedSimpArgs false
namespace Go.Trail
open Go Go.Vc

structure Ent where
  lit : Int
  lev : Nat
  rea : Int

def okLit (l : Int) : Bool := decide (l ≠ 0) && (decide (-262144 ≤ l) && decide (l ≤ 262144))
def var (l : Int) : Nat := if okLit l = true then l.natAbs else 0

theorem okLit_iff {l : Int} : okLit l = true ↔ l ≠ 0 ∧ -262144 ≤ l ∧ l ≤ 262144 := by simp [okLit]
theorem var_ok {l : Int} (h : okLit l = true) : var l = l.natAbs := if_pos h
theorem var_no {l : Int} (h : okLit l = false) : var l = 0 := if_neg (by simp [h])
theorem var_le (l : Int) : var l ≤ 262144 := by
  cases h : okLit l with
  | true => rw [var_ok h]; have := okLit_iff.1 h; omega
  | false => rw [var_no h]; omega
theorem var_pos {l : Int} : 0 < var l ↔ okLit l = true := by
  cases h : okLit l with
  | true => rw [var_ok h]; have := okLit_iff.1 h; simp; omega
  | false => rw [var_no h]; simp
theorem okLit_neg {l : Int} : okLit (-l) = okLit l := by
  rw [Bool.eq_iff_iff, okLit_iff, okLit_iff]; omega
theorem var_neg {l : Int} : var (-l) = var l := by unfold var; rw [okLit_neg, Int.natAbs_neg]

def find (E : List Ent) (v : Int) : Option Ent := E.find? fun x => decide ((var x.lit : Int) = v) && decide (0 < v)

def value : List Ent → Int → Int
  | [], _ => 0
  | x :: r, l => if x.lit = l then 1 else if okLit l = true ∧ x.lit = -l then -1 else value r l

def sgn (l : Int) : Int := if l < 0 then -1 else 1

/-- What is kept of a variable. -/
def markOf (E : List Ent) (v : Nat) : Int × Int × Int :=
  match find E v with
  | none => (0, 0, 0)
  | some x => (sgn x.lit, x.lev, x.rea)

def mk3 (m : Int × Int × Int) : List Value := [.int .i64 m.1, .int .i64 m.2.1, .int .i64 m.2.2]

def rows (f : Nat → Int × Int × Int) (n : Nat) : List Value := (List.range n).flatMap fun v => mk3 (f v)

theorem rows_succ (f : Nat → Int × Int × Int) (n : Nat) : rows f (n + 1) = rows f n ++ mk3 (f n) := by
  simp [rows, List.range_succ]

theorem rows_len (f : Nat → Int × Int × Int) : ∀ n, (rows f n).length = n * 3
  | 0 => rfl
  | n + 1 => by rw [rows_succ, List.length_append, rows_len f n]; simp [mk3]; omega

theorem rows_get (f : Nat → Int × Int × Int) : ∀ {n v j : Nat}, v < n → j < 3 → (rows f n)[v * 3 + j]? = (mk3 (f v))[j]?
  | 0, _, _, h, _ => by omega
  | n + 1, v, j, h, hj => by
    rw [rows_succ]
    by_cases hv : v < n
    · rw [List.getElem?_append_left (by rw [rows_len]; omega), rows_get f hv hj]
    · obtain rfl : v = n := by omega
      rw [List.getElem?_append_right (by rw [rows_len]; omega), rows_len]
      congr 1; omega

theorem rows_ext {f : Nat → Int × Int × Int} {n : Nat} {cs : List Value} (hl : cs.length = n * 3) (h : ∀ v j, v < n → j < 3 → cs[v * 3 + j]? = (mk3 (f v))[j]?) : cs = rows f n := by
  apply List.ext_getElem?
  intro i
  by_cases hi : i < n * 3
  · have e : i = i / 3 * 3 + i % 3 := by omega
    rw [e, h _ _ (by omega) (by omega), rows_get f (by omega) (by omega)]
  · rw [List.getElem?_eq_none (by omega), List.getElem?_eq_none (by rw [rows_len]; omega)]

theorem rows_congr {f g : Nat → Int × Int × Int} {n : Nat} (h : ∀ v, v < n → f v = g v) : rows f n = rows g n := by
  refine rows_ext (rows_len f n) fun v j hv hj => ?_
  rw [rows_get f hv hj, h v hv]

theorem rows_upd {f g : Nat → Int × Int × Int} {n v : Nat} (hv : v < n) (h : ∀ u, u < n → u ≠ v → g u = f u) {rest : List Value} :
    (rows f n ++ rest).take (v * 3) ++ mk3 (g v) ++ (rows f n ++ rest).drop (v * 3 + 3) = rows g n ++ rest := by
  have hlf := rows_len f n
  rw [List.take_append_of_le_length (by omega), List.drop_append_of_le_length (by omega), ← List.append_assoc]
  congr 1
  have ht : ((rows f n).take (v * 3)).length = v * 3 := by rw [List.length_take]; omega
  refine rows_ext (by rw [List.length_append, List.length_append, ht, List.length_drop, hlf]; simp [mk3]; omega) fun u j hu hj => ?_
  by_cases h1 : u < v
  · rw [List.append_assoc, List.getElem?_append_left (by rw [ht]; omega), List.getElem?_take, if_pos (by omega), rows_get f hu hj, h u hu (by omega)]
  · by_cases h2 : u = v
    · subst h2
      rw [List.append_assoc, List.getElem?_append_right (by rw [ht]; omega), ht, List.getElem?_append_left (by simp [mk3]; omega)]
      congr 1; omega
    · rw [List.getElem?_append_right (by rw [List.length_append, ht]; simp [mk3]; omega), List.getElem?_drop]
      have e : v * 3 + 3 + (u * 3 + j - (List.take (v * 3) (rows f n) ++ mk3 (g v)).length) = u * 3 + j := by rw [List.length_append, ht]; simp [mk3]; omega
      rw [e, rows_get f hu hj, h u hu h2]

theorem rows_part {f : Nat → Int × Int × Int} {n v : Nat} (hv : v < n) : ((rows f n).drop (v * 3)).take 3 = mk3 (f v) := by
  apply List.ext_getElem?
  intro j
  by_cases hj : j < 3
  · rw [List.getElem?_take, if_pos hj, List.getElem?_drop, rows_get f hv hj]
  · rw [List.getElem?_take, if_neg hj, List.getElem?_eq_none (by simp [mk3]; omega)]

theorem rows_put {f g : Nat → Int × Int × Int} {n v : Nat} (hv : v < n) (h : ∀ u, u < n → u ≠ v → g u = f u) : (rows f n).take (v * 3) ++ mk3 (g v) ++ (rows f n).drop (v * 3 + (mk3 (g v)).length) = rows g n := by
  have := rows_upd (rest := []) hv h
  simpa [mk3] using this

theorem rows_set {f g : Nat → Int × Int × Int} {n v : Nat} {x : Int} (hv : v < n) (h : ∀ u, u < n → u ≠ v → g u = f u) (hx : g v = (x, (f v).2)) : (rows f n).set (v * 3 + 0) (.int .i64 x) = rows g n := by
  refine rows_ext (by rw [List.length_set, rows_len]) fun u j hu hj => ?_
  rw [List.getElem?_set, rows_get f hu hj, rows_len]
  by_cases h1 : v * 3 + 0 = u * 3 + j
  · rw [if_pos h1, if_pos (by omega)]
    obtain rfl : u = v := by omega
    obtain rfl : j = 0 := by omega
    rw [hx]; rfl
  · rw [if_neg h1]
    by_cases h2 : u = v
    · subst h2
      rw [hx]
      match j, hj with
      | 0, _ => omega
      | 1, _ => rfl
      | 2, _ => rfl
    · rw [h u hu h2]

def litsV (E : List Ent) : List Value := E.map fun x => .int .i32 x.lit
def cnt (E : List Ent) (k : Nat) : Nat := (E.filter fun x => decide (x.lev ≤ k)).length
def levsV (D : Nat) (E : List Ent) : List Value := (List.range D).map fun i => .int .i64 (cnt E i : Nat)

/-- What holds of a trail of so many variables, so deep. -/
structure Inv (n D : Nat) (E : List Ent) : Prop where
  vars : n ≤ 262144
  ok : ∀ x ∈ E, okLit x.lit = true ∧ var x.lit ≤ n ∧ x.lev ≤ D
  rise : E.Pairwise fun x y => x.lev ≤ y.lev
  once : E.Pairwise fun x y => var x.lit ≠ var y.lit

theorem pigeons : ∀ (n : Nat) (l : List Nat), l.Pairwise (· ≠ ·) → (∀ x ∈ l, 1 ≤ x ∧ x ≤ n) → l.length ≤ n
  | 0, l, _, h => by
    cases l with
    | nil => exact Nat.le_refl _
    | cons x l => have := h x (by simp); omega
  | n + 1, l, hp, h => by
    have hl : (l.filter fun x => decide (x ≠ n + 1)).length ≤ n := pigeons n _ (hp.filter _) (by
      intro x hx
      simp only [List.mem_filter, decide_eq_true_eq] at hx
      have := h x hx.1; omega)
    have hc : (l.filter fun x => decide (x = n + 1)).length ≤ 1 := by
      have hq := hp.filter fun x => decide (x = n + 1)
      generalize hm : l.filter (fun x => decide (x = n + 1)) = m at hq
      have hall : ∀ x ∈ m, x = n + 1 := by
        intro x hx
        rw [← hm] at hx
        simpa using (List.mem_filter.1 hx).2
      match m, hq, hall with
      | [], _, _ => simp
      | [x], _, _ => simp
      | x :: y :: r, hq, hall =>
        have := (List.pairwise_cons.1 hq).1 y (by simp)
        rw [hall x (by simp), hall y (by simp)] at this
        exact absurd rfl this
    have hs : l.length = (l.filter fun x => decide (x = n + 1)).length + (l.filter fun x => decide (x ≠ n + 1)).length := by
      clear hp h hl hc
      induction l with
      | nil => rfl
      | cons x l ih =>
        by_cases hx : x = n + 1
        · rw [List.filter_cons_of_pos (by simpa using hx), List.filter_cons_of_neg (by simpa using hx)]; simp only [List.length_cons, ih]; omega
        · rw [List.filter_cons_of_neg (by simpa using hx), List.filter_cons_of_pos (by simpa using hx)]; simp only [List.length_cons, ih]; omega
    omega

theorem Inv.len {n D : Nat} {E : List Ent} (h : Inv n D E) : E.length ≤ n := by
  have := pigeons n (E.map fun x => var x.lit) (List.pairwise_map.2 h.once) (by
    intro x hx
    obtain ⟨e, he, rfl⟩ := List.mem_map.1 hx
    have := h.ok e he
    exact ⟨var_pos.2 this.1, this.2.1⟩)
  simpa using this

theorem find_none {E : List Ent} {v : Int} (hv : 0 < v) : find E v = none ↔ ∀ x ∈ E, (var x.lit : Int) ≠ v := by
  unfold find
  rw [List.find?_eq_none]
  constructor
  · intro h x hx he
    exact h x hx (by simp [he, hv])
  · intro h x hx
    simp [h x hx]

theorem find_some {E : List Ent} {v : Int} {x : Ent} (h : find E v = some x) : x ∈ E ∧ (var x.lit : Int) = v ∧ 0 < v := by
  unfold find at h
  have h1 := List.mem_of_find?_eq_some h
  have h2 := List.find?_some h
  simp only [Bool.and_eq_true, decide_eq_true_eq] at h2
  exact ⟨h1, h2.1, h2.2⟩

theorem find_low {E : List Ent} {v : Int} (hv : v < 1) : find E v = none := by
  unfold find
  rw [List.find?_eq_none]
  intro x _
  have : ¬ 0 < v := by omega
  simp [this]

theorem find_app {E : List Ent} {x : Ent} {v : Int} : find (E ++ [x]) v = (find E v).or (find [x] v) := by
  unfold find; rw [List.find?_append]

theorem Inv.above {n D : Nat} {E : List Ent} (h : Inv n D E) {v : Int} (hv : (n : Int) < v) : find E v = none := by
  rw [find_none (by omega)]
  intro x hx
  have := (h.ok x hx).2.1
  omega

/-- A literal's value is what its variable's mark says. -/
theorem value_mark {n D : Nat} {E : List Ent} (h : Inv n D E) (l : Int) (hl : okLit l = true) : value E l = if l < 0 then - (markOf E (var l)).1 else (markOf E (var l)).1 := by
  have hv : 0 < var l := var_pos.2 hl
  have hl' := okLit_iff.1 hl
  have ok := h.ok
  clear h
  unfold markOf
  induction E with
  | nil => simp [value, find]
  | cons x E ih =>
    have hx := okLit_iff.1 (ok x (by simp)).1
    have hxv := var_ok (ok x (by simp)).1
    have hlv := var_ok hl
    have ih := ih (fun y hy => ok y (by simp [hy]))
    unfold value
    by_cases h1 : var x.lit = var l
    · have hf : find (x :: E) (var l) = some x := by
        unfold find; rw [List.find?_cons_of_pos]; simp [h1]; omega
      rw [hf]
      simp only [sgn]
      by_cases h2 : x.lit = l
      · rw [if_pos h2, h2]; split <;> rfl
      · have h3 : x.lit = -l := by omega
        rw [if_neg h2, if_pos ⟨hl, h3⟩, h3]
        by_cases h4 : l < 0
        · rw [if_pos h4, if_neg (by omega)]
        · rw [if_neg h4, if_pos (by omega)]
    · have hf : find (x :: E) (var l) = find E (var l) := by
        unfold find; rw [List.find?_cons_of_neg]; simp; omega
      rw [hf, if_neg (by omega), if_neg (by omega)]
      exact ih

theorem value_no {E : List Ent} {l : Int} (ok : ∀ x ∈ E, okLit x.lit = true) (hl : okLit l = false) : value E l = 0 := by
  induction E with
  | nil => rfl
  | cons x E ih =>
    have := ok x (by simp)
    unfold value
    rw [if_neg (fun h => by rw [h, hl] at this; cases this), if_neg (fun h => by rw [hl] at h; cases h.1)]
    exact ih fun y hy => ok y (by simp [hy])

theorem value_none {n D : Nat} {E : List Ent} (h : Inv n D E) {l : Int} (hl : okLit l = true) (hf : find E (var l) = none) : value E l = 0 := by
  rw [value_mark h l hl, markOf, hf]; split <;> rfl

theorem sgn_ne (l : Int) : sgn l ≠ 0 := by unfold sgn; split <;> omega

theorem mark_zero {E : List Ent} {v : Nat} : (markOf E v).1 = 0 ↔ find E v = none := by
  unfold markOf
  cases find E v with
  | none => simp
  | some x => simp [sgn_ne]

theorem Inv.set {n D : Nat} {E : List Ent} (h : Inv n D E) {l r : Int} (hl : okLit l = true) (hn : var l ≤ n) (hf : find E (var l) = none) : Inv n D (E ++ [⟨l, D, r⟩]) where
  vars := h.vars
  ok := by
    intro x hx
    rcases List.mem_append.1 hx with hx | hx
    · exact h.ok x hx
    · obtain rfl := List.mem_singleton.1 hx
      exact ⟨hl, hn, Nat.le_refl _⟩
  rise := by
    refine List.pairwise_append.2 ⟨h.rise, List.pairwise_singleton _ _, ?_⟩
    intro x hx y hy
    obtain rfl := List.mem_singleton.1 hy
    exact (h.ok x hx).2.2
  once := by
    refine List.pairwise_append.2 ⟨h.once, List.pairwise_singleton _ _, ?_⟩
    intro x hx y hy
    obtain rfl := List.mem_singleton.1 hy
    have := (find_none (E := E) (v := var l) (by have := var_pos.2 hl; omega)).1 hf x hx
    simp only; omega

theorem Inv.deeper {n D : Nat} {E : List Ent} (h : Inv n D E) : Inv n (D + 1) E := ⟨h.vars, fun x hx => ⟨(h.ok x hx).1, (h.ok x hx).2.1, by have := (h.ok x hx).2.2; omega⟩, h.rise, h.once⟩

theorem Inv.grow {n D : Nat} {E : List Ent} (h : Inv n D E) (hn : n < 262144) : Inv (n + 1) D E := ⟨by omega, fun x hx => ⟨(h.ok x hx).1, by have := (h.ok x hx).2.1; omega, (h.ok x hx).2.2⟩, h.rise, h.once⟩

/-- What is left of a trail up to a level. -/
def upto (E : List Ent) (k : Nat) : List Ent := E.filter fun x => decide (x.lev ≤ k)

theorem Inv.back {n D : Nat} {E : List Ent} (h : Inv n D E) (k : Nat) : Inv n k (upto E k) where
  vars := h.vars
  ok := by
    intro x hx
    simp only [upto, List.mem_filter, decide_eq_true_eq] at hx
    exact ⟨(h.ok x hx.1).1, (h.ok x hx.1).2.1, hx.2⟩
  rise := h.rise.filter _
  once := h.once.filter _

theorem upto_take {E : List Ent} (h : E.Pairwise fun x y => x.lev ≤ y.lev) (k : Nat) : upto E k = E.take (cnt E k) ∧ (E.filter fun x => !decide (x.lev ≤ k)) = E.drop (cnt E k) := by
  unfold upto cnt
  induction E with
  | nil => simp
  | cons x E ih =>
    have h' := List.pairwise_cons.1 h
    have ih := ih h'.2
    by_cases hx : x.lev ≤ k
    · rw [List.filter_cons_of_pos (by simpa using hx), List.filter_cons_of_neg (by simpa using hx)]
      simp only [List.length_cons, List.take_succ_cons, List.drop_succ_cons]
      exact ⟨congrArg (x :: ·) ih.1, ih.2⟩
    · have hall : ∀ y ∈ E, ¬ y.lev ≤ k := fun y hy => by have := h'.1 y hy; omega
      have h1 : (x :: E).filter (fun x => decide (x.lev ≤ k)) = [] := by
        rw [List.filter_eq_nil_iff]
        intro y hy
        rcases List.mem_cons.1 hy with rfl | hy
        · simpa using hx
        · simpa using hall y hy
      have h2 : (x :: E).filter (fun x => !decide (x.lev ≤ k)) = x :: E := by
        rw [List.filter_eq_self]
        intro y hy
        rcases List.mem_cons.1 hy with rfl | hy
        · simpa using hx
        · simpa using hall y hy
      rw [h1, h2]; simp

theorem cnt_le (E : List Ent) (k : Nat) : cnt E k ≤ E.length := List.length_filter_le _ _

theorem cnt_all {n D : Nat} {E : List Ent} (h : Inv n D E) : cnt E D = E.length := by
  unfold cnt
  rw [List.filter_eq_self.2]
  intro x hx
  simpa using (h.ok x hx).2.2

theorem cnt_set {E : List Ent} {l r : Int} {D i : Nat} (hi : i < D) : cnt (E ++ [⟨l, D, r⟩]) i = cnt E i := by
  unfold cnt
  rw [List.filter_append]
  have : ¬ D ≤ i := by omega
  simp [this]

theorem cnt_upto {E : List Ent} {k i : Nat} (hi : i ≤ k) : cnt (upto E k) i = cnt E i := by
  unfold cnt upto
  rw [List.filter_filter]
  congr 1
  apply List.filter_congr
  intro x _
  rw [Bool.eq_iff_iff]
  simp; omega

theorem levs_set {E : List Ent} {l r : Int} {D : Nat} : levsV D (E ++ [⟨l, D, r⟩]) = levsV D E := by
  unfold levsV
  apply List.map_congr_left
  intro i hi
  rw [cnt_set (by simpa using hi)]

theorem levs_succ {n D : Nat} {E : List Ent} (h : Inv n D E) : levsV (D + 1) E = levsV D E ++ [.int .i64 (E.length : Nat)] := by
  unfold levsV
  rw [List.range_succ, List.map_append, List.map_singleton, cnt_all h]

theorem levs_back {E : List Ent} {k D : Nat} (hk : k ≤ D) : levsV k (upto E k) = (levsV D E).take k := by
  unfold levsV
  rw [← List.map_take, List.take_range, Nat.min_eq_left hk]
  apply List.map_congr_left
  intro i hi
  rw [cnt_upto (by have := List.mem_range.1 hi; omega)]

theorem levs_len (D : Nat) (E : List Ent) : (levsV D E).length = D := by simp [levsV]
theorem lits_len (E : List Ent) : (litsV E).length = E.length := by simp [litsV]
theorem levs_get {D i : Nat} {E : List Ent} (h : i < D) : (levsV D E)[i]? = some (.int .i64 (cnt E i : Nat)) := by simp [levsV, h]
theorem lits_get {i : Nat} {E : List Ent} {x : Ent} (h : E[i]? = some x) : (litsV E)[i]? = some (.int .i32 x.lit) := by simp [litsV, h]

theorem mark_set {E : List Ent} {l r : Int} {D : Nat} (hl : okLit l = true) (hf : find E (var l) = none) (v : Nat) : markOf (E ++ [⟨l, D, r⟩]) v = if v = var l then (sgn l, (D : Int), r) else markOf E v := by
  have hv := var_pos.2 hl
  unfold markOf
  rw [find_app]
  by_cases h : v = var l
  · subst h
    rw [if_pos rfl, hf]
    have : find [⟨l, D, r⟩] (var l : Int) = some ⟨l, D, r⟩ := by
      unfold find; rw [List.find?_cons_of_pos]; simp; omega
    rw [this]; rfl
  · rw [if_neg h]
    have : find [⟨l, D, r⟩] (v : Int) = none := by
      unfold find; rw [List.find?_cons_of_neg]
      · rfl
      · simp; intro h'; omega
    rw [this]; simp

/-- A mark, when some have been wiped out. -/
def wiped (E G : List Ent) (v : Nat) : Int × Int × Int := if (G.any fun x => var x.lit == v) = true then (0, 0, 0) else markOf E v

theorem wiped_nil (E : List Ent) : wiped E [] = markOf E := by funext v; simp [wiped]

theorem wiped_next (E G : List Ent) (x : Ent) (v : Nat) : wiped E (G ++ [x]) v = if v = var x.lit then (0, 0, 0) else wiped E G v := by
  unfold wiped
  rw [List.any_append]
  by_cases h : v = var x.lit
  · subst h; simp
  · have : (var x.lit == v) = false := by rw [beq_eq_false_iff_ne]; omega
    simp [this, h]

theorem wiped_all {n D : Nat} {E : List Ent} (h : Inv n D E) (k v : Nat) : wiped E (E.drop (cnt E k)).reverse v = markOf (upto E k) v := by
  rw [(upto_take h.rise k).1]
  generalize cnt E k = c
  have hp := h.once
  have hok := h.ok
  rw [← List.take_append_drop c E] at hp
  have hx := (List.pairwise_append.1 hp).2.2
  have hf : find E v = (find (E.take c) v).or (find (E.drop c) v) := by
    unfold find; rw [← List.find?_append, List.take_append_drop]
  unfold wiped
  rw [List.any_reverse]
  split
  · rename_i ha
    obtain ⟨y, hy, hv⟩ := List.any_eq_true.1 ha
    have hv : var y.lit = v := by simpa using hv
    have hpos := var_pos.2 (hok y (List.mem_of_mem_drop hy)).1
    have : find (E.take c) v = none := by
      rw [find_none (by omega)]
      intro x hx'
      have := hx x hx' y hy
      omega
    rw [markOf, this]
  · rename_i ha
    have : find (E.drop c) v = none := by
      by_cases hv : v = 0
      · exact find_low (by omega)
      · rw [find_none (by omega)]
        intro x hx' he
        exact ha (List.any_eq_true.2 ⟨x, hx', by simp; omega⟩)
    rw [this, Option.or_none] at hf
    unfold markOf; rw [hf]

theorem lits_back {E : List Ent} (h : E.Pairwise fun x y => x.lev ≤ y.lev) (k : Nat) : litsV (upto E k) = (litsV E).take (cnt E k) := by
  rw [(upto_take h k).1]; simp [litsV]
theorem lits_drop (E : List Ent) (c : Nat) : (litsV E).drop c = litsV (E.drop c) := by simp [litsV]
theorem upto_len (E : List Ent) (k : Nat) : (upto E k).length = cnt E k := rfl

/-! The document's list of entries -/
def ent3 (x : Ent) : List Value := [.int .i32 x.lit, .int .i64 x.lev, .int .i64 x.rea]
def entsV (E : List Ent) : List Value := E.flatMap ent3

theorem entsV_app (E F : List Ent) : entsV (E ++ F) = entsV E ++ entsV F := by simp [entsV]
theorem entsV_one (x : Ent) : entsV [x] = ent3 x := by simp [entsV]
theorem entsV_len : ∀ E : List Ent, (entsV E).length = E.length * 3
  | [] => rfl
  | x :: E => by
    have : entsV (x :: E) = ent3 x ++ entsV E := by simp [entsV]
    rw [this, List.length_append, entsV_len E]; simp [ent3]; omega
theorem entsV_ones {E : List Ent} : ∀ u ∈ entsV E, oneCell u = true := by
  intro u hu
  simp only [entsV, List.mem_flatMap, ent3] at hu
  obtain ⟨x, _, hx⟩ := hu
  simp at hx
  rcases hx with rfl | rfl | rfl <;> rfl
theorem entsV_part : ∀ {E : List Ent} {i : Nat} {x : Ent}, E[i]? = some x → ((entsV E).drop (i * 3)).take 3 = ent3 x
  | [], i, x, h => by simp at h
  | y :: E, 0, x, h => by
    have : entsV (y :: E) = ent3 y ++ entsV E := by simp [entsV]
    rw [this]
    simp at h; subst h
    rfl
  | y :: E, i + 1, x, h => by
    have : entsV (y :: E) = ent3 y ++ entsV E := by simp [entsV]
    rw [this, show (i + 1) * 3 = (ent3 y).length + i * 3 by simp [ent3]; omega, List.drop_length_add_append]
    exact entsV_part (by simpa using h)

/-- What is told of a variable. -/
def told (E : List Ent) (v : Int) : List Value × Bool :=
  match find E v with
  | none => ([.int .i32 0, .int .i64 (-1), .int .i64 (-1)], false)
  | some x => (ent3 x, true)

theorem value_app (E F : List Ent) (l : Int) : value (E ++ F) l = if value E l = 0 then value F l else value E l := by
  induction E with
  | nil => simp [value]
  | cons x E ih =>
    simp only [List.cons_append, value]
    split
    · rfl
    · split
      · rfl
      · exact ih
end Go.Trail
