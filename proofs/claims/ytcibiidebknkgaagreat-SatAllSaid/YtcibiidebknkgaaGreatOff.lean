/- Slices that begin within a block that the holder owns. -/
import Derived.Test.YtcibiidebknkgaaGreatSep
import Derived.ArgAppend
set_option linter.unusedVariables false
set_option linter.unusedSimpArgs false
namespace Go.Vc
open Go

def OwnO (w : World) (a : Option Addr) (n cap el : Nat) (xs : List Value) : Prop :=
  xs.length = n ∧ n ≤ cap ∧ cap ≤ maxLen ∧ (cap = 0 ∨ ∃ b pre rest, a = some ⟨b, pre.length, none⟩ ∧ At w b el (pre ++ (xs ++ rest)) ∧ (xs ++ rest).length = cap)
def OffIs (a : Option Addr) (n cap el : Nat) (xs : List Value) (w : World) (S : Nat → Prop) : Prop := (cap ≠ 0 → ∀ p, a = some p → S p.block) ∧ OwnO w a n cap el xs
theorem OwnO.lt {w : World} {a : Option Addr} {n cap el : Nat} {xs : List Value} (h : OwnO w a n cap el xs) (hc : cap ≠ 0) {p : Addr} (hp : a = some p) : p.block < w.heap.size := by
  rcases h.2.2.2 with h0 | ⟨b, pre, rest, rfl, hat, _⟩
  · exact (hc h0).elim
  · cases hp; exact hat.lt
theorem OwnO.fr {S : Nat → Prop} {w w' : World} {a : Option Addr} {n cap el : Nat} {xs : List Value} (h : OwnO w a n cap el xs) (hf : Fr S w w') (hS : cap ≠ 0 → ∀ p, a = some p → ¬ S p.block) : OwnO w' a n cap el xs := by
  obtain ⟨h1, h2, h3, h4⟩ := h
  refine ⟨h1, h2, h3, ?_⟩
  by_cases hc : cap = 0
  · exact .inl hc
  · rcases h4 with h4 | ⟨b, pre, rest, rfl, hat, hl⟩
    · exact (hc h4).elim
    · exact .inr ⟨b, pre, rest, rfl, hat.fr hf (hS hc _ rfl), hl⟩
def offR (a : Option Addr) (n cap el : Nat) (xs : List Value) : Res :=
  ⟨OffIs a n cap el xs, fun h => ⟨fun hc p hp => ⟨h.1 hc p hp, h.2.lt hc hp⟩, h.2⟩, fun h f d => ⟨h.1, h.2.fr f fun hc p hp => d _ (h.1 hc p hp)⟩, fun h m => ⟨fun hc p hp => m _ (h.1 hc p hp), h.2⟩⟩
theorem OwnO.src {w : World} {a : Option Addr} {n cap el : Nat} {xs : List Value} (h : OwnO w a n cap el xs) : Src w a n 1 xs := by
  refine ⟨by rw [h.1, Nat.mul_one], fun j u hj => ?_⟩
  have hlt : j < xs.length := (List.getElem?_eq_some_iff.1 hj).1
  rcases h.2.2.2 with h0 | ⟨b, pre, rest, rfl, hat, _⟩
  · have := h.1; have := h.2.1; omega
  · refine ⟨_, rfl, ?_⟩
    rw [add_mk, hat.cell, List.getElem?_append_right (by omega), Nat.add_sub_cancel_left, List.getElem?_append_left hlt]
    exact hj

section
variable {w0 w : World} {l : List Res}
theorem Sep.offM {a : Option Addr} {n cap el : Nat} {xs : List Value} (h : Sep w0 w l) (hm : offR a n cap el xs ∈ l) : OwnO w a n cap el xs := by
  obtain ⟨S, hS⟩ := h.inst hm
  exact hS.2
theorem Sep.offSrc {a : Option Addr} {n cap el : Nat} {xs : List Value} (h : Sep w0 w l) (hm : offR a n cap el xs ∈ l) : Src w a n 1 xs := (h.offM hm).src
theorem Sep.offNil (h : Sep w0 w l) (el : Nat) : Sep w0 w (offR none 0 0 el [] :: l) :=
  h.cons (S1 := fun _ => False) (Fr.refl _ _) ⟨fun hc => (hc rfl).elim, rfl, Nat.le_refl _, Nat.zero_le _, .inl rfl⟩ fun _ h => h.elim

/-- Without the first one. -/
theorem OwnO.tail1 {w : World} {a : Option Addr} {n cap el : Nat} {x : Value} {xs : List Value} (h : OwnO w a n cap el (x :: xs)) : OwnO w (if cap = 1 then a else a.map (·.add (1 * 1))) (n - 1) (cap - 1) el xs := by
  obtain ⟨h1, h2, h3, h4⟩ := h
  simp only [List.length_cons] at h1
  refine ⟨by omega, by omega, by omega, ?_⟩
  rcases h4 with h4 | ⟨b, pre, rest, rfl, hat, hl⟩
  · omega
  · by_cases hc : cap = 1
    · exact .inl (by omega)
    · refine .inr ⟨b, pre ++ [x], rest, ?_, ?_, ?_⟩
      · rw [if_neg hc]
        simp only [Option.map_some]
        rw [add_mk]; simp
      · have e : pre ++ [x] ++ (xs ++ rest) = pre ++ (x :: xs ++ rest) := by simp
        rw [e]; exact hat
      · simp only [List.cons_append, List.length_cons] at hl; omega
theorem Sep.offTail {a : Option Addr} {n cap el : Nat} {x : Value} {xs : List Value} (h : Sep w0 w l) (hm : offR a n cap el (x :: xs) ∈ l) :
    SepU w0 w l (offR a n cap el (x :: xs)) (offR (if cap = 1 then a else a.map (·.add (1 * 1))) (n - 1) (cap - 1) el xs) := by
  obtain ⟨S1, h1, h2, h3⟩ := h.at hm
  refine h3 w _ S1 (Fr.refl _ _) ⟨fun hc p hp => ?_, h1.2.tail1⟩ fun x hx => .inl hx
  have hc1 : cap ≠ 1 := by omega
  rw [if_neg hc1] at hp
  cases a with
  | none => cases hp
  | some q =>
    cases hp
    have : (q.add (1 * 1)).block = q.block := by unfold Addr.add; split <;> rfl
    rw [this]
    exact h1.1 (by omega) q rfl

theorem append_ownO {P : Program} {T : Tab} (hT : TabOk P T) {t el B ty : Nat} {z : Value} (hd : T.d t = some (.slice el)) (hs : T.s el = some 1) (hb : T.b el = some B) (hz : T.z el = some z)
    (hzs : z.cells.size = 1) {w : World} {a : Option Addr} {n cap : Nat} {xs : List Value} (hown : OwnO w a n cap el xs) {p : Addr} {mc : Nat} {y : Value}
    (hsrc : Src w (some p) 1 1 [y]) (h1 : oneCell y = true) (hbound : (n + 1) * B ≤ 140737488355328) (hmax : n + 1 ≤ maxLen) {cb : Array Bool} {K : Value → World → Prop}
    (hk : ∀ a' cap' w', OwnO w' a' (n + 1) cap' el (xs ++ [y]) → Fr (fun x => cap ≠ 0 ∧ ∃ q, a = some q ∧ x = q.block) w w' → ((a' = a ∧ cap ≠ 0) ∨ ∃ b, a' = some ⟨b, 0, none⟩ ∧ w.heap.size ≤ b) → K (.slice a' (n + 1) cap') w') :
    DoN P (builtin .append #[t, t] ty cb #[.slice a n cap, .slice (some p) 1 mc]) w K := by
  obtain ⟨i, hi, hib⟩ := hT.info hb
  have his := info_size hT hi hs
  have hiz := info_zero hT hi hz
  have ht := hT.d _ (find_mem hd)
  simp only at ht
  have hmax' : n + 1 ≤ 9223372036854775807 := by unfold maxLen at hmax; omega
  have key : (∃ v w', (Builtin.append_ #[t, t] ty #[.slice a n cap, .slice (some p) 1 mc]).run P w = .ok v w' ∧ K v w') → DoN P (builtin .append #[t, t] ty cb #[.slice a n cap, .slice (some p) 1 mc]) w K := by
    rintro ⟨v, w', hr, hK⟩
    refine ⟨.inl ⟨v, w', ?_, hK⟩⟩
    simp only [builtin, Sem.run_bind, hr, Result.andThen_ok, Sem.run_pure]
  apply key
  obtain ⟨hxl, hnc, hcm, hcase⟩ := hown
  have hnews : ∀ j u, ([y] : List Value)[j]? = some u → w.cell? (p.add j) = some u := fun j u hj => hsrc.cell hj
  have hyl : ([y] : List Value).length = 1 * i.size := by rw [his]; rfl
  have h1' : ∀ u ∈ ([y] : List Value), u.oneCell' = true := fun u hu => by rw [List.mem_singleton] at hu; subst hu; rw [← oneCell_eq]; exact h1
  have hzl : ∀ k, (Builtin.zeroCells z.cells k).toList.length = k := fun k => by rw [Array.length_toList, size_zeroCells, hzs, Nat.mul_one]
  have grown : ∀ (old : Nat) (rest : List Value), old < n + 1 → rest.length = grownCap w (n + 1) old el - (n + 1) →
      OwnO (w.drew.alloc (.cells ((xs ++ [y]) ++ rest).toArray el)) (some ⟨w.heap.size, 0, none⟩) (n + 1) (grownCap w (n + 1) old el) el (xs ++ [y]) ∧
      Fr (fun x => cap ≠ 0 ∧ ∃ q, a = some q ∧ x = q.block) w (w.drew.alloc (.cells ((xs ++ [y]) ++ rest).toArray el)) := by
    intro old rest ho hrest
    have hge := grownCap_ge w (n + 1) old el
    have hlen : (xs ++ [y]).length = n + 1 := by simp [hxl]
    refine ⟨⟨hlen, hge, grownCap_le_maxLen w (n + 1) old el hmax, .inr ⟨w.heap.size, [], rest, rfl, ?_, ?_⟩⟩, ?_⟩
    · exact ⟨by rw [heap_alloc]; exact if_pos rfl⟩
    · rw [List.length_append, hlen, hrest]; omega
    · have f1 := Fr.drew w
      have f2 := Fr.alloc w.drew (o := .cells ((xs ++ [y]) ++ rest).toArray el) (by intro c t f h; cases h; rfl)
      exact (f1.trans f2).mono (fun _ _ h => h.elim)
  have ha : a = none ∨ ∃ q, a = some q := by cases a; exact .inl rfl; exact .inr ⟨_, rfl⟩
  by_cases hroom : n + 1 ≤ cap
  · rcases hcase with h0 | ⟨b, pre, rest, rfl, hat, hrl⟩
    · omega
    · have hlen : n < (xs ++ rest).length := by omega
      have hr := run_append_room_cells (P := P) (w := w) t ty el i ht hi b pre.length n cap p 1 mc [y] hyl hnews h1' hroom
        (fun j hj => by
          have hj0 : j = 0 := by simpa using hj
          subst hj0
          rw [his, hat.cell, Nat.mul_one, Nat.add_zero, List.getElem?_append_right (by omega), Nat.add_sub_cancel_left, List.getElem?_eq_getElem hlen]; rfl)
        (fun j hj => by
          unfold World.frozen?
          rw [hat.out]
          simp)
      obtain ⟨a1, a2, a3⟩ := setCells_at (vs := [y]) (o := pre.length + n * i.size) (k := 0) hat (by rw [his]; simp only [List.length_append, List.length_singleton] at *; omega)
      refine ⟨_, _, hr, hk _ _ _ ⟨by simp [hxl], hroom, hcm, .inr ⟨b, pre, rest.drop 1, rfl, ?_, ?_⟩⟩ ?_ (.inl ⟨rfl, by omega⟩)⟩
      · have e : (pre ++ (xs ++ rest)).take (pre.length + n * i.size + 0) ++ [y] ++ (pre ++ (xs ++ rest)).drop (pre.length + n * i.size + 0 + [y].length) = pre ++ (xs ++ [y] ++ rest.drop 1) := by
          rw [his, Nat.mul_one, Nat.add_zero, ← hxl]
          have e1 : pre.length + xs.length = (pre ++ xs).length := by simp
          rw [e1, ← List.append_assoc pre xs rest, List.take_left, List.length_singleton, List.drop_append, List.drop_eq_nil_of_le (by omega), Nat.add_sub_cancel_left]
          simp
        rw [e] at a1
        exact a1
      · simp only [List.length_append, List.length_drop, List.length_singleton] at hrl ⊢; omega
      · exact a2.mono fun x _ hx => ⟨by omega, _, rfl, hx⟩
  · have holds : ∀ q, a = some q → ∀ j u, xs[j]? = some u → w.cell? (q.add j) = some u := by
      rintro q rfl j u hj
      have hlt : j < xs.length := (List.getElem?_eq_some_iff.1 hj).1
      rcases hcase with h0 | ⟨b, pre, rest, he, hat, hrl⟩
      · omega
      · cases he
        rw [add_mk, hat.cell, List.getElem?_append_right (by omega), Nat.add_sub_cancel_left, List.getElem?_append_left hlt]; exact hj
    rcases ha with rfl | ⟨q, rfl⟩
    · have hc0 : cap = 0 := by
        rcases hcase with h0 | ⟨b, pre, rest, he, _⟩
        · exact h0
        · cases he
      subst hc0
      have hn : n = 0 := by omega
      subst hn
      have hx : xs = [] := List.length_eq_zero_iff.1 hxl
      subst hx
      have hr := run_append_nil (P := P) w t ty el i z ht hi hiz p 1 mc [y] hyl hnews (by omega) (by omega) (by rw [hib]; have hb := hbound; simp only [Nat.zero_add] at hb; omega)
      have hg := grown 0 (Builtin.zeroCells z.cells (grownCap w 1 0 el - 1)).toList (by omega) (by rw [hzl])
      have e : (([] ++ [y]) ++ (Builtin.zeroCells z.cells (grownCap w 1 0 el - 1)).toList).toArray = [y].toArray ++ Builtin.zeroCells z.cells (grownCap w 1 0 el - 1) := by
        apply Array.toList_inj.1; simp
      simp only [Nat.zero_add] at hg hk ⊢
      rw [e] at hg
      exact ⟨_, _, hr, hk _ _ _ hg.1 hg.2 (.inr ⟨_, rfl, Nat.le_refl _⟩)⟩
    · have hr := run_append_grow (P := P) w t ty el i z ht hi hiz q n cap xs (by rw [his, Nat.mul_one]; exact hxl) (holds q rfl) p 1 mc [y] hyl hnews (by omega) (by omega) (growslice_fits (by omega) (by rw [hib]; exact hbound))
      have hg := grown cap (Builtin.zeroCells z.cells (grownCap w (n + 1) cap el - (n + 1))).toList (by omega) (hzl _)
      have e : ((xs ++ [y]) ++ (Builtin.zeroCells z.cells (grownCap w (n + 1) cap el - (n + 1))).toList).toArray = xs.toArray ++ [y].toArray ++ Builtin.zeroCells z.cells (grownCap w (n + 1) cap el - (n + 1)) := by
        apply Array.toList_inj.1; simp
      rw [e] at hg
      exact ⟨_, _, hr, hk _ _ _ hg.1 hg.2 (.inr ⟨_, rfl, Nat.le_refl _⟩)⟩

/-- One more, out of the row of the arguments, which is at the head and goes. -/
theorem append_off {P : Program} {T : Tab} (hT : TabOk P T) {t el B ty b : Nat} {z y : Value} {a : Option Addr} {n cap : Nat} {xs : List Value} (h : Sep w0 w (cellsR b el [y] :: l))
    (hd : T.d t = some (.slice el)) (hs : T.s el = some 1) (hb : T.b el = some B) (hz : T.z el = some z)
    (hzs : z.cells.size = 1) (hm : offR a n cap el xs ∈ l) {mc : Nat}
    (h1 : oneCell y = true) (hbound : (n + 1) * B ≤ 140737488355328) (hmax : n + 1 ≤ maxLen) {cb : Array Bool} {K : Value → World → Prop}
    (hk : ∀ a' cap' w', SepU w0 w' l (offR a n cap el xs) (offR a' (n + 1) cap' el (xs ++ [y])) → K (.slice a' (n + 1) cap') w') :
    DoN P (builtin .append #[t, t] ty cb #[.slice a n cap, .slice (some ⟨b, 0, none⟩) 1 mc]) w K := by
  have hsrc : Src w (some ⟨b, 0, none⟩) 1 1 [y] := h.srcC 0 1 1 rfl rfl (by decide)
  obtain ⟨S1, g1, g2, g3⟩ := h.tail.at hm
  refine append_ownO hT hd hs hb hz hzs g1.2 hsrc h1 hbound hmax fun a' cap' w' ho hf ha => hk a' cap' w' ?_
  refine g3 w' (offR a' (n + 1) cap' el (xs ++ [y])) (fun x => S1 x ∨ w.heap.size ≤ x) (hf.mono ?_) ⟨fun hc p hp => ?_, ho⟩ fun x hx => hx
  · rintro x _ ⟨hc, q, hq, rfl⟩
    exact g1.1 hc q hq
  · rcases ha with ⟨rfl, hc⟩ | ⟨b', rfl, hb'⟩
    · exact .inl (g1.1 hc p hp)
    · cases hp; exact .inr hb'
end
end Go.Vc
