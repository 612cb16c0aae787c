/- Closings, with what the arguments take of memory. -/
import Derived.Test.YtcibiidebknkgaaGreatClose
import Derived.SizedLaws
set_option linter.unusedVariables false
set_option linter.unusedSimpArgs false
namespace Go.Vc
open Go Go.ChangeShapes Go.WideShapes Go.ChangeAt Go.RowKit
/-- What is read takes no more than the form's own reach, part by part. -/
def Light {H : Type} (P : Program) (t : TypeId) (d : DataW H) : Prop := ∀ n ∈ DataW.weights P t d, n ≤ reachBytes
section
variable {H : Type} {enc : TypeId × Value → H} {P : Program} {w : World}
theorem weightsAll_mem {e : TypeId} : ∀ {l : List (DataW H)} {d : DataW H} {n : Nat}, d ∈ l → n ∈ DataW.weights P e d → n ∈ DataW.weightsAll P e l
  | [], _, _, h, _ => by cases h
  | x :: l, d, n, h, hn => by
    simp only [DataW.weightsAll, List.mem_append]
    rcases List.mem_cons.1 h with rfl | h
    · exact .inl hn
    · exact .inr (weightsAll_mem h hn)
theorem Light.slice {t e : TypeId} {xs sp : List (DataW H)} (h : Light P t (.slice xs sp)) (ht : P.underlying t = some (.slice e)) : xs.length * P.bytesOf e ≤ reachBytes ∧ ∀ d ∈ xs, Light P e d := by
  unfold Light at h
  rw [DataW.weights, ht] at h
  constructor
  · have := h _ (List.mem_cons_self ..)
    rw [Nat.add_mul] at this
    omega
  · intro d hd n hn
    exact h n (List.mem_cons_of_mem _ (List.mem_append_left _ (weightsAll_mem hd hn)))
theorem Light.struct2 {t : TypeId} {f0 f1 : Field} {a b : DataW H} (h : Light P t (.agg [a, b])) (ht : P.underlying t = some (.struct #[f0, f1])) : Light P f0.type a ∧ Light P f1.type b := by
  unfold Light at h
  rw [DataW.weights, ht] at h
  simp [DataW.weightsEach] at h
  exact ⟨fun n hn => h n (.inl hn), fun n hn => h n (.inr hn)⟩
theorem Light.head {t : TypeId} {ts : List TypeId} {d : DataW H} {ds : List (DataW H)} (h : (DataW.weightsEach P (t :: ts) (d :: ds)).all (· ≤ reachBytes) = true) : Light P t d ∧ (DataW.weightsEach P ts ds).all (· ≤ reachBytes) = true := by
  simp only [DataW.weightsEach, List.all_append, Bool.and_eq_true] at h
  exact ⟨fun n hn => of_decide_eq_true (List.all_eq_true.1 h.1 n hn), h.2⟩
/-- A slice whose elements are read by a rule: as the reader reads it. -/
theorem row_trodS {α : Type} {t e : TypeId} {sz fuel : Nat} {cs0 : List Value} {d0 : DataW H × List MemPlace} (f : α → List Value) (p : α → Prop) (ht : P.underlying t = some (.slice e)) (hc : P.cellsOf e = sz) (hsz : 0 < sz) (hf : ∀ x, (f x).length = sz)
    (each : ∀ n cs y, DataW.trod enc P w 0 (fun _ => true) true n e cs = some y → Light P e y.1 → cs.length = sz → ∃ x, cs = f x ∧ p x)
    (hd : DataW.trod enc P w 0 (fun _ => true) true fuel t cs0 = some d0) (hw : Light P t d0.1) :
    ∃ (a : Option Addr) (m c : Nat) (A : List α), cs0 = [.slice a m c] ∧ (m ≤ c ∧ m ≤ maxLen ∧ m * P.bytesOf e ≤ reachBytes) ∧ A.length = m ∧ Src w a m sz (A.flatMap f) ∧ ∀ x ∈ A, p x := by
  rcases Go.Deep.open_slice ht hd with ⟨rfl, _⟩ | ⟨a', m, c, m', n, D, Pl, rfl, hb, hl, hm, hmm, rfl, hx⟩
  · exact ⟨none, 0, 0, [], rfl, ⟨Nat.le_refl _, Nat.zero_le _, by simp⟩, rfl, ⟨by simp, fun j u hj => by simp at hj⟩, fun x hx => by cases hx⟩
  · have hmle : m ≤ m' := by rw [hmm]; simp; exact hl
    have key : ∀ i, i < m → ∃ x : α, w.cells? 0 (a'.add (i * sz)) sz = some (f x) ∧ p x := by
      intro i hi
      obtain ⟨cs, h1, h2⟩ := hx i (by omega)
      rw [hc] at h1
      obtain ⟨_, hlen, _⟩ := World.cells?_some h1
      obtain ⟨x, rfl, hp⟩ := each _ _ _ h2 ((hw.slice ht).2 _ (List.mem_map.2 ⟨i, List.mem_range.2 hi, rfl⟩)) hlen
      exact ⟨x, h1, hp⟩
    have build : ∀ n, n ≤ m → ∃ A : List α, A.length = n ∧ (∀ i x, A[i]? = some x → w.cells? 0 (a'.add (i * sz)) sz = some (f x) ∧ p x) := by
      intro n
      induction n with
      | zero => intro _; exact ⟨[], rfl, fun i x h => by simp at h⟩
      | succ n ih =>
        intro hn
        obtain ⟨A, hA, hAx⟩ := ih (by omega)
        obtain ⟨x, h1, h2⟩ := key n (by omega)
        refine ⟨A ++ [x], by simp [hA], fun i y hy => ?_⟩
        by_cases hi : i < A.length
        · rw [List.getElem?_append_left hi] at hy; exact hAx i y hy
        · rw [List.getElem?_append_right (by omega)] at hy
          have : i = n := by
            have := (List.getElem?_eq_some_iff.1 hy).1
            simp at this; omega
          subst this
          rw [hA, Nat.sub_self] at hy
          simp at hy; subst hy
          exact ⟨h1, h2⟩
    obtain ⟨A, hA, hAx⟩ := build m (Nat.le_refl _)
    refine ⟨some a', m, c, A, rfl, ⟨hl, by omega, ?_⟩, hA, ?_, ?_⟩
    · have := (hw.slice ht).1
      rw [List.length_map, List.length_range] at this
      exact this
    · have hlenf : ∀ A : List α, (A.flatMap f).length = A.length * sz := by
        intro A
        induction A with
        | nil => simp
        | cons x A ih => rw [List.flatMap_cons, List.length_append, hf, ih, List.length_cons, Nat.succ_mul]; omega
      have hgetf : ∀ (A : List α) (i r : Nat) (x : α), A[i]? = some x → r < sz → (A.flatMap f)[i * sz + r]? = (f x)[r]? := by
        intro A
        induction A with
        | nil => intro i r x h; simp at h
        | cons y A ih =>
          intro i r x h hr
          rw [List.flatMap_cons]
          cases i with
          | zero =>
            simp at h; subst h
            rw [Nat.zero_mul, Nat.zero_add, List.getElem?_append_left (by rw [hf]; exact hr)]
          | succ i =>
            rw [Nat.succ_mul, List.getElem?_append_right (by rw [hf]; omega), hf]
            rw [show i * sz + sz + r - sz = i * sz + r by omega]
            exact ih i r x (by simpa using h) hr
      refine ⟨by rw [hlenf, hA], fun j u hj => ?_⟩
      have hjl : j < A.length * sz := by
        rw [← hlenf]
        rcases Nat.lt_or_ge j (A.flatMap f).length with h | h
        · exact h
        · rw [List.getElem?_eq_none h] at hj; cases hj
      have hi : j / sz < A.length := Nat.div_lt_of_lt_mul (by rw [Nat.mul_comm]; exact hjl)
      have hr : j % sz < sz := Nat.mod_lt _ hsz
      have he : j / sz * sz + j % sz = j := by rw [Nat.mul_comm]; exact Nat.div_add_mod _ _
      have ex := List.getElem?_eq_getElem hi
      have h1 := hgetf A _ _ _ ex hr
      rw [he, hj] at h1
      obtain ⟨_, _, hcell⟩ := World.cells?_some (hAx _ _ ex).1
      have h2 := hcell (j % sz) hr
      rw [Addr.add_add, he] at h2
      exact ⟨a', rfl, by rw [h2, h1]⟩
    · intro x hx
      obtain ⟨i, hi⟩ := List.getElem?_of_mem hx
      exact (hAx i x hi).2

theorem nums_trodS {t e : TypeId} {k : IntKind} {fuel : Nat} {cs0 : List Value} {d0 : DataW H × List MemPlace} (ht : P.underlying t = some (.slice e)) (he : P.underlying e = some (.int k)) (hc : P.cellsOf e = 1)
    (hd : DataW.trod enc P w 0 (fun _ => true) true fuel t cs0 = some d0) (hw : Light P t d0.1) :
    ∃ (a : Option Addr) (m c : Nat) (xs : List Int), cs0 = [.slice a m c] ∧ (m ≤ c ∧ m ≤ maxLen ∧ m * P.bytesOf e ≤ reachBytes) ∧ xs.length = m ∧ Src w a m 1 (xs.map (Value.int k)) ∧ ∀ x ∈ xs, (Lit.int k x).wf = true := by
  obtain ⟨a, m, c, A, h1, h2, h3, h4, h5⟩ := row_trodS (α := Int) (fun x => [Value.int k x]) (fun x => (Lit.int k x).wf = true) ht hc (by decide) (fun _ => rfl) (fun n cs y hy _ hl => by
    obtain ⟨m, rfl, _, hw⟩ := DataW.trod_int he hy
    exact ⟨m, rfl, hw⟩) hd hw
  refine ⟨a, m, c, A, h1, h2, h3, ?_, h5⟩
  rw [List.map_eq_flatMap]; exact h4
end
end Go.Vc
