/- Arguments of the laws on trees, opened: what is read is an expression, no greater than what the reading counts. -/
import Derived.Test.YthpekiohalejmaaGreatDoorTreeX
import Derived.Test.YthpekiohalejmaaGreatDoorClose
import Derived.Test.YthpekiohalejmaaGreatDoorCards
set_option linter.unusedVariables false
set_option linter.unusedSimpArgs false
set_option maxRecDepth 100000
namespace Go.Proofs.YthpekiohalejmaaGreatDoor
open Go Go.Vc Go.Tree Go.ChangeShapes Go.WideShapes Go.ChangeAt Go.RowKit
section
variable {H : Type} {enc : TypeId × Value → H} {w : World}
theorem sum_all {α : Type} {g : α → Nat} : ∀ {A : List α} {E : List (DataW H)}, A.length = E.length → (∀ (i : Nat) x y, A[i]? = some x → E[i]? = some y → g x ≤ Rows.uptoBulk y) → (A.map g).sum ≤ Rows.uptoBulkAll E
  | [], [], _, _ => Nat.zero_le _
  | x :: A, y :: E, hl, h => by
    have h1 := h 0 x y rfl rfl
    have h2 := sum_all (A := A) (E := E) (by simpa using hl) fun i x y hx hy => h (i + 1) x y (by simpa using hx) (by simpa using hy)
    simp only [List.map_cons, List.sum_cons, Rows.uptoBulkAll]
    omega
theorem row_trodB {α : Type} {t e : TypeId} {sz fuel : Nat} {cs0 : List Value} {d0 : DataW H × List MemPlace} (f : α → List Value) (p : α → Prop) (g : α → Nat) (ht : Tryz.prog.underlying t = some (.slice e)) (hc : Tryz.prog.cellsOf e = sz) (hsz : 0 < sz) (hf : ∀ x, (f x).length = sz)
    (each : ∀ n cs y, n < fuel → DataW.trod enc Tryz.prog w 0 (fun _ => true) true n e cs = some y → cs.length = sz → ∃ x, cs = f x ∧ p x ∧ g x ≤ Rows.uptoBulk y.1)
    (hd : DataW.trod enc Tryz.prog w 0 (fun _ => true) true fuel t cs0 = some d0) :
    ∃ (a : Option Addr) (m c : Nat) (A : List α), cs0 = [.slice a m c] ∧ m ≤ c ∧ A.length = m ∧ Src w a m sz (A.flatMap f) ∧ (∀ x ∈ A, p x) ∧ (A.map g).sum + 1 ≤ Rows.uptoBulk d0.1 := by
  rcases DataW.trod_slice ht hd with ⟨rfl, rfl⟩ | ⟨a', m, c, E, R, n, hfuel, rfl, rfl, hb, hl, hm, hEl, hx, _, _⟩
  · exact ⟨none, 0, 0, [], rfl, Nat.le_refl _, rfl, ⟨by simp, fun j u hj => by simp at hj⟩, fun x hx => (by cases hx), by simp [Rows.uptoBulk]⟩
  · have key : ∀ i, i < m → ∃ x : α, w.cells? 0 (a'.add (i * sz)) sz = some (f x) ∧ p x ∧ ∀ y, E[i]? = some y → g x ≤ Rows.uptoBulk y.1 := by
      intro i hi
      have h := hx i hi
      have hEi : E[i]? = some (E[i]'(by omega)) := List.getElem?_eq_getElem _
      rw [hEi, Option.bind_eq_some_iff] at h
      obtain ⟨cs, h1, h2⟩ := h
      rw [hc] at h1
      obtain ⟨_, hlen, _⟩ := World.cells?_some h1
      obtain ⟨x, rfl, hp, hg⟩ := each n _ _ (by omega) h2 hlen
      exact ⟨x, h1, hp, fun y hy => by rw [hEi] at hy; cases hy; exact hg⟩
    have build : ∀ n, n ≤ m → ∃ A : List α, A.length = n ∧ (∀ i x, A[i]? = some x → w.cells? 0 (a'.add (i * sz)) sz = some (f x) ∧ p x ∧ ∀ y, E[i]? = some y → g x ≤ Rows.uptoBulk y.1) := by
      intro n
      induction n with
      | zero => intro _; exact ⟨[], rfl, fun i x h => by simp at h⟩
      | succ n ih =>
        intro hn
        obtain ⟨A, hA, hAx⟩ := ih (by omega)
        obtain ⟨x, h1⟩ := key n (by omega)
        refine ⟨A ++ [x], by simp [hA], fun i y hy => ?_⟩
        by_cases hi : i < A.length
        · rw [List.getElem?_append_left hi] at hy; exact hAx i y hy
        · rw [List.getElem?_append_right (by omega)] at hy
          have : i = n := by
            have := (List.getElem?_eq_some_iff.1 hy).1
            simp at this; omega
          subst this
          rw [hA, Nat.sub_self] at hy
          simp at hy; subst hy
          exact h1
    obtain ⟨A, hA, hAx⟩ := build m (Nat.le_refl _)
    refine ⟨some a', m, c, A, rfl, hl, hA, ?_, ?_, ?_⟩
    · refine ⟨by rw [rowLen hf, hA], fun j u hj => ?_⟩
      have hjl : j < A.length * sz := by
        rw [← rowLen hf]
        rcases Nat.lt_or_ge j (A.flatMap f).length with h | h
        · exact h
        · rw [List.getElem?_eq_none h] at hj; cases hj
      have hi : j / sz < A.length := Nat.div_lt_of_lt_mul (by rw [Nat.mul_comm]; exact hjl)
      have hr : j % sz < sz := Nat.mod_lt _ hsz
      have he : j / sz * sz + j % sz = j := by rw [Nat.mul_comm]; exact Nat.div_add_mod _ _
      have ex := List.getElem?_eq_getElem hi
      have h1 := rowGet hf ex hr
      rw [he, hj] at h1
      obtain ⟨_, _, hcell⟩ := World.cells?_some (hAx _ _ ex).1
      have h2 := hcell (j % sz) hr
      rw [Addr.add_add, he] at h2
      exact ⟨a', rfl, by rw [h2, h1]⟩
    · intro x hx
      obtain ⟨i, hi⟩ := List.getElem?_of_mem hx
      exact (hAx i x hi).2.1
    · have := sum_all (A := A) (E := E.map (·.1)) (g := g) (by rw [List.length_map]; omega) fun i x y hx hy => by
        rw [List.getElem?_map, Option.map_eq_some_iff] at hy
        obtain ⟨z, hz, rfl⟩ := hy
        exact (hAx i x hx).2.2 z hz
      show (A.map g).sum + 1 ≤ Rows.uptoBulkAll (E.map (·.1)) + Rows.uptoBulkAll (R.map (·.1)) + 1
      omega
theorem exprs_each : ∀ fuel cs (y : DataW H × List MemPlace), DataW.trod enc Tryz.prog w 0 (fun _ => true) true fuel 36 cs = some y → cs.length = 6 → ∃ x : Ex, cs = exV x ∧ TOk w x ∧ bulk x ≤ Rows.uptoBulk y.1 := by
  intro fuel
  induction fuel using Nat.strongRecOn with
  | ind fuel ih =>
    intro cs y h hl
    match cs, hl with
    | [c0, c1, c2, c3, c4, c5], _ =>
      obtain ⟨xs, n, rfl, rfl, _, hxl, hf⟩ := DataW.trod_struct Tryz.underlying36 h
      match xs, hxl with
      | [y0, y1, y2, y3, y4, y5], _ =>
        have h0 : DataW.trod enc Tryz.prog w 0 (fun _ => true) true n 3 [c0] = some y0 := hf 0 _ rfl
        have h1 : DataW.trod enc Tryz.prog w 0 (fun _ => true) true n 2 [c1] = some y1 := hf 1 _ rfl
        have h2 : DataW.trod enc Tryz.prog w 0 (fun _ => true) true n 9 [c2] = some y2 := hf 2 _ rfl
        have h3 : DataW.trod enc Tryz.prog w 0 (fun _ => true) true n 34 [c3] = some y3 := hf 3 _ rfl
        have h4 : DataW.trod enc Tryz.prog w 0 (fun _ => true) true n 3 [c4] = some y4 := hf 4 _ rfl
        have h5 : DataW.trod enc Tryz.prog w 0 (fun _ => true) true n 3 [c5] = some y5 := hf 5 _ rfl
        obtain ⟨o, e0, rfl, _⟩ := DataW.trod_int Tryz.underlying3 h0
        obtain ⟨m, e1, rfl, _⟩ := DataW.trod_int Tryz.underlying2 h1
        obtain ⟨s, e2, rfl, _⟩ := DataW.trod_string Tryz.underlying9 h2
        obtain ⟨li, e4, rfl, _⟩ := DataW.trod_int Tryz.underlying3 h4
        obtain ⟨co, e5, rfl, _⟩ := DataW.trod_int Tryz.underlying3 h5
        obtain ⟨a, k, c, A, e3, _, hA, hs, hp, hb⟩ := row_trodB (sz := 6) exV (TOk w) bulk Tryz.underlying34 (by decide +kernel) (by decide) exV_len (fun n' cs' y' hn' ht' hl' => ih n' (by omega) cs' y' ht' hl') h3
        simp only [List.cons.injEq, and_true] at e0 e1 e2 e3 e4 e5
        subst e0 e1 e2 e3 e4 e5 hA
        refine ⟨.mk o m s a c li co A, rfl, TOk_iff.2 ⟨hs, hp⟩, ?_⟩
        rw [bulk_eq]
        show 7 + s.size + (A.map bulk).sum ≤ Rows.uptoBulkAll [_, _, _, _, _, _] + 1
        simp only [Rows.uptoBulkAll, Rows.uptoBulk]
        have : s.data.toList.length = s.size := rfl
        omega
theorem open_expr {r : Reach} {b0 : Nat} {v : Value} {d : DataW H} {ps : List MemPlace} (hv : Value.okWide Tryz.prog w r b0 36 v) (hd : DataW.Trod enc Tryz.prog w 0 (fun _ => true) true 36 v d ps) :
    ∃ x : Ex, v = exA x ∧ TOk w x ∧ bulk x ≤ Rows.uptoBulk d := by
  simp only [Value.okWide, Tryz.underlying36] at hv
  obtain ⟨⟨cs⟩, rfl, hl, _⟩ := hv
  obtain ⟨fuel, hd⟩ := hd
  have hl2 : cs.length = 6 := hl.trans (by decide +kernel)
  obtain ⟨x, rfl, h1, h2⟩ := exprs_each fuel cs (d, ps) hd hl2
  exact ⟨x, rfl, h1, h2⟩
end
end Go.Proofs.YthpekiohalejmaaGreatDoor
