/- The library's sort, at literals: by the shelf's contract. -/
import Derived.Test.YtcibiidebknkgaaGreatLitW
import Derived.Test.YtcibiidebknkgaaGreatSort
namespace Go.Proofs.YtcibiidebknkgaaGreat
open Go Go.Vc Go.Lit
open Go.Sort (SWO Holds putCells grow putRow mapBlock onCells heap_grow_old)
set_option linter.unusedVariables false
set_option linter.unusedSimpArgs false
set_option maxHeartbeats 4000000
set_option maxRecDepth 100000

/-- A literal. -/
structure Lt where
  val : Int
  ok : Lit.one val = true
instance : Inhabited Lt := ⟨⟨1, by decide⟩⟩
def ltV (x : Lt) : Value := lV x.val
def cfL (x y : Lt) : Int := cmpI (place x.val) (place y.val)

theorem ltL (x y : Lt) : ltOf cfL x y = decide (place x.val < place y.val) := by
  unfold ltOf cfL cmpI
  by_cases h1 : place x.val < place y.val
  · simp [h1]
  · by_cases h2 : place y.val < place x.val <;> simp [h1, h2]
theorem swoL : SWO (ltOf cfL) where
  irrefl x := by rw [ltL]; simp
  trans x y z h1 h2 := by rw [ltL] at *; simp at *; omega
  ntrans x y z h1 h2 := by rw [ltL] at *; simp at *; omega
theorem totL (x y : Lt) (h1 : ltOf cfL x y = false) (h2 : ltOf cfL y x = false) : x = y := by
  rw [ltL] at *
  simp at *
  have := place_inj x.ok y.ok (by omega)
  cases x; cases y; simp at this; subst this; rfl
theorem leL : (fun x y : Lt => !ltOf cfL y x) = fun x y => decide (place x.val ≤ place y.val) := by
  funext x y
  rw [ltL]
  by_cases h : place x.val ≤ place y.val
  · rw [decide_eq_true h, decide_eq_false (by omega)]; rfl
  · rw [decide_eq_false h, decide_eq_true (by omega)]; rfl

theorem exLt : ∀ {xs : List Int}, (∀ x ∈ xs, Lit.one x = true) → ∃ ls : List Lt, ls.map (·.val) = xs
  | [], _ => ⟨[], rfl⟩
  | x :: xs, h => by
    obtain ⟨ls, e⟩ := exLt (xs := xs) fun y hy => h y (List.mem_cons_of_mem _ hy)
    exact ⟨⟨x, h x (List.mem_cons_self ..)⟩ :: ls, by simp [e]⟩

theorem ownRow {w : World} {b n cap el : Nat} {vs : List Value} (h : Vc.Own w (some ⟨b, 0, none⟩) n cap el 1 vs) : ∃ rest, At w b el (vs ++ rest) ∧ vs.length = n ∧ (vs ++ rest).length = cap ∧ n ≤ cap ∧ cap ≤ maxLen := by
  obtain ⟨h1, h2, h3, h4⟩ := h
  rcases h4 with ⟨h, _⟩ | ⟨b', rest, h, hat, hl⟩
  · cases h
  · cases h
    exact ⟨rest, hat, by omega, by omega, h2, h3⟩

theorem sorted_at {w : World} {b el n : Nat} {d d' : Array Lt} {rest : List Value} {os : Array Obj} (hat : At w b el (d.toList.map ltV ++ rest)) (hs : d'.size = d.size) :
    At (grow (putRow ltV (Sort.ahead w n) b 0 d') os) b el (d'.toList.map ltV ++ rest) ∧ Fr (fun x => x = b) w (grow (putRow ltV (Sort.ahead w n) b 0 d') os) := by
  have hlt := hat.lt
  have h := hat.out
  have hh : ∀ x, x < w.heap.size → (grow (putRow ltV (Sort.ahead w n) b 0 d') os).heap[x]? = if b = x then some (.cells (putCells ltV 0 d' (d.toList.map ltV ++ rest).toArray) el (0, 0)) else w.heap[x]? := by
    intro x hx
    rw [heap_grow_old _ _ (by simpa [putRow, mapBlock, Sort.ahead] using hx)]
    show (w.heap.modify b (onCells (putCells ltV 0 d')))[x]? = _
    rw [Array.getElem?_modify]
    by_cases e : b = x
    · subst e
      rw [if_pos rfl, if_pos rfl, h]; rfl
    · rw [if_neg e, if_neg e]
  have hc : putCells ltV 0 d' (d.toList.map ltV ++ rest).toArray = (d'.toList.map ltV ++ rest).toArray := by
    apply Array.ext_getElem?
    intro i
    unfold putCells
    rw [Array.getElem?_mapIdx]
    simp only [List.getElem?_toArray]
    by_cases hi : i < d'.size
    · have e1 : (d.toList.map ltV ++ rest)[i]? = some (ltV d[i]) := by
        rw [List.getElem?_append_left (by simp; omega), List.getElem?_map, List.getElem?_eq_getElem (by simp; omega)]; simp
      have e2 : (d'.toList.map ltV ++ rest)[i]? = some (ltV d'[i]) := by
        rw [List.getElem?_append_left (by simp; omega), List.getElem?_map, List.getElem?_eq_getElem (by simp; omega)]; simp
      rw [e1, e2, Option.map_some, if_pos (by omega)]
      congr 2
      rw [Nat.sub_zero, getElem!_pos d' i hi]
    · have e1 : (d.toList.map ltV ++ rest)[i]? = rest[i - d.size]? := by rw [List.getElem?_append_right (by simp; omega)]; simp
      have e2 : (d'.toList.map ltV ++ rest)[i]? = rest[i - d'.size]? := by rw [List.getElem?_append_right (by simp; omega)]; simp
      rw [e1, e2, hs]
      cases rest[i - d.size]? with
      | none => rfl
      | some v => rw [Option.map_some, if_neg (by omega)]
  refine ⟨⟨by rw [hh b hlt, if_pos rfl, hc]⟩, rfl, rfl, by simp [putRow, mapBlock, Sort.ahead], fun x hx hn => by rw [hh x hx, if_neg (fun e => hn e.symm)], fun a ha => ?_⟩
  unfold World.frozen?
  rw [hh _ ha]
  by_cases e : b = a.block
  · rw [if_pos e, ← e, h]
  · rw [if_neg e]

section
variable {w0 w : World} {l : List Res}

theorem cmpLays {blk off size : Nat} (w : World) : CmpLays1 Tryz.prog 66 #[] ltV cfL blk off size w := by
  refine CmpReads.lays fun m os dk hd x y => ?_
  refine (fOrder (x := x.val) (y := y.val) _).2.mono ?_
  rintro e w' ⟨v, rfl, rfl, rfl⟩
  exact ⟨rfl, 0, rfl⟩

theorem fSort {a : Option Addr} {n cap : Nat} {xs : List Int} (H : Sep w0 w l) (hm : ownR a n cap 29 1 (xs.map lV) ∈ l) (ho : ∀ x ∈ xs, Lit.one x = true) (hn : n ≤ 35184372087808) :
    Does Tryz.prog 65 #[.slice a n cap, .func (.func 66) #[] #[]] w fun v w' => v = .tuple #[] ∧
      ∃ ys : List Int, ys.Perm xs ∧ ys.Pairwise (fun x y => place x ≤ place y) ∧ SepU w0 w' l (ownR a n cap 29 1 (xs.map lV)) (ownR a n cap 29 1 (ys.map lV)) := by
  refine ⟨Tryz.call65 _ _, ?_⟩
  have hO := H.ownM hm
  by_cases h0 : n = 0
  · subst h0
    have hx : xs = [] := by have := hO.1; simp at this; exact this
    subst hx
    refine (AnyF.slices_SortFunc_none (P := Tryz.prog) (ρ := Tryz.sortL_ren) { Tryz.sortL with } a cap _ w).mono ?_
    rintro e w' ⟨rfl, rfl⟩
    exact ⟨_, rfl, rfl, [], List.Perm.refl _, List.Pairwise.nil, H.same⟩
  · obtain ⟨b, rfl⟩ := hO.some (by omega)
    obtain ⟨rest, hat, hl, hcap, hle, hmax⟩ := ownRow hO
    obtain ⟨ls, rfl⟩ := exLt ho
    have hsz : ls.toArray.size = n := by simpa using hl
    have hmap : (ls.map (·.val)).map lV = ls.toArray.toList.map ltV := by simp [ltV]
    have hH : Holds ltV w b 0 ls.toArray := by
      intro j hj
      have hj' : j < ls.length := by simpa using hj
      refine ⟨?_, by simpa using hat.frozen (0 + j)⟩
      rw [hat.cell, Nat.zero_add, hmap, List.getElem?_append_left (by simpa using hj'), List.getElem?_map, List.getElem?_eq_getElem (by simpa using hj'), getElem!_pos _ j hj]
      rfl
    have hS := Any.slices_SortFunc_total Tryz.sortL ltV (fun _ => rfl) cfL swoL 66 #[] b 0 cap ls.toArray w (fun args w => Tryz.call66 args w) (cmpLays w) hH hat.lt (by rw [hsz]; omega) totL
    rw [leL, hsz] at hS
    refine hS.mono ?_
    rintro e w' ⟨rfl, q, os, rfl⟩
    have hperm : (ls.toArray.toList.mergeSort fun x y => decide (place x.val ≤ place y.val)).Perm ls := by
      have := List.mergeSort_perm ls.toArray.toList (fun x y => decide (place x.val ≤ place y.val))
      simpa using this
    have hpair := List.pairwise_mergeSort (le := fun x y : Lt => decide (place x.val ≤ place y.val)) (by intro a b c; simp; omega) (by intro a b; simp; omega) ls.toArray.toList
    generalize (ls.toArray.toList.mergeSort fun x y => decide (place x.val ≤ place y.val)) = ys at *
    have hys : ys.toArray.size = ls.toArray.size := by simpa using hperm.length_eq
    rw [hmap] at hat
    obtain ⟨hat2, hfr⟩ := sorted_at (n := q) (os := os) hat hys
    refine ⟨_, rfl, rfl, ys.map (·.val), hperm.map _, ?_, ?_⟩
    · rw [List.pairwise_map]
      exact hpair.imp fun h => by simpa using h
    · obtain ⟨S1, g1, g2, g3⟩ := H.at hm
      refine g3 _ _ S1 (hfr.mono fun x _ hx => g1.1 _ (by rw [hx]; rfl)) ⟨g1.1, ?_⟩ fun x hx => .inl hx
      have hmap2 : (ys.map (·.val)).map lV = ys.toArray.toList.map ltV := by simp [ltV]
      have hyl : ys.length = n := by have := hperm.length_eq; simp at hsz; omega
      rw [hmap2]
      refine ⟨by simp; omega, hle, hmax, .inr ⟨b, rest, rfl, hat2, ?_⟩⟩
      rw [hmap] at hcap
      simp only [List.length_append, List.length_map, List.toList_toArray, Nat.mul_one] at hcap ⊢
      have := hperm.length_eq
      omega
end
end Go.Proofs.YtcibiidebknkgaaGreat
