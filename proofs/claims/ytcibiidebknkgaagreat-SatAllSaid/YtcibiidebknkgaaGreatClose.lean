/- From a contract of a law's function to the given statement: what serves every law whose arguments stay as they were. -/
import Derived.Test.YtcibiidebknkgaaGreatRows
import Derived.Test.YtcibiidebknkgaaGreatMem
import Derived.Test.YtcibiidebknkgaaGreatSep
import Derived.WalkKit
import Derived.ProofKit
import Derived.OpenShut
import Derived.Lib.SmallJoins
import Derived.Deep.Slices
import Derived.Laws.IdiomArrays
set_option linter.unusedVariables false
namespace Go.Vc
open Go Go.ChangeShapes Go.WideShapes Go.ChangeAt Go.RowKit

section
variable {H : Type} {enc : TypeId × Value → H} {P : Program}

theorem sameAt_of {W W' : World} (h : ∀ b, b < W.heap.size → W'.heap[b]? = W.heap[b]?) {p : MemPlace} (hp : p.block < W.heap.size) : W.sameAt W' p := by
  have := h p.block hp
  unfold World.sameAt
  cases p <;> simp_all [MemPlace.block, World.cell?]

theorem args_stay (hl : laidOutB P = true) {W W' : World} (hf : ∀ b, b < W.heap.size → W'.heap[b]? = W.heap[b]?) {sp' : Nat → Bool} : ∀ {ts : List TypeId} {vs : List Value} {ds : List (DataW H)} {ps : List MemPlace},
    (∀ t ∈ ts, P.readableRec t = true ∧ t < P.types.size) → DataW.TrodAll enc P W 0 (fun _ => true) true ts vs ds ps → (∀ p ∈ ps, p.block < W.heap.size) → (∀ p ∈ ps, sp' p.block = true) → DataW.TrodAll enc P W' 0 sp' true ts vs ds ps
  | [], vs, ds, ps, _, h, _, _ => by
    cases vs <;> cases ds <;> first | exact h | exact h.elim
  | t :: ts, vs, ds, ps, hr, h, hlt, hs => by
    obtain ⟨v, vs', d, ds', p, q, rfl, rfl, rfl, h1, h2⟩ := trodAll_cons h
    refine ⟨p, q, ?_, ?_, rfl⟩
    · exact Go.WideElems.Trod_stays hl (hr t (by simp)).1 (hr t (by simp)).2 h1 (fun x hx => sameAt_of hf (hlt x (by simp [hx]))) (fun x hx => hs x (by simp [hx]))
    · exact args_stay hl hf (fun t ht => hr t (by simp [ht])) h2 (fun x hx => hlt x (by simp [hx])) (fun x hx => hs x (by simp [hx]))

/-- As the kit's 'post_of_same', where what is new may be frozen. -/
theorem post_of_old {f : Func} {s : ChangeSpec} {apart fresh handsOn again : Bool} {W W' : World} {args : Array Value} {v : Value} {ds gs : List (DataW H)} {before pa pv : List MemPlace}
    (hW : DataW.Whole enc P f.params.toList s.vars apart W args.toList ds gs before)
    (hres : ∀ (b : Nat) (sp : Nat → Bool) (hd : Bool), DataW.TrodAll enc P W' b sp hd f.resultTypes.toList (v.resultList f.resultTypes.size) (s.fn H (ds ++ gs)).results [])
    (hargs : ∀ sp : Nat → Bool, (∀ p ∈ before, sp p.block = true) → DataW.TrodAll enc P W' 0 sp true f.params.toList args.toList (s.fn H (ds ++ gs)).args pa)
    (hvars : ∀ sp : Nat → Bool, (∀ p ∈ before, sp p.block = true) → DataW.TrodVars enc P W' sp s.vars (s.fn H (ds ++ gs)).vars pv)
    (hps : before = pa ++ pv) (hk : W.keptBut W' (· ∈ before)) (hfz : ∀ a, a.block < W.heap.size → W'.frozen? a = W.frozen? a)
    (hok : ∀ (j : Nat) (t : TypeId) (r : Value), f.resultTypes[j]? = some t → (v.resultList f.resultTypes.size)[j]? = some r → Value.okWide P W' .any 0 t r) :
    s.post enc P f apart fresh handsOn again W args v W' := by
  have hlt : ∀ p ∈ before, p.block < W.heap.size := fun p hp => hW.lt p hp
  have hold : ∀ p ∈ before, (fun b => decide (b < W.heap.size)) p.block = true := fun p hp => by simpa using hW.lt p hp
  refine ⟨ds, gs, before, [], pa, pv, hW, hres _ _ _, hargs _ hold, hvars _ hold, World.keptBut_mono (fun p hp => ⟨hp, ?_⟩) hk, fun _ => ?_⟩
  · rw [hps, List.mem_append] at hp
    exact Or.inr hp
  · obtain ⟨_, _, _, _, _, hz, hn⟩ := hW
    refine ⟨hok, _, _, ([] ++ pa) ++ pv, ⟨[] ++ pa, pv, trodAll_append (hargs _ (fun _ _ => rfl)) (hres _ _ _), hvars _ (fun _ _ => rfl), rfl, ?_, ?_⟩, ?_⟩
    · intro b off hp
      have hb := hlt _ (by rw [hps]; simpa using hp)
      rw [hfz _ hb]
      exact hz b off (by rw [hps]; simpa using hp)
    · intro ha
      have := hn ha
      rw [hps] at this
      simpa using this
    · intro p hp _
      rw [hps]
      simpa using hp

theorem law_post (hl : laidOutB P = true) {f : Func} {s : ChangeSpec} {tb : TypeId} (hvars : s.vars = []) (hrt : f.resultTypes = #[tb]) (hb : P.underlying tb = some .bool)
    (hr : ∀ t ∈ f.params.toList, P.readableRec t = true ∧ t < P.types.size) {apart : Bool} {W W' : World} {args : Array Value} {ds gs : List (DataW H)} {before : List MemPlace}
    (hspec : (s.fn H (ds ++ gs)) = { results := [.lit (.bool true)], args := ds }) (hW : DataW.Whole enc P f.params.toList s.vars apart W args.toList ds gs before) (hf : Fr (fun _ => False) W W') :
    s.post enc P f apart true false false W args (.bool true) W' := by
  have hlt : ∀ p ∈ before, p.block < W.heap.size := fun p hp => hW.lt p hp
  have hW2 := hW
  obtain ⟨p, q, hA, hV, rfl, hfz, hnd⟩ := hW
  have hq : q = [] := by rw [hvars] at hV; exact (trodVars_none hV).2
  have hg : gs = [] := by rw [hvars] at hV; exact (trodVars_none hV).1
  subst hq hg
  have hold : ∀ b, b < W.heap.size → W'.heap[b]? = W.heap[b]? := fun b hb => hf.old b hb (fun h => h)
  refine post_of_old (pa := p) (pv := []) hW2 ?_ ?_ ?_ rfl (hf.kept _) hf.frz (ok_one hrt rfl (okWide_bool_mk hb _))
  · intro b sp hd
    rw [hspec, hrt]
    exact trodAll_cons_mk (shut_bool hb _) trodAll_mk0
  · intro sp hsp
    rw [hspec]
    exact args_stay hl hold hr hA (fun x hx => hlt x (by simp [hx])) (fun x hx => hsp x (by simp [hx]))
  · intro sp hsp
    rw [hspec, hvars]
    exact rfl
end

theorem Does.toFr {P : Program} {f : FuncId} {args : Array Value} {W : World} (h : Does P f args W fun v w' => v = .bool true ∧ Sep W w' []) : Does P f args W fun v w' => v = .bool true ∧ Fr (fun _ => False) W w' :=
  h.mono fun _ _ h => ⟨h.1, h.2.base⟩

/-! Arguments that are slices -/
theorem flat_len {C : Nat → List Value} {sz : Nat} (hC : ∀ i, (C i).length = sz) : ∀ n, ((List.range n).flatMap C).length = n * sz
  | 0 => by simp
  | n + 1 => by rw [List.range_succ, List.flatMap_append, List.length_append, flat_len hC n, List.flatMap_singleton, hC, Nat.succ_mul]

theorem flat_get {C : Nat → List Value} {sz : Nat} (hC : ∀ i, (C i).length = sz) : ∀ {n i r : Nat}, i < n → r < sz → ((List.range n).flatMap C)[i * sz + r]? = (C i)[r]?
  | 0, _, _, h, _ => by omega
  | n + 1, i, r, h, hr => by
    rw [List.range_succ, List.flatMap_append, List.flatMap_singleton]
    have hl := flat_len hC n
    by_cases hi : i < n
    · have : (i + 1) * sz ≤ n * sz := Nat.mul_le_mul_right _ hi
      rw [Nat.succ_mul] at this
      rw [List.getElem?_append_left (by omega), flat_get hC hi hr]
    · obtain rfl : i = n := by omega
      rw [List.getElem?_append_right (by omega), hl]
      congr 1; omega

section
variable {H : Type} {enc : TypeId × Value → H} {P : Program} {w : World}
/-- A slice whose elements are read by a rule: as the reader reads it. -/
theorem row_trod {α : Type} {t e : TypeId} {sz fuel : Nat} {cs0 : List Value} {d0 : DataW H × List MemPlace} (f : α → List Value) (p : α → Prop) (ht : P.underlying t = some (.slice e)) (hc : P.cellsOf e = sz) (hsz : 0 < sz) (hf : ∀ x, (f x).length = sz)
    (each : ∀ n cs y, DataW.trod enc P w 0 (fun _ => true) true n e cs = some y → cs.length = sz → ∃ x, cs = f x ∧ p x)
    (hd : DataW.trod enc P w 0 (fun _ => true) true fuel t cs0 = some d0) :
    ∃ (a : Option Addr) (m c : Nat) (A : List α), cs0 = [.slice a m c] ∧ m ≤ maxLen ∧ A.length = m ∧ Src w a m sz (A.flatMap f) ∧ ∀ x ∈ A, p x := by
  rcases Go.Deep.open_slice ht hd with ⟨rfl, _⟩ | ⟨a', m, c, m', n, D, Pl, rfl, hb, hl, hm, hmm, _, hx⟩
  · exact ⟨none, 0, 0, [], rfl, Nat.zero_le _, rfl, ⟨by simp, fun j u hj => by simp at hj⟩, fun x hx => by cases hx⟩
  · have hmle : m ≤ m' := by rw [hmm]; simp; exact hl
    have key : ∀ i, i < m → ∃ x : α, w.cells? 0 (a'.add (i * sz)) sz = some (f x) ∧ p x := by
      intro i hi
      obtain ⟨cs, h1, h2⟩ := hx i (by omega)
      rw [hc] at h1
      obtain ⟨_, hlen, _⟩ := World.cells?_some h1
      obtain ⟨x, rfl, hp⟩ := each _ _ _ h2 hlen
      exact ⟨x, h1, hp⟩
    have build : ∀ n, n ≤ m → ∃ A : List α, A.length = n ∧ (∀ i x, A[i]? = some x → w.cells? 0 (a'.add (i * sz)) sz = some (f x) ∧ p x) := by
      intro n
      induction n with
      | zero => intro _; exact ⟨[], rfl, fun i x h => by simp at h⟩
      | succ n ih =>
        intro hn
        obtain ⟨A, hA, hAx⟩ := ih (by omega)
        obtain ⟨x, h1, h2⟩ := key n (by omega)
        refine ⟨A ++ [x], by simp [hA], fun i y hy => ?_⟩
        by_cases hi : i < A.length
        · rw [List.getElem?_append_left hi] at hy; exact hAx i y hy
        · rw [List.getElem?_append_right (by omega)] at hy
          have : i = n := by
            have := (List.getElem?_eq_some_iff.1 hy).1
            simp at this; omega
          subst this
          rw [hA, Nat.sub_self] at hy
          simp at hy; subst hy
          exact ⟨h1, h2⟩
    obtain ⟨A, hA, hAx⟩ := build m (Nat.le_refl _)
    refine ⟨some a', m, c, A, rfl, by omega, hA, ?_, ?_⟩
    · have hlenf : ∀ A : List α, (A.flatMap f).length = A.length * sz := by
        intro A
        induction A with
        | nil => simp
        | cons x A ih => rw [List.flatMap_cons, List.length_append, hf, ih, List.length_cons, Nat.succ_mul]; omega
      have hgetf : ∀ (A : List α) (i r : Nat) (x : α), A[i]? = some x → r < sz → (A.flatMap f)[i * sz + r]? = (f x)[r]? := by
        intro A
        induction A with
        | nil => intro i r x h; simp at h
        | cons y A ih =>
          intro i r x h hr
          rw [List.flatMap_cons]
          cases i with
          | zero =>
            simp at h; subst h
            rw [Nat.zero_mul, Nat.zero_add, List.getElem?_append_left (by rw [hf]; exact hr)]
          | succ i =>
            rw [Nat.succ_mul, List.getElem?_append_right (by rw [hf]; omega), hf]
            rw [show i * sz + sz + r - sz = i * sz + r by omega]
            exact ih i r x (by simpa using h) hr
      refine ⟨by rw [hlenf, hA], fun j u hj => ?_⟩
      have hjl : j < A.length * sz := by
        rw [← hlenf]
        rcases Nat.lt_or_ge j (A.flatMap f).length with h | h
        · exact h
        · rw [List.getElem?_eq_none h] at hj; cases hj
      have hi : j / sz < A.length := Nat.div_lt_of_lt_mul (by rw [Nat.mul_comm]; exact hjl)
      have hr : j % sz < sz := Nat.mod_lt _ hsz
      have he : j / sz * sz + j % sz = j := by rw [Nat.mul_comm]; exact Nat.div_add_mod _ _
      have ex := List.getElem?_eq_getElem hi
      have h1 := hgetf A _ _ _ ex hr
      rw [he, hj] at h1
      obtain ⟨_, _, hcell⟩ := World.cells?_some (hAx _ _ ex).1
      have h2 := hcell (j % sz) hr
      rw [Addr.add_add, he] at h2
      exact ⟨a', rfl, by rw [h2, h1]⟩
    · intro x hx
      obtain ⟨i, hi⟩ := List.getElem?_of_mem hx
      exact (hAx i x hi).2

/-- A slice whose elements are read by a rule. -/
theorem open_rowOf {α : Type} {t e : TypeId} {sz : Nat} {r : Reach} {b0 : Nat} {v : Value} {d : DataW H} {ps : List MemPlace} (f : α → List Value) (p : α → Prop) (ht : P.underlying t = some (.slice e)) (hc : P.cellsOf e = sz) (hsz : 0 < sz) (hf : ∀ x, (f x).length = sz)
    (each : ∀ n cs y, DataW.trod enc P w 0 (fun _ => true) true n e cs = some y → cs.length = sz → ∃ x, cs = f x ∧ p x)
    (hv : Value.okWide P w r b0 t v) (hd : DataW.Trod enc P w 0 (fun _ => true) true t v d ps) :
    ∃ (a : Option Addr) (m c : Nat) (A : List α), v = .slice a m c ∧ m ≤ maxLen ∧ A.length = m ∧ Src w a m sz (A.flatMap f) ∧ ∀ x ∈ A, p x := by
  obtain ⟨a, m, c, rfl⟩ := okWide_slice ht hv
  obtain ⟨fuel, hd⟩ := hd
  obtain ⟨a2, m2, c2, A, h0, h1, h2, h3, h4⟩ := row_trod f p ht hc hsz hf each hd
  simp [Value.cells] at h0
  obtain ⟨rfl, rfl, rfl⟩ := h0
  exact ⟨_, _, _, A, rfl, h1, h2, h3, h4⟩

/-- A slice of numbers, as the reader reads it. -/
theorem nums_trod {t e : TypeId} {k : IntKind} {fuel : Nat} {cs0 : List Value} {d0 : DataW H × List MemPlace} (ht : P.underlying t = some (.slice e)) (he : P.underlying e = some (.int k)) (hc : P.cellsOf e = 1)
    (hd : DataW.trod enc P w 0 (fun _ => true) true fuel t cs0 = some d0) :
    ∃ (a : Option Addr) (m c : Nat) (xs : List Int), cs0 = [.slice a m c] ∧ m ≤ maxLen ∧ xs.length = m ∧ Src w a m 1 (xs.map (Value.int k)) ∧ ∀ x ∈ xs, (Lit.int k x).wf = true := by
  obtain ⟨a, m, c, A, h1, h2, h3, h4, h5⟩ := row_trod (α := Int) (fun x => [Value.int k x]) (fun x => (Lit.int k x).wf = true) ht hc (by decide) (fun _ => rfl) (fun n cs y hy hl => by
    obtain ⟨m, rfl, _, hw⟩ := DataW.trod_int he hy
    exact ⟨m, rfl, hw⟩) hd
  refine ⟨a, m, c, A, h1, h2, h3, ?_, h5⟩
  rw [List.map_eq_flatMap]; exact h4

theorem trod_array2 {t e : TypeId} {fuel : Nat} {c0 c1 : Value} {x : DataW H × List MemPlace} (ht : P.underlying t = some (.array 2 e)) (hce : P.cellsOf e = 1)
    (h : DataW.trod enc P w 0 (fun _ => true) true fuel t [c0, c1] = some x) :
    ∃ y0 y1 n, DataW.trod enc P w 0 (fun _ => true) true n e [c0] = some y0 ∧ DataW.trod enc P w 0 (fun _ => true) true n e [c1] = some y1 := by
  cases fuel with
  | zero => simp [DataW.trod] at h
  | succ n =>
    unfold DataW.trod at h
    rw [ht] at h
    have r2 : List.range 2 = [0, 1] := rfl
    simp [r2, hce] at h
    obtain ⟨_, h⟩ := h
    cases h0 : DataW.trod enc P w 0 (fun _ => true) true n e [c0] with
    | none => simp [h0] at h
    | some y0 =>
      cases h1 : DataW.trod enc P w 0 (fun _ => true) true n e [c1] with
      | none => simp [h0, h1] at h
      | some y1 => exact ⟨y0, y1, n, h0, h1⟩

/-- Two numbers. -/
theorem open_pair {t e : TypeId} {k : IntKind} {r : Reach} {b0 : Nat} {v : Value} {d : DataW H} {ps : List MemPlace} (ht : P.underlying t = some (.array 2 e)) (he : P.underlying e = some (.int k)) (hce : P.cellsOf e = 1) (hct : P.cellsOf t = 2)
    (hv : Value.okWide P w r b0 t v) (hd : DataW.Trod enc P w 0 (fun _ => true) true t v d ps) :
    ∃ x y : Int, v = .agg #[.int k x, .int k y] ∧ (Lit.int k x).wf = true ∧ (Lit.int k y).wf = true := by
  simp only [Value.okWide, ht] at hv
  obtain ⟨cs, rfl, hl, _⟩ := hv
  obtain ⟨fuel, hd⟩ := hd
  obtain ⟨l⟩ := cs
  rw [hct] at hl
  match l, hl with
  | [c0, c1], _ =>
    obtain ⟨y0, y1, n, h0, h1⟩ := trod_array2 ht hce (show DataW.trod enc P w 0 (fun _ => true) true fuel t [c0, c1] = some (d, ps) from hd)
    obtain ⟨x, e0, _, w0⟩ := DataW.trod_int he h0
    obtain ⟨y, e1, _, w1⟩ := DataW.trod_int he h1
    simp only [List.cons.injEq, and_true] at e0 e1
    subst e0 e1
    exact ⟨x, y, rfl, w0, w1⟩

/-- A slice of numbers. -/
theorem open_nums {t e : TypeId} {k : IntKind} {r : Reach} {b0 : Nat} {v : Value} {d : DataW H} {ps : List MemPlace} (ht : P.underlying t = some (.slice e)) (he : P.underlying e = some (.int k)) (hc : P.cellsOf e = 1)
    (hv : Value.okWide P w r b0 t v) (hd : DataW.Trod enc P w 0 (fun _ => true) true t v d ps) :
    ∃ (a : Option Addr) (m c : Nat) (xs : List Int), v = .slice a m c ∧ m ≤ maxLen ∧ xs.length = m ∧ Src w a m 1 (xs.map (Value.int k)) ∧ ∀ x ∈ xs, (Lit.int k x).wf = true := by
  obtain ⟨a, m, c, A, h1, h2, h3, h4, h5⟩ := open_rowOf (α := Int) (fun x => [Value.int k x]) (fun x => (Lit.int k x).wf = true) ht hc (by decide) (fun _ => rfl) (fun n cs y hy hl => by
    obtain ⟨m, rfl, _, hw⟩ := DataW.trod_int he hy
    exact ⟨m, rfl, hw⟩) hv hd
  refine ⟨a, m, c, A, h1, h2, h3, ?_, h5⟩
  rw [List.map_eq_flatMap]; exact h4
end

theorem laid : laidOutB Go.Proofs.Tryz.prog = true := by kernel_rfl
theorem own_ : ownKnob Go.Proofs.Tryz.prog.godebug = none := by kernel_rfl

end Go.Vc
