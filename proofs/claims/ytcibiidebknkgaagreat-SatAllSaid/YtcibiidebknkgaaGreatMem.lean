/- Laws of memory for the residuals: slices that a call owns, slices that are read, structs in rows. -/
import Derived.Test.YtcibiidebknkgaaGreatTab
import Derived.KernelRfl
import Derived.Laws.MakeOwn
set_option linter.unusedVariables false
set_option linter.unusedSimpArgs false
namespace Go.Vc
open Go

theorem vint {k : IntKind} {a b : Int} (h : a = b) : Value.int k a = Value.int k b := by rw [h]
theorem vbool {a b : Bool} (h : a = b) : Value.bool a = Value.bool b := by rw [h]

/-! What the tables say, as the kit's laws ask it. -/
theorem typeInfo_info {P : Program} {t : TypeId} {i : TypeInfo} {w : World} (h : (typeInfo t).run P w = .ok i w) : P.info? t = some i := by
  unfold typeInfo at h
  simp only [Sem.run_bind, run_program, Result.andThen_ok] at h
  cases hi : P.info? t with
  | none => rw [hi] at h; cases h
  | some j => rw [hi] at h; cases h; rfl

theorem TabOk.info {P : Program} {T : Tab} (hT : TabOk P T) {t B : Nat} (hb : T.b t = some B) : ∃ i, P.info? t = some i ∧ i.bytes = B := by
  obtain ⟨i, hi, hB⟩ := hT.b _ (find_mem hb) default
  exact ⟨i, typeInfo_info hi, hB⟩

theorem info_size {P : Program} {T : Tab} (hT : TabOk P T) {t s : Nat} {i : TypeInfo} (hi : P.info? t = some i) (hs : T.s t = some s) : i.size = s := by
  have := hT.siz hs default
  unfold sizeOf typeInfo at this
  simp only [Sem.run_bind, run_program, Result.andThen_ok, hi] at this
  cases this; rfl

theorem info_zero {P : Program} {T : Tab} (hT : TabOk P T) {t : Nat} {z : Value} {i : TypeInfo} (hi : P.info? t = some i) (hz : T.z t = some z) : i.zero = some z := by
  have := hT.zer hz default
  unfold zeroValue typeInfo at this
  simp only [Sem.run_bind, run_program, Result.andThen_ok, hi, Sem.run_pure] at this
  cases hz : i.zero with
  | none => rw [hz] at this; cases this
  | some z' => rw [hz] at this; cases this; rfl

/-! A slice whose whole array the holder owns. -/
def Own (w : World) (a : Option Addr) (n cap el sz : Nat) (xs : List Value) : Prop :=
  xs.length = n * sz ∧ n ≤ cap ∧ cap ≤ maxLen ∧
    ((a = none ∧ cap = 0) ∨ ∃ b rest, a = some ⟨b, 0, none⟩ ∧ At w b el (xs ++ rest) ∧ (xs ++ rest).length = cap * sz)

/-- Its block. -/
def Blk (a : Option Addr) (b : Nat) : Prop := a = some ⟨b, 0, none⟩

/-- What is read, element by element. -/
def Src (w : World) (a : Option Addr) (m sz : Nat) (ys : List Value) : Prop :=
  ys.length = m * sz ∧ ∀ j u, ys[j]? = some u → ∃ p, a = some p ∧ w.cell? (p.add j) = some u

theorem add_mk (b o j : Nat) : (⟨b, o, none⟩ : Addr).add j = ⟨b, o + j, none⟩ := by
  unfold Addr.add
  by_cases h : j = 0
  · subst h; simp
  · simp [h]

theorem Own.nil (w : World) (el sz : Nat) : Own w none 0 0 el sz [] := ⟨by simp, Nat.le_refl _, Nat.zero_le _, .inl ⟨rfl, rfl⟩⟩

theorem Own.ofAt {w : World} {b el sz n : Nat} {xs : List Value} (h : At w b el xs) (hl : xs.length = n * sz) (hn : n ≤ maxLen) : Own w (some ⟨b, 0, none⟩) n n el sz xs :=
  ⟨hl, Nat.le_refl _, hn, .inr ⟨b, [], rfl, by simpa using h, by simpa using hl⟩⟩

theorem Own.fr {S : Nat → Prop} {w w' : World} {a : Option Addr} {n cap el sz : Nat} {xs : List Value} (h : Own w a n cap el sz xs) (hf : Fr S w w') (hS : ∀ b, Blk a b → ¬ S b) : Own w' a n cap el sz xs := by
  obtain ⟨h1, h2, h3, h4⟩ := h
  refine ⟨h1, h2, h3, h4.imp id ?_⟩
  rintro ⟨b, rest, rfl, hat, hl⟩
  exact ⟨b, rest, rfl, hat.fr hf (hS b rfl), hl⟩

theorem Own.lt {w : World} {a : Option Addr} {n cap el sz : Nat} {xs : List Value} (h : Own w a n cap el sz xs) {b : Nat} (hb : Blk a b) : b < w.heap.size := by
  rcases h.2.2.2 with ⟨rfl, _⟩ | ⟨b', rest, rfl, hat, _⟩
  · cases hb
  · cases hb; exact hat.lt

theorem Own.src {w : World} {a : Option Addr} {n cap el sz : Nat} {xs : List Value} (h : Own w a n cap el sz xs) : Src w a n sz xs := by
  refine ⟨h.1, fun j u hj => ?_⟩
  rcases h.2.2.2 with ⟨rfl, hc⟩ | ⟨b, rest, rfl, hat, _⟩
  · have h1 := h.1; have h2 := h.2.1
    have : n = 0 := by omega
    rw [this, Nat.zero_mul] at h1
    rw [List.length_eq_zero_iff.1 h1] at hj; cases hj
  · have hlt : j < xs.length := by
      rcases Nat.lt_or_ge j xs.length with h' | h'
      · exact h'
      · rw [List.getElem?_eq_none h'] at hj; cases hj
    exact ⟨_, rfl, by rw [add_mk, Nat.zero_add, hat.cell, List.getElem?_append_left hlt]; exact hj⟩

theorem Src.fr {S : Nat → Prop} {w w' : World} {a : Option Addr} {m sz : Nat} {ys : List Value} (h : Src w a m sz ys) (hf : Fr S w w') (hS : ∀ p, a = some p → ¬ S p.block) : Src w' a m sz ys := by
  refine ⟨h.1, fun j u hj => ?_⟩
  obtain ⟨p, rfl, hc⟩ := h.2 j u hj
  refine ⟨p, rfl, ?_⟩
  have hb : (p.add j).block = p.block := by unfold Addr.add; split <;> rfl
  have hlt : p.block < w.heap.size := by
    rcases Nat.lt_or_ge p.block w.heap.size with h' | h'
    · exact h'
    · unfold World.cell? at hc; rw [hb, Array.getElem?_eq_none h'] at hc; cases hc
  unfold World.cell? at hc ⊢
  rw [hb] at hc ⊢
  rw [hf.old _ hlt (hS p rfl)]; exact hc

theorem Src.cell {w : World} {p : Addr} {m sz : Nat} {ys : List Value} (h : Src w (some p) m sz ys) {j : Nat} {u : Value} (hj : ys[j]? = some u) : w.cell? (p.add j) = some u := by
  obtain ⟨p', he, hc⟩ := h.2 j u hj
  cases he; exact hc

theorem Fr.drew (w : World) : Fr (fun _ => False) w w.drew := ⟨rfl, rfl, Nat.le_refl _, fun _ _ _ => rfl, fun _ _ => rfl⟩

theorem heap_setRow (w : World) (g : Nat) (cs : Array Value) (b : Nat) : (w.setRow g cs).heap[b]? = if g = b then (w.heap[b]?).map (fun
      | .cells _ elem frozen => .cells cs elem frozen
      | o => o) else w.heap[b]? := by
  simp only [World.setRow, Array.getElem?_modify]
  rfl

theorem Fr.setRow {w : World} {b el : Nat} {cs : List Value} (h : At w b el cs) (ds : List Value) : Fr (fun x => x = b) w (w.setRow b ds.toArray) ∧ At (w.setRow b ds.toArray) b el ds := by
  have h := h.out
  refine ⟨⟨rfl, rfl, by simp [World.setRow], fun x _ hn => by rw [heap_setRow, if_neg (fun h => hn h.symm)], fun a _ => ?_⟩, ?_⟩
  · unfold World.frozen?
    rw [heap_setRow]
    by_cases hb : b = a.block
    · rw [if_pos hb, ← hb, h]; rfl
    · rw [if_neg hb]
  · refine ⟨?_⟩
    rw [heap_setRow, if_pos rfl, h]; rfl

theorem append_own {P : Program} {T : Tab} (hT : TabOk P T) {t el sz B ty : Nat} {z : Value} (hd : T.d t = some (.slice el)) (hs : T.s el = some sz) (hb : T.b el = some B) (hz : T.z el = some z)
    (hzs : z.cells.size = sz) (h0 : 0 < sz) {w : World} {a : Option Addr} {n cap : Nat} {xs : List Value} (hown : Own w a n cap el sz xs) {src : Option Addr} {m mc : Nat} {ys : List Value}
    (hsrc : Src w src m sz ys) (h1 : ∀ u ∈ ys, oneCell u = true) (hbound : (n + m) * B ≤ 140737488355328) (hmax : n + m ≤ maxLen) {cb : Array Bool} {K : Value → World → Prop}
    (hk : ∀ a' cap' w', Own w' a' (n + m) cap' el sz (xs ++ ys) → Fr (Blk a) w w' → (a' = a ∨ ∃ b, a' = some ⟨b, 0, none⟩ ∧ w.heap.size ≤ b) → K (.slice a' (n + m) cap') w') :
    DoN P (builtin .append #[t, t] ty cb #[.slice a n cap, .slice src m mc]) w K := by
  obtain ⟨i, hi, hib⟩ := hT.info hb
  have his := info_size hT hi hs
  have hiz := info_zero hT hi hz
  have ht := hT.d _ (find_mem hd)
  simp only at ht
  have hmax' : n + m ≤ 9223372036854775807 := by unfold maxLen at hmax; omega
  have key : (∃ v w', (Builtin.append_ #[t, t] ty #[.slice a n cap, .slice src m mc]).run P w = .ok v w' ∧ K v w') → DoN P (builtin .append #[t, t] ty cb #[.slice a n cap, .slice src m mc]) w K := by
    rintro ⟨v, w', hr, hK⟩
    refine ⟨.inl ⟨v, w', ?_, hK⟩⟩
    simp only [builtin, Sem.run_bind, hr, Result.andThen_ok, Sem.run_pure]
  apply key
  obtain ⟨hxl, hnc, hcm, hcase⟩ := hown
  have hlen : (xs ++ ys).length = (n + m) * sz := by rw [List.length_append, hxl, hsrc.1, Nat.add_mul]
  have h1' : ∀ u ∈ ys, u.oneCell' = true := fun u hu => by rw [← oneCell_eq]; exact h1 u hu
  -- nothing to add
  by_cases hm : m = 0
  · subst hm
    have hy : ys = [] := List.length_eq_zero_iff.1 (by have := hsrc.1; simpa using this)
    subst hy
    refine ⟨.slice a n cap, w, ?_, ?_⟩
    · have hfc : (Builtin.firstCells i.size 0 (.slice src 0 mc)).run P w = .ok #[] w := by cases src <;> simp [Builtin.firstCells, loadCells, loadCellsFrom]
      have hst : ∀ p, (storeCells p ([] : List Value)).run P w = .ok () w := fun p => by simp [storeCells]
      cases a with
      | none => simp [Builtin.append_, run_underlying ht, sizeOf, typeInfo, hi, Builtin.lenOf, hnc, hfc]
      | some p => simp [Builtin.append_, run_underlying ht, sizeOf, typeInfo, hi, Builtin.lenOf, hnc, hfc, storeCells]
    · have := hk a cap w (by simpa using ⟨hxl, hnc, hcm, hcase⟩) (Fr.refl _ _) (.inl rfl)
      simpa using this
  · have hex : ∃ p, src = some p := by
      have h2 := hsrc.1
      have : 0 < ys.length := by rw [h2]; exact Nat.mul_pos (by omega) h0
      obtain ⟨p, hp, _⟩ := hsrc.2 0 _ (List.getElem?_eq_getElem this)
      exact ⟨p, hp⟩
    obtain ⟨p, rfl⟩ := hex
    have hnews : ∀ j u, ys[j]? = some u → w.cell? (p.add j) = some u := fun j u hj => hsrc.cell hj
    have hyl : ys.length = m * i.size := by rw [his]; exact hsrc.1
    have grown : ∀ (old : Nat) (rest : List Value), old < n + m → rest.length = (grownCap w (n + m) old el - (n + m)) * sz →
        Own (w.drew.alloc (.cells ((xs ++ ys) ++ rest).toArray el)) (some ⟨w.heap.size, 0, none⟩) (n + m) (grownCap w (n + m) old el) el sz (xs ++ ys) ∧
        Fr (Blk a) w (w.drew.alloc (.cells ((xs ++ ys) ++ rest).toArray el)) := by
      intro old rest ho hrest
      have hge := grownCap_ge w (n + m) old el
      refine ⟨⟨hlen, hge, grownCap_le_maxLen w (n + m) old el hmax, .inr ⟨w.heap.size, rest, rfl, ?_, ?_⟩⟩, ?_⟩
      · exact ⟨by rw [heap_alloc]; exact if_pos rfl⟩
      · rw [List.length_append, hlen, hrest, ← Nat.add_mul]; congr 1; omega
      · have f1 := Fr.drew w
        have f2 := Fr.alloc w.drew (o := .cells ((xs ++ ys) ++ rest).toArray el) (by intro c t f h; cases h; rfl)
        exact (f1.trans f2).mono (fun _ _ h => h.elim)
    have hzl : ∀ k, (Builtin.zeroCells z.cells k).toList.length = k * sz := fun k => by
      rw [Array.length_toList, size_zeroCells, hzs]
    rcases hcase with ⟨rfl, rfl⟩ | ⟨b, rest, rfl, hat, hrl⟩
    · have hn : n = 0 := by omega
      subst hn
      have hx : xs = [] := List.length_eq_zero_iff.1 (by simpa using hxl)
      subst hx
      have hr := run_append_nil (P := P) w t ty el i z ht hi hiz p m mc ys hyl hnews (by omega) (by omega) (by rw [hib]; have hb := hbound; simp only [Nat.zero_add] at hb; omega)
      have hg := grown 0 (Builtin.zeroCells z.cells (grownCap w m 0 el - m)).toList (by omega) (by rw [hzl]; simp)
      have e : (([] ++ ys) ++ (Builtin.zeroCells z.cells (grownCap w m 0 el - m)).toList).toArray = ys.toArray ++ Builtin.zeroCells z.cells (grownCap w m 0 el - m) := by
        apply Array.toList_inj.1; simp
      rw [e] at hg
      simp only [Nat.zero_add] at hg hk ⊢
      exact ⟨_, _, hr, hk _ _ _ hg.1 hg.2 (.inr ⟨_, rfl, Nat.le_refl _⟩)⟩
    · by_cases hroom : n + m ≤ cap
      · have hat' : w.heap[b]? = some (.cells (xs ++ rest).toArray el (0, 0)) := hat.out
        have hfit : n * i.size + ys.length ≤ (xs ++ rest).toArray.size := by
          rw [his, hsrc.1, List.size_toArray, hrl, ← Nat.add_mul]; exact Nat.mul_le_mul_right _ hroom
        have hr := run_append_room (P := P) w t ty el i ht hi b n cap (xs ++ rest).toArray hat' p m mc ys hyl hnews h1' hroom hfit
        have e : (xs ++ rest).take (n * i.size) ++ ys ++ (xs ++ rest).drop (n * i.size + ys.length) = (xs ++ ys) ++ rest.drop ys.length := by
          rw [his, ← hxl, List.take_left, List.drop_append, List.drop_eq_nil_of_le (by omega), List.nil_append]
          congr 2; omega
        simp only [] at hr
        rw [e] at hr
        obtain ⟨f1, f2⟩ := Fr.setRow hat ((xs ++ ys) ++ rest.drop ys.length)
        refine ⟨_, _, hr, hk _ _ _ ⟨hlen, hroom, hcm, .inr ⟨b, _, rfl, f2, ?_⟩⟩ (f1.mono (fun x _ hx => by rw [hx]; rfl)) (.inl rfl)⟩
        rw [List.length_append, hlen, List.length_drop]
        have : rest.length = cap * sz - n * sz := by rw [List.length_append, hxl] at hrl; omega
        have h3 : (n + m) * sz ≤ cap * sz := Nat.mul_le_mul_right _ hroom
        rw [this, hsrc.1]
        rw [Nat.add_mul] at h3 ⊢
        omega
      · have holds : ∀ j u, xs[j]? = some u → w.cell? ((⟨b, 0, none⟩ : Addr).add j) = some u := by
          intro j u hj
          have hlt : j < xs.length := by
            rcases Nat.lt_or_ge j xs.length with h' | h'
            · exact h'
            · rw [List.getElem?_eq_none h'] at hj; cases hj
          rw [add_mk, Nat.zero_add, hat.cell, List.getElem?_append_left hlt]; exact hj
        have hr := run_append_grow (P := P) w t ty el i z ht hi hiz ⟨b, 0, none⟩ n cap xs (by rw [his]; exact hxl) holds p m mc ys hyl hnews (by omega) (by omega) (growslice_fits (by omega) (by rw [hib]; exact hbound))
        have hg := grown cap (Builtin.zeroCells z.cells (grownCap w (n + m) cap el - (n + m))).toList (by omega) (hzl _)
        have e : ((xs ++ ys) ++ (Builtin.zeroCells z.cells (grownCap w (n + m) cap el - (n + m))).toList).toArray = xs.toArray ++ ys.toArray ++ Builtin.zeroCells z.cells (grownCap w (n + m) cap el - (n + m)) := by
          apply Array.toList_inj.1; simp
        rw [e] at hg
        exact ⟨_, _, hr, hk _ _ _ hg.1 hg.2 (.inr ⟨_, rfl, Nat.le_refl _⟩)⟩


theorem Own.some {w : World} {a : Option Addr} {n cap el sz : Nat} {xs : List Value} (h : Own w a n cap el sz xs) (hn : 0 < n) : ∃ b, a = some ⟨b, 0, none⟩ := by
  rcases h.2.2.2 with ⟨rfl, hc⟩ | ⟨b, rest, rfl, _, _⟩
  · have := h.2.1; omega
  · exact ⟨b, rfl⟩

theorem Ld_own {w : World} {b n cap el sz j : Nat} {xs : List Value} {v : Value} {K : Value → Prop} (h : Own w (some ⟨b, 0, none⟩) n cap el sz xs) (hv : xs[j]? = some v) (hk : K v) : Ld w ⟨b, 0 + j, none⟩ K :=
  ⟨v, by have := h.src.cell hv; rw [add_mk] at this; exact this, hk⟩

theorem Ld_src {w : World} {b o n sz j : Nat} {xs : List Value} {v : Value} {K : Value → Prop} (h : Src w (some ⟨b, o, none⟩) n sz xs) (hv : xs[j]? = some v) (hk : K v) : Ld w ⟨b, o + j, none⟩ K :=
  ⟨v, by have := h.cell hv; rw [add_mk] at this; exact this, hk⟩

/-! Equality of what is no number. -/
theorem Do_ne_of {P : Program} {t : TypeId} {xo yo : Operand} {x y : Value} {b : Bool} {w : World} {K : Value → World → Prop} (hg : eqGuard .neq t xo yo x y = pure ())
    (hb : binOp .neq t x y = (do pure (.bool (!(← Op.equal t x y))))) (he : (Op.equal t x y).run P w = .ok b w) (hk : K (.bool !b) w) : Do P (do eqGuard .neq t xo yo x y; binOp .neq t x y) w K :=
  ⟨.bool !b, w, by rw [hg, hb]; simp [he], hk⟩

theorem Do_eq_of {P : Program} {t : TypeId} {xo yo : Operand} {x y : Value} {b : Bool} {w : World} {K : Value → World → Prop} (hg : eqGuard .eql t xo yo x y = pure ())
    (hb : binOp .eql t x y = (do pure (.bool (← Op.equal t x y)))) (he : (Op.equal t x y).run P w = .ok b w) (hk : K (.bool b) w) : Do P (do eqGuard .eql t xo yo x y; binOp .eql t x y) w K :=
  ⟨.bool b, w, by rw [hg, hb]; simp [he], hk⟩

theorem eqIn_ptr_nil {P : Program} {T : Tab} (hT : TabOk P T) {t el : TypeId} {a : Addr} {w : World} (hd : T.d t = some (.pointer el)) (d : Nat) :
    (Op.equalIn (d + 1) t (.pointer (some a)) (.pointer none)).run P w = .ok false w := by
  simp [Op.equalIn, hT.und hd]
theorem eqIn_nil_nil {P : Program} {T : Tab} (hT : TabOk P T) {t el : TypeId} {w : World} (hd : T.d t = some (.pointer el)) (d : Nat) :
    (Op.equalIn (d + 1) t (.pointer none) (.pointer none)).run P w = .ok true w := by
  simp [Op.equalIn, hT.und hd]
theorem eqIn_bool {P : Program} {T : Tab} (hT : TabOk P T) {t : TypeId} {a b : Bool} {w : World} (hd : T.d t = some .bool) (d : Nat) :
    (Op.equalIn (d + 1) t (.bool a) (.bool b)).run P w = .ok (a == b) w := by
  simp [Op.equalIn, hT.und hd]

theorem Do_ptr_ne_nil {P : Program} {T : Tab} (hT : TabOk P T) {t el : TypeId} {xo yo : Operand} {a : Addr} {w : World} {K : Value → World → Prop} (hd : T.d t = some (.pointer el)) (hk : K (.bool true) w) :
    Do P (do eqGuard .neq t xo yo (.pointer (some a)) (.pointer none); binOp .neq t (.pointer (some a)) (.pointer none)) w K :=
  Do_ne_of (by simp [eqGuard]) rfl (eqIn_ptr_nil hT hd 9999) hk
theorem Do_ptr_eq_nil {P : Program} {T : Tab} (hT : TabOk P T) {t el : TypeId} {xo yo : Operand} {a : Addr} {w : World} {K : Value → World → Prop} (hd : T.d t = some (.pointer el)) (hk : K (.bool false) w) :
    Do P (do eqGuard .eql t xo yo (.pointer (some a)) (.pointer none); binOp .eql t (.pointer (some a)) (.pointer none)) w K :=
  Do_eq_of (by simp [eqGuard]) rfl (eqIn_ptr_nil hT hd 9999) hk
theorem Do_nil_eq_nil {P : Program} {T : Tab} (hT : TabOk P T) {t el : TypeId} {xo yo : Operand} {w : World} {K : Value → World → Prop} (hd : T.d t = some (.pointer el)) (hk : K (.bool true) w) :
    Do P (do eqGuard .eql t xo yo (.pointer none) (.pointer none); binOp .eql t (.pointer none) (.pointer none)) w K :=
  Do_eq_of (by simp [eqGuard]) rfl (eqIn_nil_nil hT hd 9999) hk
theorem Do_bool_ne {P : Program} {T : Tab} (hT : TabOk P T) {t : TypeId} {xo yo : Operand} {a b : Bool} {w : World} {K : Value → World → Prop} (hd : T.d t = some .bool) (hk : K (.bool !(a == b)) w) :
    Do P (do eqGuard .neq t xo yo (.bool a) (.bool b); binOp .neq t (.bool a) (.bool b)) w K :=
  Do_ne_of (by simp [eqGuard]) rfl (eqIn_bool hT hd 9999) hk
theorem Do_bool_eq {P : Program} {T : Tab} (hT : TabOk P T) {t : TypeId} {xo yo : Operand} {a b : Bool} {w : World} {K : Value → World → Prop} (hd : T.d t = some .bool) (hk : K (.bool (a == b)) w) :
    Do P (do eqGuard .eql t xo yo (.bool a) (.bool b); binOp .eql t (.bool a) (.bool b)) w K :=
  Do_eq_of (by simp [eqGuard]) rfl (eqIn_bool hT hd 9999) hk

theorem callFunc_ext {P : Program} {f : FuncId} {fn : Func} {e : Array Value → Sem Value} {args : Array Value} {v : Value} {w w' : World} (hf : P.funcs[f]? = some fn) (h1 : (fn.name == "runtime.NumGoroutine") = false)
    (h2 : fn.body.isNone = true) (h3 : Extern.findNext fn = none) (h4 : Extern.find fn = some e) (h5 : (e args).run P w = .ok v w') : (callFunc f args).run P w = .ok (.value v) w' := by
  unfold callFunc
  simp only [Sem.run_bind, run_program, Result.andThen_ok, hf, h1, h2, h3, h4, Bool.false_eq_true, if_false, if_true, run_mark, h5, Sem.run_pure]

/-- A struct that is loaded. -/
theorem LdN_at {w : World} {b o n : Nat} {t : TypeId} {cs vs : List Value} {K : List Value → Prop} (h : At w b t cs) (hv : (cs.drop o).take n = vs) (hl : vs.length = n) (hk : K vs) : LdN w ⟨b, o, none⟩ n K := by
  refine ⟨vs, hl, fun i hi => ?_, hk⟩
  rw [add_mk, h.cell, ← hv, List.getElem?_take, if_pos hi, List.getElem?_drop]

theorem LdN_all {w : World} {b n : Nat} {t : TypeId} {cs : List Value} {K : List Value → Prop} (h : At w b t cs) (hl : cs.length = n) (hk : K cs) : LdN w ⟨b, 0, none⟩ n K :=
  LdN_at h (by rw [List.drop_zero, ← hl, List.take_length]) hl hk

theorem LdN_own {w : World} {b n cap el sz j m : Nat} {xs vs : List Value} {K : List Value → Prop} (h : Own w (some ⟨b, 0, none⟩) n cap el sz xs) (hv : (xs.drop j).take m = vs) (hl : vs.length = m) (hk : K vs) : LdN w ⟨b, 0 + j, none⟩ m K := by
  refine ⟨vs, hl, fun i hi => ?_, hk⟩
  have hx : xs[j + i]? = vs[i]? := by rw [← hv, List.getElem?_take, if_pos hi, List.getElem?_drop]
  rw [← hx]
  have hi' : i < vs.length := by omega
  have hs : xs[j + i]? = some vs[i] := by rw [hx]; exact List.getElem?_eq_getElem hi'
  have := h.src.cell hs
  rw [add_mk] at this ⊢
  rw [show 0 + j + i = 0 + (j + i) by omega, this, hs]

theorem setCells_at {b : Nat} {t : TypeId} : ∀ {vs cs : List Value} {o : Nat} {k : Nat} {w : World}, At w b t cs → o + k + vs.length ≤ cs.length →
    At (setCells w ⟨b, o, none⟩ vs k) b t (cs.take (o + k) ++ vs ++ cs.drop (o + k + vs.length)) ∧ Fr (fun x => x = b) w (setCells w ⟨b, o, none⟩ vs k) ∧ (setCells w ⟨b, o, none⟩ vs k).heap.size = w.heap.size
  | [], cs, o, k, w, h, hl => by
    refine ⟨?_, Fr.refl _ _, rfl⟩
    simpa [setCells] using h
  | v :: vs, cs, o, k, w, h, hl => by
    have h1 := h.set (i := o + k) v
    rw [List.length_cons] at hl
    have hk := setCells_at (vs := vs) (o := o) (k := k + 1) h1 (by rw [List.length_set]; omega)
    have hf := Fr.setCell w ⟨b, o + k, none⟩ v
    obtain ⟨a1, a2, a3⟩ := hk
    refine ⟨?_, ?_, ?_⟩
    · unfold setCells
      rw [add_mk]
      have e : (cs.set (o + k) v).take (o + (k + 1)) ++ vs ++ (cs.set (o + k) v).drop (o + (k + 1) + vs.length) = cs.take (o + k) ++ v :: vs ++ cs.drop (o + k + (v :: vs).length) := by
        rw [List.length_cons, List.set_eq_take_append_cons_drop, if_pos (by omega)]
        have hlt : (cs.take (o + k)).length = o + k := by rw [List.length_take]; omega
        rw [show o + (k + 1) = (cs.take (o + k)).length + 1 by omega, List.take_length_add_append]
        rw [show (cs.take (o + k)).length + 1 + vs.length = (cs.take (o + k)).length + (1 + vs.length) by omega, List.drop_length_add_append]
        rw [show 1 + vs.length = vs.length + 1 by omega, List.drop_succ_cons, List.drop_drop]
        rw [show o + k + 1 + vs.length = o + k + (vs.length + 1) by omega]
        simp
      rw [← e]; exact a1
    · unfold setCells
      rw [add_mk]
      exact hf.trans a2
    · unfold setCells
      rw [add_mk, a3]; simp [World.setCell]

/-- A struct that is stored. -/
theorem StN_at {w : World} {b o : Nat} {t : TypeId} {cs cs' vs : List Value} {K : World → Prop} (h : At w b t cs) (hv : ∀ v ∈ vs, oneCell v = true) (hi : o + vs.length ≤ cs.length) (hc : cs.take o ++ vs ++ cs.drop (o + vs.length) = cs')
    (hk : ∀ w', At w' b t cs' → Fr (fun x => x = b) w w' → w'.heap.size = w.heap.size → K w') : StN w ⟨b, o, none⟩ vs K := by
  obtain ⟨a1, a2, a3⟩ := setCells_at (vs := vs) (k := 0) h (by omega)
  refine ⟨hv, fun i hi' => ⟨⟨cs[o + i]'(by omega), by rw [add_mk, h.cell]; exact List.getElem?_eq_getElem _⟩, by rw [add_mk]; exact h.frozen _⟩, hk _ ?_ a2 a3⟩
  rw [Nat.add_zero, hc] at a1
  exact a1

/-- A struct that is stored into a row that the holder owns. -/
theorem StN_own {w : World} {b n cap el sz o : Nat} {xs xs' vs : List Value} {K : World → Prop} (h : Own w (some ⟨b, 0, none⟩) n cap el sz xs) (hv : ∀ v ∈ vs, oneCell v = true) (hi : o + vs.length ≤ xs.length)
    (hc : xs.take o ++ vs ++ xs.drop (o + vs.length) = xs') (hk : ∀ w', Own w' (some ⟨b, 0, none⟩) n cap el sz xs' → Fr (fun x => x = b) w w' → w'.heap.size = w.heap.size → K w') : StN w ⟨b, 0 + o, none⟩ vs K := by
  obtain ⟨h1, h2, h3, h4⟩ := h
  rcases h4 with ⟨h, _⟩ | ⟨b', rest, he, hat, hl⟩
  · cases h
  · cases he
    have hxl : xs'.length = xs.length := by rw [← hc]; simp; omega
    refine StN_at (cs' := xs' ++ rest) (o := 0 + o) hat hv (by rw [List.length_append]; omega) ?_ (fun w' h5 h6 h7 => hk w' ⟨by rw [hxl]; exact h1, h2, h3, .inr ⟨b, rest, rfl, h5, by rw [List.length_append, hxl, ← List.length_append]; exact hl⟩⟩ h6 h7)
    rw [Nat.zero_add, List.take_append_of_le_length (by omega), List.drop_append_of_le_length (by omega), ← hc]
    simp only [List.append_assoc]

theorem St_own {w : World} {b n cap el sz j : Nat} {xs xs' : List Value} {v : Value} {K : World → Prop} (h : Own w (some ⟨b, 0, none⟩) n cap el sz xs) (hv : oneCell v = true) (hi : j < xs.length)
    (hc : xs.set j v = xs') (hk : ∀ w', Own w' (some ⟨b, 0, none⟩) n cap el sz xs' → Fr (fun x => x = b) w w' → w'.heap.size = w.heap.size → K w') : St w ⟨b, 0 + j, none⟩ v K := by
  obtain ⟨h1, h2, h3, h4⟩ := h
  rcases h4 with ⟨h, _⟩ | ⟨b', rest, he, hat, hl⟩
  · cases h
  · cases he
    have hxl : xs'.length = xs.length := by rw [← hc]; simp
    refine St_at (cs' := xs' ++ rest) (i := 0 + j) hat hv (by rw [List.length_append]; omega) ?_ (fun w' h5 h6 h7 => hk w' ⟨by rw [hxl]; exact h1, h2, h3, .inr ⟨b, rest, rfl, h5, by rw [List.length_append, hxl, ← List.length_append]; exact hl⟩⟩ h6 h7)
    rw [Nat.zero_add, List.set_append_left _ _ hi, hc]

/-- The part of a row that is owned from its beginning. -/
theorem Own.cut {w : World} {a : Option Addr} {n cap el sz k : Nat} {xs : List Value} (h : Own w a n cap el sz xs) (hk : k ≤ n) : Own w a k cap el sz (xs.take (k * sz)) := by
  obtain ⟨h1, h2, h3, h4⟩ := h
  have hle : k * sz ≤ n * sz := Nat.mul_le_mul_right _ hk
  refine ⟨by rw [List.length_take, h1]; omega, by omega, h3, h4.imp id ?_⟩
  rintro ⟨b, rest, rfl, hat, hl⟩
  refine ⟨b, xs.drop (k * sz) ++ rest, rfl, ?_, ?_⟩
  · rw [← List.append_assoc, List.take_append_drop]; exact hat
  · rw [← List.append_assoc, List.take_append_drop]; exact hl

/-- A field of a struct that is a value. -/
theorem Do_field {P : Program} {T : Tab} (hT : TabOk P T) {t : TypeId} {f : Nat} {fs : Array Field} {fd : Field} {d : TypeDesc} {cs : Array Value} {v : Value} {w : World} {K : Value → World → Prop}
    (hd : T.d t = some (.struct fs)) (hf : fs.toList[f]? = some fd) (hx : T.d fd.type = some d) (ha : aggD d = false) (hc : cs.toList[fd.offset]? = some v) (hk : K v w) : Do P (Instr.field t (.agg cs) f) w K := by
  refine ⟨v, w, ?_, hk⟩
  rw [Array.getElem?_toList] at hf hc
  simp [Instr.field, hT.und hd, hf, asAgg, part, isAgg_run hT hx, ha, hc]

theorem Do_fieldN {P : Program} {T : Tab} (hT : TabOk P T) {t : TypeId} {f : Nat} {fs : Array Field} {fd : Field} {d : TypeDesc} {n : Nat} {cs vs : Array Value} {w : World} {K : Value → World → Prop}
    (hd : T.d t = some (.struct fs)) (hf : fs.toList[f]? = some fd) (hx : T.d fd.type = some d) (ha : aggD d = true) (hn : T.s fd.type = some n) (hc : cs.extract fd.offset (fd.offset + n) = vs) (hk : K (.agg vs) w) : Do P (Instr.field t (.agg cs) f) w K := by
  refine ⟨_, w, ?_, hk⟩
  rw [Array.getElem?_toList] at hf
  simp [Instr.field, hT.und hd, hf, asAgg, part, isAgg_run hT hx, ha, hT.siz hn, hc]

theorem Fr.none {S : Nat → Prop} {w w' : World} (h : Fr (fun _ => False) w w') : Fr S w w' := h.mono fun _ _ h => h.elim

/-! A part of a slice. -/
theorem sliceAt_run {P : Program} {T : Tab} (hT : TabOk P T) {t el : TypeId} {s : Nat} (hd : T.d t = some (.slice el)) (hs : T.s el = some s) {a : Option Addr} {n cap l h : Nat} {lo hi : Option Value}
    (hlo : (lo = none ∧ l = 0) ∨ ∃ k, lo = some (.int k (l : Int))) (hhi : (hi = none ∧ h = n) ∨ ∃ k, hi = some (.int k (h : Int))) (h1 : l ≤ h) (h2 : h ≤ cap) (w : World) :
    (Instr.sliceAt t (.slice a n cap) lo hi none).run P w = .ok (.slice (if cap = l then a else a.map (·.add (l * s))) (h - l) (cap - l)) w := by
  rcases hlo with ⟨rfl, rfl⟩ | ⟨k, rfl⟩ <;> rcases hhi with ⟨rfl, rfl⟩ | ⟨k', rfl⟩ <;>
    simp [Instr.sliceAt, Instr.slice, Instr.sliceBounds, Instr.sliceBound, hT.und hd, hT.siz hs, asIntOf, h1, h2]

theorem Do_slice {P : Program} {T : Tab} (hT : TabOk P T) {t el : TypeId} {s : Nat} (hd : T.d t = some (.slice el)) (hs : T.s el = some s) {a : Option Addr} {n cap : Nat} (l h : Nat) {lo hi : Option Value} {w : World} {K : Value → World → Prop}
    (hlo : (lo = none ∧ l = 0) ∨ ∃ k, lo = some (.int k (l : Int))) (hhi : (hi = none ∧ h = n) ∨ ∃ k, hi = some (.int k (h : Int))) (h1 : l ≤ h) (h2 : h ≤ cap)
    (hk : K (.slice (if cap = l then a else a.map (·.add (l * s))) (h - l) (cap - l)) w) : Do P (Instr.sliceAt t (.slice a n cap) lo hi none) w K :=
  ⟨_, w, sliceAt_run hT hd hs hlo hhi h1 h2 w, hk⟩

theorem DoS_slice {P : Program} {T : Tab} (hT : TabOk P T) {t el : TypeId} {s : Nat} (hd : T.d t = some (.slice el)) (hs : T.s el = some s) {a : Option Addr} {n cap : Nat} (l h : Nat) {lo hi : Option Value} {w : World} {K : Value → Option (World → Prop) → Prop}
    (hlo : (lo = none ∧ l = 0) ∨ ∃ k, lo = some (.int k (l : Int))) (hhi : (hi = none ∧ h = n) ∨ ∃ k, hi = some (.int k (h : Int))) (h1 : l ≤ h) (h2 : h ≤ cap)
    (hk : ∀ J : World → Prop, (∀ w, J w) → K (.slice (if cap = l then a else a.map (·.add (l * s))) (h - l) (cap - l)) (some J)) : DoS P (Instr.sliceAt t (.slice a n cap) lo hi none) w K :=
  ⟨_, sliceAt_run hT hd hs hlo hhi h1 h2 w, hk _ fun w => sliceAt_run hT hd hs hlo hhi h1 h2 w⟩

/-- What is read of a part is read of the whole. -/
theorem Src.drop {w : World} {a : Option Addr} {n cap sz l : Nat} {xs : List Value} (h : Src w a n sz xs) (hl : l ≤ n) (hc : n ≤ cap) : Src w (if cap = l then a else a.map (·.add (l * sz))) (n - l) sz (xs.drop (l * sz)) := by
  have hm : (n - l) * sz = n * sz - l * sz := Nat.sub_mul _ _ _
  have hle : l * sz ≤ n * sz := Nat.mul_le_mul_right _ hl
  refine ⟨by rw [List.length_drop, h.1, hm], fun j u hj => ?_⟩
  rw [List.getElem?_drop] at hj
  obtain ⟨p, rfl, hp⟩ := h.2 _ _ hj
  have hlt : l * sz + j < xs.length := by
    rcases Nat.lt_or_ge (l * sz + j) xs.length with h' | h'
    · exact h'
    · rw [List.getElem?_eq_none h'] at hj; cases hj
  have hnl : l < n := by
    rcases Nat.lt_or_ge l n with h' | h'
    · exact h'
    · have : n * sz ≤ l * sz := Nat.mul_le_mul_right _ h'
      rw [h.1] at hlt; omega
  rw [if_neg (by omega)]
  exact ⟨p.add (l * sz), rfl, by rw [Addr.add_add]; exact hp⟩

theorem Src.take {w : World} {a : Option Addr} {n sz k : Nat} {xs : List Value} (h : Src w a n sz xs) (hk : k ≤ n) : Src w a k sz (xs.take (k * sz)) := by
  have hle : k * sz ≤ n * sz := Nat.mul_le_mul_right _ hk
  refine ⟨by rw [List.length_take, h.1]; omega, fun j u hj => h.2 j u ?_⟩
  rw [List.getElem?_take] at hj
  split at hj
  · exact hj
  · cases hj

theorem eqIn_slice_nil {P : Program} {T : Tab} (hT : TabOk P T) {t el : TypeId} {a : Option Addr} {n c : Nat} {w : World} (hd : T.d t = some (.slice el)) (d : Nat) :
    (Op.equalIn (d + 1) t (.slice a n c) (.slice none 0 0)).run P w = .ok a.isNone w := by
  cases a <;> simp [Op.equalIn, hT.und hd]

theorem Do_slice_eq_nil {P : Program} {T : Tab} (hT : TabOk P T) {t el : TypeId} {xo yo : Operand} {a : Option Addr} {n c : Nat} {w : World} {K : Value → World → Prop} (hd : T.d t = some (.slice el)) (hk : K (.bool a.isNone) w) :
    Do P (do eqGuard .eql t xo yo (.slice a n c) (.slice none 0 0); binOp .eql t (.slice a n c) (.slice none 0 0)) w K :=
  Do_eq_of (by simp [eqGuard]) rfl (eqIn_slice_nil hT hd 9999) hk
theorem Do_slice_ne_nil {P : Program} {T : Tab} (hT : TabOk P T) {t el : TypeId} {xo yo : Operand} {a : Option Addr} {n c : Nat} {w : World} {K : Value → World → Prop} (hd : T.d t = some (.slice el)) (hk : K (.bool !a.isNone) w) :
    Do P (do eqGuard .neq t xo yo (.slice a n c) (.slice none 0 0); binOp .neq t (.slice a n c) (.slice none 0 0)) w K :=
  Do_ne_of (by simp [eqGuard]) rfl (eqIn_slice_nil hT hd 9999) hk

/-! A slice that is made. -/
def zcells (zs : List Value) : Nat → List Value
  | 0 => []
  | n + 1 => zcells zs n ++ zs

theorem zcells_len (zs : List Value) : ∀ n, (zcells zs n).length = n * zs.length
  | 0 => by simp [zcells]
  | n + 1 => by rw [zcells, List.length_append, zcells_len zs n, Nat.succ_mul]

theorem zcells_get (zs : List Value) : ∀ {n i j : Nat}, i < n → j < zs.length → (zcells zs n)[i * zs.length + j]? = zs[j]?
  | 0, _, _, h, _ => by omega
  | n + 1, i, j, h, hj => by
    rw [zcells]
    have hl := zcells_len zs n
    by_cases hi : i < n
    · have : (i + 1) * zs.length ≤ n * zs.length := Nat.mul_le_mul_right _ hi
      rw [Nat.succ_mul] at this
      rw [List.getElem?_append_left (by omega), zcells_get zs hi hj]
    · obtain rfl : i = n := by omega
      rw [List.getElem?_append_right (by omega), hl]
      congr 1; omega

theorem zcells_add (zs : List Value) (m : Nat) : ∀ n, zcells zs (m + n) = zcells zs m ++ zcells zs n
  | 0 => by simp [zcells]
  | n + 1 => by rw [← Nat.add_assoc, zcells, zcells_add zs m n, zcells, List.append_assoc]

theorem zcells_one (z : Value) : ∀ n, zcells [z] n = List.replicate n z
  | 0 => rfl
  | n + 1 => by rw [zcells, zcells_one z n, List.replicate_succ']

theorem madeCells_eq (z : Array Value) (hz : 0 < z.size) (n : Nat) : (madeCells z (n * z.size)).toList = zcells z.toList n := by
  apply List.ext_getElem?
  intro k
  have hlen := zcells_len z.toList n
  have hzl : z.toList.length = z.size := Array.length_toList
  rw [hzl] at hlen
  by_cases hk : k < n * z.size
  · have hi : k / z.size < n := Nat.div_lt_of_lt_mul (by rw [Nat.mul_comm]; exact hk)
    have hj : k % z.size < z.size := Nat.mod_lt _ hz
    have he : k / z.size * z.toList.length + k % z.size = k := by rw [Array.length_toList, Nat.mul_comm]; exact Nat.div_add_mod _ _
    have h1 := zcells_get z.toList (n := n) (i := k / z.size) (j := k % z.size) hi (by rw [Array.length_toList]; exact hj)
    rw [he] at h1
    rw [h1, Array.getElem?_toList, Array.getElem?_toList]
    simp only [madeCells, Array.getElem?_map, Array.getElem?_range, hk, if_true, Option.map_some]
    rw [Array.getElem?_eq_getElem hj, getElem!_pos z _ hj]
  · rw [List.getElem?_eq_none (by rw [Array.length_toList, size_madeCells]; omega), List.getElem?_eq_none (by omega)]

theorem Do_make {P : Program} {T : Tab} (hT : TabOk P T) {t el sz B : Nat} {z : Value} (hd : T.d t = some (.slice el)) (hs : T.s el = some sz) (hb : T.b el = some B) (hz : T.z el = some z)
    (hzs : z.cells.size = sz) (h0 : 0 < sz) {kl kc : IntKind} {x y : Int} {w : World} (l c : Nat) (hx : x = l) (hy : y = c) (hlc : l ≤ c) (hB : B * c ≤ 281474976710656) (hm : c ≤ maxLen) {K : Value → World → Prop}
    (hk : ∀ b w', b = w.heap.size → Own w' (some ⟨b, 0, none⟩) l c el sz (zcells z.cells.toList l) → Fr (fun _ => False) w w' → w'.heap.size = w.heap.size + 1 → K (.slice (some ⟨b, 0, none⟩) l c) w') :
    Do P (Instr.makeSlice t (.int kl x) (.int kc y)) w K := by
  subst hx hy
  obtain ⟨i, hi, hib⟩ := hT.info hb
  have his := info_size hT hi hs
  have hiz := info_zero hT hi hz
  have ht := hT.d _ (find_mem hd)
  simp only at ht
  have hm' : (c : Int) ≤ 9223372036854775807 := by unfold maxLen at hm; omega
  have hr := run_make (P := P) w t el i z ht hi hiz kl kc (l : Int) (c : Int) (by omega) (by omega) (by have h := Int.ofNat_le.2 hB; rw [Int.natCast_mul] at h; rw [hib]; exact h) hm'
  simp only [Int.toNat_natCast] at hr
  have hzz : z.cells.toList.length = sz := by rw [Array.length_toList]; exact hzs
  refine ⟨_, _, hr, hk _ _ rfl ⟨by rw [zcells_len, hzz], hlc, hm, .inr ⟨_, zcells z.cells.toList (c - l), rfl, ⟨?_⟩, ?_⟩⟩ (Fr.alloc w (by intro c t f h; cases h; rfl)) (size_alloc _ _)⟩
  · rw [heap_alloc, if_pos rfl, ← zcells_add, show l + (c - l) = c by omega, his, ← hzs, ← madeCells_eq z.cells (by omega)]
  · rw [← zcells_add, zcells_len, hzz, show l + (c - l) = c by omega]

theorem add_zero_map (a : Option Addr) (c k : Nat) : (if c = 0 then a else a.map (·.add (0 * k))) = a := by
  split
  · rfl
  · cases a with
    | none => rfl
    | some p => rw [Nat.zero_mul]; simp [Addr.add]

theorem Src.addr {w : World} {a : Option Addr} {m sz : Nat} {ys : List Value} (h : Src w a m sz ys) (hl : 0 < ys.length) : ∃ b o, a = some ⟨b, o, none⟩ := by
  obtain ⟨p, rfl, hp⟩ := h.2 0 _ (List.getElem?_eq_getElem hl)
  have h0 : p.add 0 = p := by simp [Addr.add]
  rw [h0] at hp
  obtain ⟨b, o, s⟩ := p
  cases s with
  | none => exact ⟨b, o, rfl⟩
  | some s =>
    unfold World.cell? at hp
    simp only [Option.isSome_some, if_true] at hp
    split at hp <;> cases hp

theorem LdN_src {w : World} {b o n sz j m : Nat} {xs vs : List Value} {K : List Value → Prop} (h : Src w (some ⟨b, o, none⟩) n sz xs) (hv : (xs.drop j).take m = vs) (hl : vs.length = m) (hk : K vs) : LdN w ⟨b, o + j, none⟩ m K := by
  refine ⟨vs, hl, fun i hi => ?_, hk⟩
  have hx : xs[j + i]? = vs[i]? := by rw [← hv, List.getElem?_take, if_pos hi, List.getElem?_drop]
  rw [← hx]
  have hi' : i < vs.length := by omega
  have hs : xs[j + i]? = some vs[i] := by rw [hx]; exact List.getElem?_eq_getElem hi'
  have := h.cell hs
  rw [add_mk] at this ⊢
  rw [show o + j + i = o + (j + i) by omega, this, hs]

theorem wrap_u64_range (n : Int) : 0 ≤ IntKind.u64.wrap n ∧ IntKind.u64.wrap n ≤ 18446744073709551615 := by
  simp only [IntKind.wrap, IntKind.bits, IntKind.signed, Bool.false_and]
  constructor <;> simp <;> omega

end Go.Vc
namespace Go.Proofs.YtcibiidebknkgaaGreat
open Go
theorem mixed : Tryz.prog.follows .mixedOrders = true := by kernel_rfl
end Go.Proofs.YtcibiidebknkgaaGreat
