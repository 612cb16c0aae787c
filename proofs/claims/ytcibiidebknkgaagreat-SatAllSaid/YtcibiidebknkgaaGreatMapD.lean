/- Maps that lose keys, and that are counted. -/
import Derived.Test.YtcibiidebknkgaaGreatMap
namespace Go.Vc
open Go Go.ChangeShapes Go.WideShapes Go.RowKit
set_option linter.unusedVariables false
set_option linter.unusedSimpArgs false

/-- A map's entries, each key once. -/
structure IsMapD {α : Type} (enc : α → Value) (m : α → Option Value) (es : List MapEntry) : Prop where
  keys : ∀ e ∈ es, ∃ a, e.key = enc a
  once : es.Pairwise fun x y => x.key ≠ y.key
  get : ∀ a v, m a = some v ↔ ∃ e ∈ es, e.key = enc a ∧ e.val = v

def delM {α : Type} [DecidableEq α] (m : α → Option Value) (a : α) : α → Option Value := fun x => if x = a then none else m x

theorem findV_mem {x : Value} : ∀ {es : List MapEntry} {i : Nat} {r : Option (Nat × Value)}, findV x es i r → (r = none ∧ ∀ e ∈ es, x ≠ e.key) ∨ ∃ j e, r = some (i + j, e.val) ∧ es[j]? = some e ∧ e.key = x
  | [], i, r, h => .inl ⟨h, fun e he => by cases he⟩
  | e :: es, i, r, h => by
    rcases h with ⟨h1, h2⟩ | ⟨h1, h2⟩
    · exact .inr ⟨0, e, h2, rfl, h1.symm⟩
    · rcases findV_mem h2 with ⟨h3, h4⟩ | ⟨j, g, h3, h4, h5⟩
      · refine .inl ⟨h3, fun g hg => ?_⟩
        rw [List.mem_cons] at hg
        rcases hg with rfl | hg
        · exact h1
        · exact h4 g hg
      · exact .inr ⟨j + 1, g, by rw [h3]; congr 2; omega, h4, h5⟩

section
variable {α : Type} {enc : α → Value} {m : α → Option Value} {es : List MapEntry}
theorem IsMapD.find (h : IsMapD enc m es) (a : α) {i : Nat} {r : Option (Nat × Value)} (hr : findV (enc a) es i r) : r.map (·.2) = m a := by
  rcases findV_mem hr with ⟨rfl, h2⟩ | ⟨j, e, rfl, h2, h3⟩
  · cases hm : m a with
    | none => rfl
    | some v =>
      obtain ⟨e, he, hk, _⟩ := (h.get a v).1 hm
      exact (h2 e he hk.symm).elim
  · exact ((h.get a e.val).2 ⟨e, List.mem_of_getElem? h2, h3, rfl⟩).symm
theorem IsMapD.nil : IsMapD enc (fun _ => none) [] := ⟨fun _ h => (by cases h), List.Pairwise.nil, fun a v => ⟨fun h => (by cases h), fun ⟨e, he, _⟩ => by cases he⟩⟩
theorem IsMapD.push [DecidableEq α] (hi : ∀ a b, enc a = enc b → a = b) (h : IsMapD enc m es) {a : α} {v : Value} {c : Nat} (hn : m a = none) : IsMapD enc (putM m a v) (es ++ [{ key := enc a, val := v, born := c }]) := by
  have hno : ∀ e ∈ es, e.key ≠ enc a := fun e he hk => by
    have := (h.get a e.val).2 ⟨e, he, hk, rfl⟩
    rw [hn] at this; cases this
  refine ⟨fun e he => ?_, ?_, fun x u => ?_⟩
  · rw [List.mem_append, List.mem_singleton] at he
    rcases he with he | rfl
    · exact h.keys e he
    · exact ⟨a, rfl⟩
  · rw [List.pairwise_append]
    refine ⟨h.once, by simp, fun e he g hg => ?_⟩
    rw [List.mem_singleton] at hg; subst hg
    exact hno e he
  · unfold putM
    by_cases hx : x = a
    · subst hx
      rw [if_pos rfl]
      constructor
      · intro hv; cases hv; exact ⟨_, List.mem_append_right _ (List.mem_singleton.2 rfl), rfl, rfl⟩
      · rintro ⟨e, he, hk, rfl⟩
        rw [List.mem_append, List.mem_singleton] at he
        rcases he with he | rfl
        · exact (hno e he hk).elim
        · rfl
    · rw [if_neg hx, h.get]
      constructor
      · rintro ⟨e, he, hk⟩; exact ⟨e, List.mem_append_left _ he, hk⟩
      · rintro ⟨e, he, hk, hv⟩
        rw [List.mem_append, List.mem_singleton] at he
        rcases he with he | rfl
        · exact ⟨e, he, hk, hv⟩
        · exact (hx (hi _ _ hk).symm).elim
theorem once_at (h : es.Pairwise fun x y => x.key ≠ y.key) {i j : Nat} {e g : MapEntry} (hi : es[i]? = some e) (hj : es[j]? = some g) (hk : e.key = g.key) : i = j := by
  obtain ⟨i1, i2⟩ := List.getElem?_eq_some_iff.1 hi
  obtain ⟨j1, j2⟩ := List.getElem?_eq_some_iff.1 hj
  rw [List.pairwise_iff_getElem] at h
  rcases Nat.lt_trichotomy i j with hlt | rfl | hgt
  · exact (h i j i1 j1 hlt (by rw [i2, j2]; exact hk)).elim
  · rfl
  · exact (h j i j1 i1 hgt (by rw [i2, j2]; exact hk.symm)).elim
theorem IsMapD.modify [DecidableEq α] (hi : ∀ a b, enc a = enc b → a = b) (h : IsMapD enc m es) {a : α} {v : Value} {j : Nat} {g : MapEntry} (hj : es[j]? = some g) (hg : g.key = enc a) : IsMapD enc (putM m a v) (es.modify j fun e => { e with key := enc a, val := v }) := by
  have hget : ∀ (i : Nat) (e : MapEntry), (es.modify j fun e => { e with key := enc a, val := v })[i]? = some e ↔ (i = j ∧ e = { g with key := enc a, val := v }) ∨ (i ≠ j ∧ es[i]? = some e) := by
    intro i e
    rw [List.getElem?_modify]
    by_cases hij : j = i
    · subst hij
      rw [hj]; simp
      exact ⟨fun h => h.symm, fun h => h.symm⟩
    · simp only [hij, if_false]
      constructor
      · intro h; exact .inr ⟨fun e => hij e.symm, by simpa using h⟩
      · rintro (⟨h, _⟩ | ⟨_, h⟩)
        · exact (hij h.symm).elim
        · simpa using h
  have hkey : ∀ (i : Nat) (e : MapEntry), (es.modify j fun e => { e with key := enc a, val := v })[i]? = some e → ∃ e0, es[i]? = some e0 ∧ e0.key = e.key := by
    intro i e h
    rcases (hget i e).1 h with ⟨rfl, rfl⟩ | ⟨_, h⟩
    · exact ⟨g, hj, hg⟩
    · exact ⟨e, h, rfl⟩
  refine ⟨fun e he => ?_, ?_, fun x u => ?_⟩
  · obtain ⟨i, he⟩ := List.getElem?_of_mem he
    rcases (hget i e).1 he with ⟨_, rfl⟩ | ⟨_, he⟩
    · exact ⟨a, rfl⟩
    · exact h.keys e (List.mem_of_getElem? he)
  · rw [List.pairwise_iff_getElem]
    intro i k i1 k1 hik hk
    obtain ⟨e0, h1, h2⟩ := hkey i _ (List.getElem?_eq_getElem i1)
    obtain ⟨g0, h3, h4⟩ := hkey k _ (List.getElem?_eq_getElem k1)
    have := once_at h.once h1 h3 (by rw [h2, h4, hk])
    omega
  · unfold putM
    by_cases hx : x = a
    · subst hx
      rw [if_pos rfl]
      constructor
      · intro hv; cases hv; exact ⟨_, List.mem_of_getElem? ((hget j _).2 (.inl ⟨rfl, rfl⟩)), rfl, rfl⟩
      · rintro ⟨e, he, hk, rfl⟩
        obtain ⟨i, he⟩ := List.getElem?_of_mem he
        rcases (hget i e).1 he with ⟨_, rfl⟩ | ⟨hne, he⟩
        · rfl
        · exact (hne (once_at h.once he hj (by rw [hk, hg]))).elim
    · rw [if_neg hx, h.get]
      constructor
      · rintro ⟨e, he, hk, hv⟩
        obtain ⟨i, he⟩ := List.getElem?_of_mem he
        refine ⟨e, List.mem_of_getElem? ((hget i e).2 (.inr ⟨fun hij => ?_, he⟩)), hk, hv⟩
        subst hij
        rw [hj] at he; cases he
        exact hx (hi _ _ (by rw [← hk, hg]))
      · rintro ⟨e, he, hk, hv⟩
        obtain ⟨i, he⟩ := List.getElem?_of_mem he
        rcases (hget i e).1 he with ⟨_, rfl⟩ | ⟨_, he⟩
        · exact (hx (hi _ _ hk).symm).elim
        · exact ⟨e, List.mem_of_getElem? he, hk, hv⟩
theorem IsMapD.erase [DecidableEq α] (hi : ∀ a b, enc a = enc b → a = b) (h : IsMapD enc m es) {a : α} {j : Nat} {g : MapEntry} (hj : es[j]? = some g) (hg : g.key = enc a) : IsMapD enc (delM m a) (es.eraseIdx j) := by
  have hsub : (es.eraseIdx j).Sublist es := List.eraseIdx_sublist ..
  have hmem : ∀ e, e ∈ es.eraseIdx j ↔ e ∈ es ∧ e.key ≠ enc a := by
    intro e
    rw [List.mem_eraseIdx_iff_getElem?]
    constructor
    · rintro ⟨i, hne, he⟩
      exact ⟨List.mem_of_getElem? he, fun hk => hne (once_at h.once he hj (by rw [hk, hg]))⟩
    · rintro ⟨he, hk⟩
      obtain ⟨i, he⟩ := List.getElem?_of_mem he
      refine ⟨i, fun hij => ?_, he⟩
      subst hij
      rw [hj] at he; cases he
      exact hk hg
  refine ⟨fun e he => h.keys e ((hmem e).1 he).1, h.once.sublist hsub, fun x u => ?_⟩
  unfold delM
  by_cases hx : x = a
  · subst hx
    rw [if_pos rfl]
    exact ⟨fun h => (by cases h), fun ⟨e, he, hk, _⟩ => (((hmem e).1 he).2 hk).elim⟩
  · rw [if_neg hx, h.get]
    constructor
    · rintro ⟨e, he, hk, hv⟩
      exact ⟨e, (hmem e).2 ⟨he, fun h => hx (hi _ _ (by rw [← hk, h]))⟩, hk, hv⟩
    · rintro ⟨e, he, hk, hv⟩
      exact ⟨e, ((hmem e).1 he).1, hk, hv⟩
theorem IsMapD.drop (h : IsMapD enc m es) [DecidableEq α] {a : α} (hn : m a = none) : delM m a = m := by
  funext x
  unfold delM
  by_cases hx : x = a
  · rw [if_pos hx, hx, hn]
  · rw [if_neg hx]
end

/-- A map with so many entries. -/
def mapD {α : Type} (b : Nat) (enc : α → Value) (m : α → Option Value) (n : Nat) : Res := objP b fun o => ∃ es clock, o = .map es clock ∧ IsMapD enc m es.toList ∧ es.size = n

section
variable {P : Program} {T : Tab} {w0 w : World} {l : List Res} {α : Type} {enc : α → Value} {m : α → Option Value} {kt : TypeId} {b n : Nat}
theorem Nw_mapD (H : Sep w0 w l) {K : Nat → World → Prop} (hk : ∀ b w', Sep w0 w' (mapD b enc (fun _ => none) 0 :: l) → K b w') : Nw w (.map #[] 0) K :=
  ⟨hk _ _ ((H.newObj rfl).head fun S h => ⟨h.b_in, by obtain ⟨o, h1, h2, rfl⟩ := h.obj; exact ⟨_, h1, h2, _, _, rfl, IsMapD.nil, rfl⟩⟩)⟩

theorem lookupD (hT : TabOk P T) (K : MKey P kt fun v => ∃ a, v = enc a) {t el : TypeId} {z : Value} (h : Sep w0 w l) (hm : mapD b enc m n ∈ l) (hd : T.d t = some (.map kt el)) (hz : T.z el = some z) (a : α) {ok : Bool} :
    (Instr.lookup t (.map (some b)) (enc a) ok).run P w = .ok (if ok then .tuple #[(m a).getD z, .bool (m a).isSome] else (m a).getD z) w := by
  obtain ⟨o, ho, _, es, clock, rfl, hI, _⟩ := h.objM hm
  obtain ⟨r, hr, hv⟩ := findKey_V K ⟨a, rfl⟩ w (es := es.toList) hI.keys
  have hz' := hT.z _ (find_mem hz) w
  have hfa := hI.find a hv
  rw [← hfa]
  unfold Instr.lookup
  have hu := hT.und hd
  have hg : (getObj b).run P w = .ok (.map es clock) w := by simp [getObj, Sem.run, ho]
  have hc := K.check w es.isEmpty (v := enc a) ⟨a, rfl⟩
  cases r with
  | none => simp [hu, hg, hc, hr, hz']
  | some p => simp [hu, hg, hc, hr]
theorem Do_lookupD (hT : TabOk P T) (K : MKey P kt fun v => ∃ a, v = enc a) {t el : TypeId} {z : Value} (h : Sep w0 w l) (hm : mapD b enc m n ∈ l) (hd : T.d t = some (.map kt el)) (hz : T.z el = some z) (a : α) {ok : Bool} {KK : Value → World → Prop}
    (hk : KK (if ok then .tuple #[(m a).getD z, .bool (m a).isSome] else (m a).getD z) w) : Do P (Instr.lookup t (.map (some b)) (enc a) ok) w KK := ⟨_, w, lookupD hT K h hm hd hz a, hk⟩
theorem DoS_lookupD (hT : TabOk P T) (K : MKey P kt fun v => ∃ a, v = enc a) {t el : TypeId} {z : Value} (h : Sep w0 w l) (hm : mapD b enc m n ∈ l) (hd : T.d t = some (.map kt el)) (hz : T.z el = some z) (a : α) {ok : Bool} {KK : Value → Option (World → Prop) → Prop}
    (hk : KK (if ok then .tuple #[(m a).getD z, .bool (m a).isSome] else (m a).getD z) (some fun w => (Instr.lookup t (.map (some b)) (enc a) ok).run P w = .ok (if ok then .tuple #[(m a).getD z, .bool (m a).isSome] else (m a).getD z) w)) :
    DoS P (Instr.lookup t (.map (some b)) (enc a) ok) w KK := ⟨_, lookupD hT K h hm hd hz a, hk⟩
theorem DoU_putD [DecidableEq α] (hi : ∀ a b, enc a = enc b → a = b) (hT : TabOk P T) (K : MKey P kt fun v => ∃ a, v = enc a) {t el : TypeId} (h : Sep w0 w l) (hm : mapD b enc m n ∈ l) (hd : T.d t = some (.map kt el)) (a : α) (x : Value) {KK : World → Prop}
    (hk : ∀ w', SepU w0 w' l (mapD b enc m n) (mapD b enc (putM m a x) (if (m a).isSome = true then n else n + 1)) → KK w') : DoU P (Instr.mapUpdate t (.map (some b)) (enc a) x) w KK := by
  obtain ⟨o, ho, _, es, clock, rfl, hI, hsz⟩ := h.objM hm
  obtain ⟨r, hr, hv⟩ := findKey_V K ⟨a, rfl⟩ w (es := es.toList) hI.keys
  have hfa := hI.find a hv
  have hu := hT.und hd
  have hg : (getObj b).run P w = .ok (.map es clock) w := by simp [getObj, Sem.run, ho]
  have hc := K.check w false (v := enc a) ⟨a, rfl⟩
  have hs : ∀ o, (setObj b o).run P w = .ok () (w.putObj b o) := fun o => by
    have := (Array.getElem?_eq_some_iff.1 ho).1
    simp [setObj, Sem.run, World.putObj, ho]
  cases r with
  | none =>
    have hma : m a = none := hfa.symm
    refine ⟨_, ?_, hk _ (h.putP hm (o' := .map (es.push { key := enc a, val := x, born := clock }) (clock + 1)) rfl ⟨_, _, rfl, ?_, ?_⟩)⟩
    · unfold Instr.mapUpdate
      simp [hu, hg, hc, hr, hs]
    · rw [Array.toList_push]; exact hI.push hi hma
    · rw [Array.size_push, hsz, hma]; rfl
  | some p =>
    obtain ⟨j, u⟩ := p
    rcases findV_mem hv with ⟨h0, _⟩ | ⟨k, e, h1, he, hek⟩
    · cases h0
    have hjk : j = k := by
      have := congrArg (fun o : Option (Nat × Value) => o.map (·.1)) h1
      simp at this; exact this
    subst hjk
    have hma : m a = some u := hfa.symm
    have he' : es[j]? = some e := by simpa using he
    have hst : (Instr.keyThatStays ((es[j]?.map (·.key)).getD (enc a)) (enc a)).run P w = .ok (enc a) w := by
      rw [he']
      simp only [Option.map_some, Option.getD_some, hek]
      unfold Instr.keyThatStays
      rw [if_pos (K.stays ⟨a, rfl⟩)]
      simp
    refine ⟨_, ?_, hk _ (h.putP hm (o' := .map (es.modify j fun e => { e with key := enc a, val := x }) clock) rfl ⟨_, _, rfl, ?_, ?_⟩)⟩
    · unfold Instr.mapUpdate
      simp [hu, hg, hc, hr, hs, hst]
    · rw [Array.toList_modify]; exact hI.modify hi he hek
    · rw [Array.size_modify, hsz, hma]; rfl
theorem DoN_delD [DecidableEq α] (hi : ∀ a b, enc a = enc b → a = b) (hT : TabOk P T) (K : MKey P kt fun v => ∃ a, v = enc a) {t el : TypeId} {tys : Array TypeId} {ty : TypeId} {cb : Array Bool} (ht : tys[0]? = some t) (h : Sep w0 w l) (hm : mapD b enc m n ∈ l) (hd : T.d t = some (.map kt el)) (a : α) {KK : Value → World → Prop}
    (hk : ∀ w', SepU w0 w' l (mapD b enc m n) (mapD b enc (delM m a) (if (m a).isSome = true then n - 1 else n)) → KK (.tuple #[]) w') : DoN P (builtin .delete tys ty cb #[.map (some b), enc a]) w KK := by
  obtain ⟨o, ho, _, es, clock, rfl, hI, hsz⟩ := h.objM hm
  obtain ⟨r, hr, hv⟩ := findKey_V K ⟨a, rfl⟩ w (es := es.toList) hI.keys
  have hfa := hI.find a hv
  have hu := hT.und hd
  have hg : (getObj b).run P w = .ok (.map es clock) w := by simp [getObj, Sem.run, ho]
  have hc := K.check w es.isEmpty (v := enc a) ⟨a, rfl⟩
  have hs : ∀ o, (setObj b o).run P w = .ok () (w.putObj b o) := fun o => by
    have := (Array.getElem?_eq_some_iff.1 ho).1
    simp [setObj, Sem.run, World.putObj, ho]
  cases r with
  | none =>
    have hma : m a = none := hfa.symm
    refine ⟨.inl ⟨_, _, ?_, hk _ (h.putP hm (o' := .map es clock) rfl ⟨_, _, rfl, ?_, ?_⟩)⟩⟩
    · unfold builtin Builtin.delete_
      simp [ht, hu, hg, hc, hr, hs]
    · rw [hI.drop hma]; exact hI
    · rw [hma]; exact hsz
  | some p =>
    obtain ⟨j, u⟩ := p
    rcases findV_mem hv with ⟨h0, _⟩ | ⟨k, e, h1, he, hek⟩
    · cases h0
    have hjk : j = k := by
      have := congrArg (fun o : Option (Nat × Value) => o.map (·.1)) h1
      simp at this; exact this
    subst hjk
    have hma : m a = some u := hfa.symm
    have hjl : j < es.size := by
      have := (List.getElem?_eq_some_iff.1 he).1
      simpa using this
    refine ⟨.inl ⟨_, _, ?_, hk _ (h.putP hm (o' := .map (es.eraseIdxIfInBounds j) clock) rfl ⟨_, _, rfl, ?_, ?_⟩)⟩⟩
    · unfold builtin Builtin.delete_
      simp [ht, hu, hg, hc, hr, hs]
    · rw [Array.eraseIdxIfInBounds, dif_pos hjl, Array.toList_eraseIdx]; exact hI.erase hi he hek
    · rw [Array.eraseIdxIfInBounds, dif_pos hjl, Array.size_eraseIdx, hsz, hma]; rfl
theorem DoN_lenD (hT : TabOk P T) {t k el : TypeId} {tys : Array TypeId} {ty : TypeId} {cb : Array Bool} (ht : tys[0]? = some t) (h : Sep w0 w l) (hm : mapD b enc m n ∈ l) (hd : T.d t = some (.map k el)) {KK : Value → World → Prop}
    (hk : KK (.int .i64 n) w) : DoN P (builtin .len tys ty cb #[.map (some b)]) w KK := by
  obtain ⟨o, ho, _, es, clock, rfl, hI, hsz⟩ := h.objM hm
  have hu := hT.und hd
  have hg : (getObj b).run P w = .ok (.map es clock) w := by simp [getObj, Sem.run, ho]
  refine ⟨.inl ⟨_, _, ?_, hk⟩⟩
  unfold builtin Builtin.len_
  simp [ht, hu, hg, goInt, hsz]
end
end Go.Vc
