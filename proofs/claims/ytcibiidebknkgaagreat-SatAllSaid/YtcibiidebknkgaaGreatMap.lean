/- Blocks that are no cells, as parts of memory: a loop's record, a mark, a map; maps: what is found, put, struck. -/
import Derived.Test.YtcibiidebknkgaaGreatRng
import Derived.Below
set_option linter.unusedVariables false
set_option linter.unusedSimpArgs false
namespace Go.Vc
open Go

def noCells : Obj → Bool
  | .cells .. => false
  | _ => true

theorem frz_put {w : World} {b : Nat} {o o' : Obj} (hb : w.heap[b]? = some o) (ho : noCells o = true) (ho' : noCells o' = true) (a : Addr) : (w.putObj b o').frozen? a = w.frozen? a := by
  unfold World.frozen?
  by_cases e : a.block = b
  · rw [e, World.putObj_heap_same (Array.getElem?_eq_some_iff.1 hb).1, hb]
    cases o <;> cases o' <;> first | rfl | (simp [noCells] at ho ho')
  · rw [World.putObj_heap_other e]

theorem Fr.put {w : World} {b : Nat} {o o' : Obj} (hb : w.heap[b]? = some o) (ho : noCells o = true) (ho' : noCells o' = true) : Fr (fun x => x = b) w (w.putObj b o') :=
  ⟨rfl, rfl, by simp [World.putObj], fun x _ hx => World.putObj_heap_other hx, fun a _ => frz_put hb ho ho' a⟩

theorem frz_alloc {w : World} {o : Obj} (ho : noCells o = true) (a : Addr) : (w.alloc o).frozen? a = w.frozen? a := by
  unfold World.frozen?
  rcases Nat.lt_or_ge a.block w.heap.size with h | h
  · rw [Go.RowKit.Below.heap_alloc _ _ _ h]
  · rw [Array.getElem?_eq_none h]
    by_cases e : a.block = w.heap.size
    · rw [e, World.alloc_heap_new]
      cases o <;> first | rfl | (simp [noCells] at ho)
    · rw [Array.getElem?_eq_none (by rw [World.size_alloc]; omega)]

theorem Fr.newObj (w : World) {o : Obj} (ho : noCells o = true) : Fr (fun _ => False) w (w.alloc o) :=
  ⟨rfl, rfl, by rw [World.size_alloc]; omega, fun x hx _ => Go.RowKit.Below.heap_alloc _ _ _ hx, fun a _ => frz_alloc ho a⟩

structure ObjIs (b : Nat) (p : Obj → Prop) (w : World) (S : Nat → Prop) : Prop where
  b_in : S b
  obj : ∃ o, w.heap[b]? = some o ∧ noCells o = true ∧ p o
/-- A block that is no cells. -/
def objP (b : Nat) (p : Obj → Prop) : Res :=
  ⟨ObjIs b p, fun h => ⟨⟨h.1, by obtain ⟨o, ho, _⟩ := h.2; exact (Array.getElem?_eq_some_iff.1 ho).1⟩, h.2⟩,
    fun h f d => ⟨h.1, by obtain ⟨o, ho, hp⟩ := h.2; exact ⟨o, (f.old b (Array.getElem?_eq_some_iff.1 ho).1 (d b h.1)).trans ho, hp⟩⟩, fun h m => ⟨m _ h.1, h.2⟩⟩
def objR (b : Nat) (o : Obj) : Res := objP b (· = o)

section
variable {w0 w w' : World} {l : List Res}

theorem Sep.objM {b : Nat} {p : Obj → Prop} (h : Sep w0 w l) (hm : objP b p ∈ l) : ∃ o, w.heap[b]? = some o ∧ noCells o = true ∧ p o := by
  obtain ⟨S, h⟩ := h.inst hm; exact h.2
theorem Sep.objE {b : Nat} {o : Obj} (h : Sep w0 w l) (hm : objR b o ∈ l) : w.heap[b]? = some o := by
  obtain ⟨o', h1, _, rfl⟩ := h.objM hm; exact h1
theorem Sep.newObj {o : Obj} (h : Sep w0 w l) (ho : noCells o = true) : Sep w0 (w.alloc o) (objR w.heap.size o :: l) :=
  h.cons (R := objR w.heap.size o) (S1 := fun x => x = w.heap.size) (Fr.newObj w ho) ⟨rfl, o, World.alloc_heap_new _ _, ho, rfl⟩ fun x hx => by subst hx; exact Nat.le_refl _
theorem Sep.putP {b : Nat} {p p' : Obj → Prop} {o' : Obj} (h : Sep w0 w l) (hm : objP b p ∈ l) (ho' : noCells o' = true) (hp : p' o') : SepU w0 (w.putObj b o') l (objP b p) (objP b p') := by
  obtain ⟨S1, h1, _, h3⟩ := h.at hm
  obtain ⟨o, ho, hn, _⟩ := h1.2
  refine h3 _ _ (fun x => x = b) ((Fr.put ho hn ho').mono fun x _ hx => by subst hx; exact h1.1) ⟨rfl, o', World.putObj_heap_same (Array.getElem?_eq_some_iff.1 ho).1, ho', hp⟩ fun x hx => .inl (by subst hx; exact h1.1)
theorem Sep.putO {b : Nat} {o o' : Obj} (h : Sep w0 w l) (hm : objR b o ∈ l) (ho' : noCells o' = true) : SepU w0 (w.putObj b o') l (objR b o) (objR b o') := h.putP hm ho' rfl
end

/-! Maps -/
/-- What the law on a map wants of its keys. -/
structure MKey (P : Program) (kt : TypeId) (Kd : Value → Prop) : Prop where
  check : ∀ (w : World) (em : Bool) {v : Value}, Kd v → (Instr.checkKey em 10000 kt v).run P w = .ok () w
  eq : ∀ (w : World) {x y : Value}, Kd x → Kd y → ∃ b : Bool, (Op.equal kt x y).run P w = .ok b w ∧ (b = true ↔ x = y)
  now : ∀ {d : TypeDesc} {x y : Value} {b : Bool}, P.underlying kt = some d → Kd x → Kd y → Instr.sameNow d x y = some b → (b = true ↔ x = y)
  und : ∃ d, P.underlying kt = some d
  stays : ∀ {v : Value}, Kd v → Instr.sameBits 10000 v v = true

def findV (x : Value) : List MapEntry → Nat → Option (Nat × Value) → Prop
  | [], _, r => r = none
  | e :: es, i, r => (x = e.key ∧ r = some (i, e.val)) ∨ (x ≠ e.key ∧ findV x es (i + 1) r)

theorem findNow_V {P : Program} {kt : TypeId} {Kd : Value → Prop} (K : MKey P kt Kd) {d : TypeDesc} (hd : P.underlying kt = some d) {x : Value} (hx : Kd x) : ∀ {es : List MapEntry} {i : Nat} {r : Option (Nat × Value)}, (∀ e ∈ es, Kd e.key) →
    Instr.findNow d x es i = some r → findV x es i r
  | [], _, _, _, h => by simp only [Instr.findNow, Option.some.injEq] at h; exact h.symm
  | e :: es, i, r, hk, h => by
    unfold Instr.findNow at h
    split at h
    · rename_i hs
      cases h
      exact .inl ⟨(K.now hd hx (hk e (by simp)) hs).1 rfl, rfl⟩
    · rename_i hs
      exact .inr ⟨fun he => (by have := (K.now hd hx (hk e (by simp)) hs).2 he; cases this), findNow_V K hd hx (fun e he => hk e (by simp [he])) h⟩
    · cases h

theorem findAsk_V {P : Program} {kt : TypeId} {Kd : Value → Prop} (K : MKey P kt Kd) {x : Value} (hx : Kd x) (w : World) : ∀ {es : List MapEntry} {i : Nat}, (∀ e ∈ es, Kd e.key) →
    ∃ r, (Instr.findAsking kt x es i).run P w = .ok r w ∧ findV x es i r
  | [], _, _ => ⟨none, by simp [Instr.findAsking], rfl⟩
  | e :: es, i, hk => by
    obtain ⟨b, hb, hxy⟩ := K.eq w hx (hk e (by simp))
    unfold Instr.findAsking
    cases b with
    | true => exact ⟨some (i, e.val), by simp [hb], .inl ⟨hxy.1 rfl, rfl⟩⟩
    | false =>
      obtain ⟨r, hr, hv⟩ := findAsk_V K hx w (es := es) (i := i + 1) fun e he => hk e (by simp [he])
      exact ⟨r, by simp [hb, hr], .inr ⟨fun he => (by have := hxy.2 he; cases this), hv⟩⟩

theorem findKey_V {P : Program} {kt : TypeId} {Kd : Value → Prop} (K : MKey P kt Kd) {x : Value} (hx : Kd x) (w : World) {es : List MapEntry} (hk : ∀ e ∈ es, Kd e.key) :
    ∃ r, (Instr.findKey kt x es).run P w = .ok r w ∧ findV x es 0 r := by
  obtain ⟨d, hd⟩ := K.und
  unfold Instr.findKey
  cases hn : Instr.findNow d x es 0 with
  | some r => exact ⟨r, by simp [underlying, hd, hn], findNow_V K hd hx hk hn⟩
  | none =>
    obtain ⟨r, hr, hv⟩ := findAsk_V K hx w (es := es) (i := 0) hk
    exact ⟨r, by simp [underlying, hd, hn, hr], hv⟩

/-- A map's entries, seen as what is found at each key. -/
structure IsMap {α : Type} (enc : α → Value) (m : α → Option Value) (es : List MapEntry) : Prop where
  keys : ∀ e ∈ es, ∃ a, e.key = enc a
  find : ∀ a i r, findV (enc a) es i r → r.map (·.2) = m a

def mapR {α : Type} (b : Nat) (enc : α → Value) (m : α → Option Value) : Res := objP b fun o => ∃ es clock, o = .map es clock ∧ IsMap enc m es.toList

theorem findV_ex (x : Value) : ∀ (es : List MapEntry) (i : Nat), ∃ r, findV x es i r
  | [], _ => ⟨none, rfl⟩
  | e :: es, i => by
    rcases Classical.em (x = e.key) with h | h
    · exact ⟨_, .inl ⟨h, rfl⟩⟩
    · obtain ⟨r, hr⟩ := findV_ex x es (i + 1)
      exact ⟨r, .inr ⟨h, hr⟩⟩

theorem findV_push {x y v : Value} {c : Nat} : ∀ {es : List MapEntry} {i : Nat} {r : Option (Nat × Value)}, findV x (es ++ [{ key := y, val := v, born := c }]) i r →
    ∃ r', findV x es i r' ∧ (r'.isSome = true → r = r') ∧ (r' = none → (x = y → r.map (·.2) = some v) ∧ (x ≠ y → r = none))
  | [], i, r, h => by
    refine ⟨none, rfl, fun h => (by cases h), fun _ => ?_⟩
    rcases h with ⟨h1, rfl⟩ | ⟨h1, h2⟩
    · exact ⟨fun _ => rfl, fun h => (h h1).elim⟩
    · exact ⟨fun h => (h1 h).elim, fun _ => h2⟩
  | e :: es, i, r, h => by
    rcases h with ⟨h1, rfl⟩ | ⟨h1, h2⟩
    · exact ⟨_, .inl ⟨h1, rfl⟩, fun _ => rfl, fun h => by cases h⟩
    · obtain ⟨r', h3, h4⟩ := findV_push h2
      exact ⟨r', .inr ⟨h1, h3⟩, h4⟩

theorem findV_ge {x : Value} : ∀ {es : List MapEntry} {i j : Nat} {v : Value}, findV x es i (some (j, v)) → i ≤ j ∧ ∃ e, es[j - i]? = some e ∧ e.key = x
  | [], _, _, _, h => by cases h
  | e :: es, i, j, v, h => by
    rcases h with ⟨h1, h2⟩ | ⟨h1, h2⟩
    · cases h2; exact ⟨Nat.le_refl _, e, by simp, h1.symm⟩
    · obtain ⟨h3, e', h4, h5⟩ := findV_ge h2
      exact ⟨by omega, e', by rw [show j - i = (j - (i + 1)) + 1 by omega]; simpa using h4, h5⟩

theorem findV_set {x y v : Value} : ∀ {es : List MapEntry} {i j : Nat} {u : Value} {r : Option (Nat × Value)}, findV y es i (some (j, u)) → findV x (es.modify (j - i) fun e => { e with key := y, val := v }) i r →
    (x = y → r.map (·.2) = some v) ∧ (x ≠ y → ∃ r', findV x es i r' ∧ r.map (·.2) = r'.map (·.2))
  | [], _, _, _, _, h, _ => by cases h
  | e :: es, i, j, u, r, h, hm => by
    rcases h with ⟨h1, h2⟩ | ⟨h1, h2⟩
    · cases h2
      rw [Nat.sub_self, List.modify_zero_cons] at hm
      rcases hm with ⟨h3, rfl⟩ | ⟨h3, h4⟩
      · exact ⟨fun _ => rfl, fun h => (h h3).elim⟩
      · exact ⟨fun h => (h3 h).elim, fun _ => ⟨r, .inr ⟨by rw [← h1]; exact h3, h4⟩, rfl⟩⟩
    · have hij := (findV_ge h2).1
      rw [show j - i = (j - (i + 1)) + 1 by omega, List.modify_succ_cons] at hm
      rcases hm with ⟨h3, rfl⟩ | ⟨h3, h4⟩
      · exact ⟨fun h => (h1 (by rw [← h, h3])).elim, fun _ => ⟨_, .inl ⟨h3, rfl⟩, rfl⟩⟩
      · obtain ⟨h5, h6⟩ := findV_set h2 h4
        exact ⟨h5, fun hne => by obtain ⟨r', h7, h8⟩ := h6 hne; exact ⟨r', .inr ⟨h3, h7⟩, h8⟩⟩

def putM {α : Type} [DecidableEq α] (m : α → Option Value) (a : α) (v : Value) : α → Option Value := fun x => if x = a then some v else m x

theorem IsMap.nil {α : Type} {enc : α → Value} : IsMap enc (fun _ => none) [] := ⟨fun _ h => (by cases h), fun _ _ r h => (by cases h; rfl)⟩

theorem IsMap.push {α : Type} [DecidableEq α] {enc : α → Value} (hi : ∀ a b, enc a = enc b → a = b) {m : α → Option Value} {es : List MapEntry} (h : IsMap enc m es) {a : α} {v : Value} {c : Nat} (hn : m a = none) :
    IsMap enc (putM m a v) (es ++ [{ key := enc a, val := v, born := c }]) := by
  refine ⟨fun e he => ?_, fun x i r hr => ?_⟩
  · rcases List.mem_append.1 he with he | he
    · exact h.keys e he
    · simp at he; subst he; exact ⟨a, rfl⟩
  · obtain ⟨r', h1, h2, h3⟩ := findV_push hr
    have hx := h.find x i r' h1
    unfold putM
    by_cases e : x = a
    · subst e
      rw [if_pos rfl]
      cases r' with
      | none => exact (h3 rfl).1 rfl
      | some p => rw [hn] at hx; cases hx
    · rw [if_neg e]
      cases r' with
      | none => rw [(h3 rfl).2 fun he => e (hi _ _ he), ← hx]
      | some p => rw [h2 rfl, hx]

theorem IsMap.modify {α : Type} [DecidableEq α] {enc : α → Value} (hi : ∀ a b, enc a = enc b → a = b) {m : α → Option Value} {es : List MapEntry} (h : IsMap enc m es) {a : α} {v u : Value} {j : Nat} (hf : findV (enc a) es 0 (some (j, u))) :
    IsMap enc (putM m a v) (es.modify j fun e => { e with key := enc a, val := v }) := by
  have hf' : ∀ i, ∃ u, findV (enc a) es i (some (i + j, u)) := by
    have aux : ∀ {es : List MapEntry} {i k : Nat} {r : Option (Nat × Value)}, findV (enc a) es i r → findV (enc a) es (i + k) (r.map fun p => (p.1 + k, p.2)) := by
      intro es
      induction es with
      | nil => intro i k r h; cases h; rfl
      | cons e es ih =>
        intro i k r h
        rcases h with ⟨h1, rfl⟩ | ⟨h1, h2⟩
        · exact .inl ⟨h1, rfl⟩
        · refine .inr ⟨h1, ?_⟩
          have := ih (k := k) h2
          rwa [show i + 1 + k = i + k + 1 by omega] at this
    intro i
    have := aux (k := i) hf
    exact ⟨u, by simpa [Nat.add_comm] using this⟩
  refine ⟨fun e he => ?_, fun x i r hr => ?_⟩
  · obtain ⟨k, hk⟩ := List.getElem?_of_mem he
    rw [List.getElem?_modify] at hk
    cases hes : es[k]? with
    | none => rw [hes] at hk; cases hk
    | some e0 =>
      rw [hes] at hk
      simp only [Option.map_eq_map, Option.map_some, Option.some.injEq] at hk
      split at hk
      · subst hk; exact ⟨a, rfl⟩
      · subst hk; exact h.keys _ (List.mem_of_getElem? hes)
  · obtain ⟨u', hf2⟩ := hf' i
    have hm : findV (enc x) (es.modify (i + j - i) fun e => { e with key := enc a, val := v }) i r := by rw [Nat.add_sub_cancel_left]; exact hr
    obtain ⟨h1, h2⟩ := findV_set hf2 hm
    unfold putM
    by_cases e : x = a
    · subst e; rw [if_pos rfl]; exact h1 rfl
    · rw [if_neg e]
      obtain ⟨r', h3, h4⟩ := h2 fun he => e (hi _ _ he)
      rw [h4]; exact h.find x i r' h3

section
variable {P : Program} {T : Tab} {w0 w : World} {l : List Res} {α : Type} {enc : α → Value} {m : α → Option Value} {kt : TypeId}

theorem Do_lookup (hT : TabOk P T) (K : MKey P kt fun v => ∃ a, v = enc a) {t el : TypeId} {z : Value} (h : Sep w0 w l) {b : Nat} (hm : mapR b enc m ∈ l) (hd : T.d t = some (.map kt el)) (hz : T.z el = some z) (a : α) {ok : Bool} {KK : Value → World → Prop}
    (hk : KK (if ok then .tuple #[(m a).getD z, .bool (m a).isSome] else (m a).getD z) w) : Do P (Instr.lookup t (.map (some b)) (enc a) ok) w KK := by
  obtain ⟨o, ho, _, es, clock, rfl, hI⟩ := h.objM hm
  obtain ⟨r, hr, hv⟩ := findKey_V K ⟨a, rfl⟩ w (es := es.toList) hI.keys
  have hz' := hT.z _ (find_mem hz) w
  have hfa := hI.find a 0 r hv
  refine ⟨_, w, ?_, hk⟩
  rw [← hfa]
  unfold Instr.lookup
  have hu := hT.und hd
  have hg : (getObj b).run P w = .ok (.map es clock) w := by simp [getObj, Sem.run, ho]
  have hc := K.check w es.isEmpty (v := enc a) ⟨a, rfl⟩
  cases r with
  | none => simp [hu, hg, hc, hr, hz']
  | some p => simp [hu, hg, hc, hr]

theorem DoU_mapUpdate [DecidableEq α] (hi : ∀ a b, enc a = enc b → a = b) (hT : TabOk P T) (K : MKey P kt fun v => ∃ a, v = enc a) {t el : TypeId} (h : Sep w0 w l) {b : Nat} (hm : mapR b enc m ∈ l) (hd : T.d t = some (.map kt el)) (a : α) (x : Value) {KK : World → Prop}
    (hk : ∀ w', SepU w0 w' l (mapR b enc m) (mapR b enc (putM m a x)) → KK w') : DoU P (Instr.mapUpdate t (.map (some b)) (enc a) x) w KK := by
  obtain ⟨o, ho, _, es, clock, rfl, hI⟩ := h.objM hm
  obtain ⟨r, hr, hv⟩ := findKey_V K ⟨a, rfl⟩ w (es := es.toList) hI.keys
  have hfa := hI.find a 0 r hv
  have hu := hT.und hd
  have hg : (getObj b).run P w = .ok (.map es clock) w := by simp [getObj, Sem.run, ho]
  have hc := K.check w false (v := enc a) ⟨a, rfl⟩
  have hs : ∀ o, (setObj b o).run P w = .ok () (w.putObj b o) := fun o => by
    have := (Array.getElem?_eq_some_iff.1 ho).1
    simp [setObj, Sem.run, World.putObj, ho]
  cases r with
  | none =>
    refine ⟨_, ?_, hk _ (h.putP hm (o' := .map (es.push { key := enc a, val := x, born := clock }) (clock + 1)) rfl ⟨_, _, rfl, ?_⟩)⟩
    · unfold Instr.mapUpdate
      simp [hu, hg, hc, hr, hs]
    · rw [Array.toList_push]; exact hI.push hi hfa.symm
  | some p =>
    obtain ⟨j, u⟩ := p
    obtain ⟨_, e, he, hek⟩ := findV_ge hv
    have he' : es[j]? = some e := by simpa using he
    have hst : (Instr.keyThatStays ((es[j]?.map (·.key)).getD (enc a)) (enc a)).run P w = .ok (enc a) w := by
      rw [he']
      simp only [Option.map_some, Option.getD_some, hek]
      unfold Instr.keyThatStays
      rw [if_pos (K.stays ⟨a, rfl⟩)]
      simp
    refine ⟨_, ?_, hk _ (h.putP hm (o' := .map (es.modify j fun e => { e with key := enc a, val := x }) clock) rfl ⟨_, _, rfl, ?_⟩)⟩
    · unfold Instr.mapUpdate
      simp [hu, hg, hc, hr, hs, hst]
    · rw [Array.toList_modify]; exact hI.modify hi hv
end

theorem MKey.int {P : Program} {kt : TypeId} {k : IntKind} (hd : P.underlying kt = some (.int k)) : MKey P kt fun v => ∃ n : Int, v = .int k n where
  check := by
    rintro w em v ⟨n, rfl⟩
    show (Instr.checkKey em (9999 + 1) kt (.int k n)).run P w = _
    generalize 9999 = d
    simp [Instr.checkKey, underlying, hd]
  eq := by
    rintro w x y ⟨a, rfl⟩ ⟨b, rfl⟩
    refine ⟨a == b, ?_, by simp⟩
    show (Op.equalIn (9999 + 1) kt (.int k a) (.int k b)).run P w = _
    generalize 9999 = d
    simp [Op.equalIn, underlying, hd]
  now := by
    rintro d x y b hd' ⟨m, rfl⟩ ⟨n, rfl⟩ h
    rw [hd] at hd'
    cases hd'
    simp [Instr.sameNow] at h
    subst h
    simp
  und := ⟨_, hd⟩
  stays := by
    rintro v ⟨n, rfl⟩
    show Instr.sameBits (9999 + 1) (.int k n) (.int k n) = true
    generalize 9999 = d
    simp [Instr.sameBits]

theorem MKey.pair {P : Program} {T : Tab} (hT : TabOk P T) {kt el : TypeId} {k : IntKind} (hk : P.underlying kt = some (.array 2 el)) (hd : P.underlying el = some (.int k)) (hs : T.s el = some 1) : MKey P kt fun v => ∃ p : Int × Int, v = .agg #[.int k p.1, .int k p.2] := by
  have hsz : ∀ w, (sizeOf el).run P w = .ok 1 w := fun w => hT.s _ (find_mem hs) w
  have hag : ∀ w, (isAgg el).run P w = .ok false w := fun w => by simp [isAgg, underlying, hd]
  have hp0 : ∀ w (a b : Value), (part el #[a, b] 0).run P w = .ok a w := fun w a b => by simp [part, hag]
  have hp1 : ∀ w (a b : Value), (part el #[a, b] 1).run P w = .ok b w := fun w a b => by simp [part, hag]
  refine ⟨?_, ?_, ?_, ⟨_, hk⟩, ?_⟩
  · rintro w em v ⟨p, rfl⟩
    show (Instr.checkKey em (9998 + 1 + 1) kt _).run P w = _
    generalize 9998 = d
    have hc : ∀ n w, (Instr.checkKey em (d + 1) el (.int k n)).run P w = .ok () w := fun n w => by simp [Instr.checkKey, underlying, hd]
    rw [Instr.checkKey]
    simp [underlying, hk, hsz, hp0, hp1, hc, Std.Legacy.Range.forIn_eq_forIn_range', Std.Legacy.Range.size, List.range']
  · rintro w x y ⟨p, rfl⟩ ⟨q, rfl⟩
    refine ⟨p.1 == q.1 && p.2 == q.2, ?_, by simp⟩
    show (Op.equalIn (9998 + 1 + 1) kt _ _).run P w = _
    generalize 9998 = d
    have hc : ∀ m n w, (Op.equalIn (d + 1) el (.int k m) (.int k n)).run P w = .ok (m == n) w := fun m n w => by simp [Op.equalIn, underlying, hd]
    rw [Op.equalIn]
    by_cases h1 : p.1 = q.1 <;> by_cases h2 : p.2 = q.2 <;>
      simp [underlying, hk, hsz, hp0, hp1, hc, Std.Legacy.Range.forIn_eq_forIn_range', Std.Legacy.Range.size, List.range', h1, h2]
  · rintro d x y b hd' ⟨m, rfl⟩ ⟨n, rfl⟩ h
    rw [hk] at hd'
    cases hd'
    simp [Instr.sameNow] at h
  · rintro v ⟨p, rfl⟩
    show Instr.sameBits (9998 + 1 + 1) _ _ = true
    generalize 9998 = d
    simp [Instr.sameBits]

/-! Pairs of numbers, compared. -/
theorem pair_eq {P : Program} {T : Tab} (hT : TabOk P T) {kt el : TypeId} {k : IntKind} (hk : P.underlying kt = some (.array 2 el)) (hd : P.underlying el = some (.int k)) (hs : T.s el = some 1) (a b c d : Int) (w : World) :
    (Op.equal kt (.agg #[.int k a, .int k b]) (.agg #[.int k c, .int k d])).run P w = .ok (decide (a = c ∧ b = d)) w := by
  obtain ⟨r, h1, h2⟩ := (MKey.pair hT hk hd hs).eq w (x := .agg #[.int k a, .int k b]) (y := .agg #[.int k c, .int k d]) ⟨(a, b), rfl⟩ ⟨(c, d), rfl⟩
  rw [h1]
  congr 1
  rw [Bool.eq_iff_iff, h2]
  simp

theorem pair_guard {P : Program} {op : BinOp} {t : TypeId} {xo yo : Operand} {x y : Array Value} {w : World} (ho : op = .eql ∨ op = .neq) (hg : P.eqGuardType P.depth t = false) : (eqGuard op t xo yo (.agg x) (.agg y)).run P w = .ok () w := by
  rcases ho with rfl | rfl <;> simp [eqGuard, hg]

theorem Do_pair_ne {P : Program} {T : Tab} (hT : TabOk P T) {t el : TypeId} {k : IntKind} {xo yo : Operand} {a b c d : Int} {w : World} {K : Value → World → Prop} (hk : P.underlying t = some (.array 2 el)) (hd : P.underlying el = some (.int k)) (hs : T.s el = some 1)
    (hg : P.eqGuardType P.depth t = false) (h : K (.bool !decide (a = c ∧ b = d)) w) : Do P (do eqGuard .neq t xo yo (.agg #[.int k a, .int k b]) (.agg #[.int k c, .int k d]); binOp .neq t (.agg #[.int k a, .int k b]) (.agg #[.int k c, .int k d])) w K :=
  ⟨_, w, by
    have e : binOp .neq t (.agg #[.int k a, .int k b]) (.agg #[.int k c, .int k d]) = (do pure (.bool (!(← Op.equal t (.agg #[.int k a, .int k b]) (.agg #[.int k c, .int k d]))))) := rfl
    rw [e]
    simp only [Sem.run_bind, pair_guard (Or.inr rfl) hg, Result.andThen_ok, pair_eq hT hk hd hs, Sem.run_pure], h⟩
theorem Do_pair_eq {P : Program} {T : Tab} (hT : TabOk P T) {t el : TypeId} {k : IntKind} {xo yo : Operand} {a b c d : Int} {w : World} {K : Value → World → Prop} (hk : P.underlying t = some (.array 2 el)) (hd : P.underlying el = some (.int k)) (hs : T.s el = some 1)
    (hg : P.eqGuardType P.depth t = false) (h : K (.bool (decide (a = c ∧ b = d))) w) : Do P (do eqGuard .eql t xo yo (.agg #[.int k a, .int k b]) (.agg #[.int k c, .int k d]); binOp .eql t (.agg #[.int k a, .int k b]) (.agg #[.int k c, .int k d])) w K :=
  ⟨_, w, by
    have e : binOp .eql t (.agg #[.int k a, .int k b]) (.agg #[.int k c, .int k d]) = (do pure (.bool (← Op.equal t (.agg #[.int k a, .int k b]) (.agg #[.int k c, .int k d])))) := rfl
    rw [e]
    simp only [Sem.run_bind, pair_guard (Or.inl rfl) hg, Result.andThen_ok, pair_eq hT hk hd hs, Sem.run_pure], h⟩

end Go.Vc
