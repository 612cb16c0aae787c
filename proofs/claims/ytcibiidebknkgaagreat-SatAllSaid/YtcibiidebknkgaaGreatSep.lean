/- Memory in parts: what a call holds, part by part, none of which touches another; what was there before stays as it is. -/
import Derived.Test.YtcibiidebknkgaaGreatMem
set_option linter.unusedVariables false
set_option linter.unusedSimpArgs false
namespace Go.Vc
open Go

/-- A part of memory: what holds of a world, of a set of blocks. -/
structure Res where
  is : World → (Nat → Prop) → Prop
  lt : ∀ {w S}, is w S → is w (fun x => S x ∧ x < w.heap.size)
  fr : ∀ {w w' : World} {S S' : Nat → Prop}, is w S → Fr S' w w' → (∀ x, S x → ¬ S' x) → is w' S
  mono : ∀ {w : World} {S S' : Nat → Prop}, is w S → (∀ x, S x → S' x) → is w S'

def SepL : List Res → World → (Nat → Prop) → Prop
  | [], _, _ => True
  | R :: l, w, S => ∃ S1 : Nat → Prop, (∀ x, S1 x → S x) ∧ R.is w S1 ∧ SepL l w (fun x => S x ∧ ¬ S1 x)

theorem SepL.mono : ∀ {l : List Res} {w : World} {S S' : Nat → Prop}, SepL l w S → (∀ x, S x → S' x) → SepL l w S'
  | [], _, _, _, _, _ => trivial
  | _ :: _, _, _, _, ⟨S1, h1, h2, h3⟩, hm => ⟨S1, fun x hx => hm x (h1 x hx), h2, h3.mono fun x hx => ⟨hm x hx.1, hx.2⟩⟩

theorem SepL.lt : ∀ {l : List Res} {w : World} {S : Nat → Prop}, SepL l w S → SepL l w (fun x => S x ∧ x < w.heap.size)
  | [], _, _, _ => trivial
  | R :: _, _, _, ⟨S1, h1, h2, h3⟩ => ⟨_, fun x hx => ⟨h1 x hx.1, hx.2⟩, R.lt h2, h3.lt.mono fun x hx => ⟨⟨hx.1.1, hx.2⟩, fun h => hx.1.2 h.1⟩⟩

theorem SepL.fr : ∀ {l : List Res} {w w' : World} {S S' : Nat → Prop}, SepL l w S → Fr S' w w' → (∀ x, S x → ¬ S' x) → SepL l w' S
  | [], _, _, _, _, _, _, _ => trivial
  | R :: _, _, _, _, _, ⟨S1, h1, h2, h3⟩, hf, hd => ⟨S1, h1, R.fr h2 hf fun x hx => hd x (h1 x hx), h3.fr hf fun x hx => hd x hx.1⟩

theorem SepL.part : ∀ {l : List Res} {i : Nat} {R : Res} {w : World} {S : Nat → Prop}, SepL l w S → l[i]? = some R →
    ∃ S1 : Nat → Prop, (∀ x, S1 x → S x) ∧ R.is w S1 ∧ ∀ (w' : World) (R' : Res) (S1' N : Nat → Prop), Fr S1 w w' → R'.is w' S1' → (∀ x, S1' x → S1 x ∨ N x) → (∀ x, N x → ¬ S x) → SepL (l.set i R') w' (fun x => S x ∨ N x)
  | [], _, _, _, _, _, h => by simp at h
  | R0 :: l, 0, R, w, S, ⟨S1, h1, h2, h3⟩, h => by
    simp at h; subst h
    refine ⟨S1, h1, h2, fun w' R' S1' N hf hR hs hN => ⟨S1', fun x hx => (hs x hx).imp (h1 x) id, hR, ?_⟩⟩
    refine (h3.fr hf fun x hx => hx.2).mono fun x hx => ⟨.inl hx.1, fun h => ?_⟩
    rcases hs x h with h | h
    · exact hx.2 h
    · exact hN x h hx.1
  | R0 :: l, i + 1, R, w, S, ⟨S0, h1, h2, h3⟩, h => by
    obtain ⟨S1, k1, k2, k3⟩ := h3.part (i := i) (by simpa using h)
    refine ⟨S1, fun x hx => (k1 x hx).1, k2, fun w' R' S1' N hf hR hs hN => ⟨S0, fun x hx => .inl (h1 x hx), R0.fr h2 hf fun x hx h => (k1 x h).2 hx, ?_⟩⟩
    refine (k3 w' R' S1' N hf hR hs fun x hx h => hN x hx h.1).mono ?_
    rintro x (hx | hx)
    · exact ⟨.inl hx.1, hx.2⟩
    · exact ⟨.inr hx, fun h => hN x hx (h1 x h)⟩

theorem SepL.top : ∀ {l : List Res} {i : Nat} {R : Res} {w : World} {S : Nat → Prop}, SepL l w S → l[i]? = some R → SepL (R :: l.eraseIdx i) w S
  | [], _, _, _, _, _, h => by simp at h
  | R0 :: l, 0, R, w, S, hl, h => by simp at h; subst h; exact hl
  | R0 :: l, i + 1, R, w, S, ⟨S0, h1, h2, h3⟩, h => by
    obtain ⟨S1, k1, k2, k3⟩ := h3.top (i := i) (by simpa using h)
    exact ⟨S1, fun x hx => (k1 x hx).1, k2, S0, fun x hx => ⟨h1 x hx, fun h => (k1 x h).2 hx⟩, h2, k3.mono fun x hx => ⟨⟨hx.1.1, hx.2⟩, hx.1.2⟩⟩

theorem SepL.app : ∀ {l l' : List Res} {w : World} {S : Nat → Prop}, SepL (l ++ l') w S → ∃ S1 : Nat → Prop, (∀ x, S1 x → S x) ∧ SepL l w S1 ∧ SepL l' w (fun x => S x ∧ ¬ S1 x)
  | [], _, _, _, h => ⟨fun _ => False, fun _ h => h.elim, trivial, h.mono fun x hx => ⟨hx, fun h => h⟩⟩
  | R :: l, l', w, S, ⟨S0, h1, h2, h3⟩ => by
    obtain ⟨S1, k1, k2, k3⟩ := h3.app
    refine ⟨fun x => S0 x ∨ S1 x, ?_, ⟨S0, fun x hx => .inl hx, h2, k2.mono fun x hx => ⟨.inr hx, (k1 x hx).2⟩⟩, k3.mono fun x hx => ⟨hx.1.1, fun h => ?_⟩⟩
    · rintro x (h | h)
      · exact h1 x h
      · exact (k1 x h).1
    · rcases h with h | h
      · exact hx.1.2 h
      · exact hx.2 h

theorem SepL.join : ∀ {l l' : List Res} {w : World} {S S1 : Nat → Prop}, (∀ x, S1 x → S x) → SepL l w S1 → SepL l' w (fun x => S x ∧ ¬ S1 x) → SepL (l ++ l') w S
  | [], _, _, _, _, _, _, h => h.mono fun x hx => hx.1
  | R :: l, l', w, S, S1, hs, ⟨S0, h1, h2, h3⟩, h => by
    refine ⟨S0, fun x hx => hs x (h1 x hx), h2, SepL.join (S1 := fun x => S1 x ∧ ¬ S0 x) (fun x hx => ⟨hs x hx.1, hx.2⟩) h3 (h.mono fun x hx => ⟨⟨hx.1, fun h => hx.2 (h1 x h)⟩, fun h => hx.2 h.1⟩)⟩

/-! Kinds of parts -/
structure CellsIs (b t : Nat) (cs : List Value) (w : World) (S : Nat → Prop) : Prop where
  b_in : S b
  cell : At w b t cs
structure OwnIs (a : Option Addr) (n cap el sz : Nat) (xs : List Value) (w : World) (S : Nat → Prop) : Prop where
  b_in : ∀ x, Blk a x → S x
  own : Own w a n cap el sz xs
def cellsR (b t : Nat) (cs : List Value) : Res :=
  ⟨CellsIs b t cs, fun h => ⟨⟨h.1, h.2.lt⟩, h.2⟩, fun h f d => ⟨h.1, h.2.fr f (d _ h.1)⟩, fun h m => ⟨m _ h.1, h.2⟩⟩
def ownR (a : Option Addr) (n cap el sz : Nat) (xs : List Value) : Res :=
  ⟨OwnIs a n cap el sz xs, fun h => ⟨fun x hx => ⟨h.1 x hx, h.2.lt hx⟩, h.2⟩, fun h f d => ⟨h.1, h.2.fr f fun x hx => d x (h.1 x hx)⟩, fun h m => ⟨fun x hx => m x (h.1 x hx), h.2⟩⟩
def pureR (p : Prop) : Res := ⟨fun _ _ => p, fun h => h, fun h _ _ => h, fun h _ => h⟩
def exR {α : Type} (f : α → Res) : Res :=
  ⟨fun w S => ∃ x, (f x).is w S, fun ⟨x, h⟩ => ⟨x, (f x).lt h⟩, fun ⟨x, h⟩ a d => ⟨x, (f x).fr h a d⟩, fun ⟨x, h⟩ m => ⟨x, (f x).mono h m⟩⟩
def sepR (l : List Res) : Res := ⟨fun w S => SepL l w S, fun h => h.lt, fun h f d => h.fr f d, fun h m => h.mono m⟩

/-- What a call holds: in parts, all of them new since the world w0, of which nothing has changed. -/
structure Sep (w0 w : World) (l : List Res) : Prop where
  base : Fr (fun _ => False) w0 w
  parts : SepL l w (fun x => w0.heap.size ≤ x ∧ x < w.heap.size)

section
variable {w0 w w' : World} {l : List Res} {R R' : Res} {i : Nat}

theorem Sep.nil (w : World) : Sep w w [] := ⟨Fr.refl _ _, trivial⟩

theorem Sep.fr (h : Sep w0 w l) (f : Fr (fun _ => False) w w') : Sep w0 w' l :=
  ⟨h.base.trans f, (h.parts.fr f fun _ _ h => h).mono fun x hx => ⟨hx.1, Nat.lt_of_lt_of_le hx.2 f.size⟩⟩

theorem Sep.part (h : Sep w0 w l) (hi : l[i]? = some R) : ∃ S1 : Nat → Prop, R.is w S1 ∧ (∀ x, S1 x → w0.heap.size ≤ x ∧ x < w.heap.size) ∧
    ∀ (w' : World) (R' : Res) (S1' : Nat → Prop), Fr S1 w w' → R'.is w' S1' → (∀ x, S1' x → S1 x ∨ w.heap.size ≤ x) → Sep w0 w' (l.set i R') := by
  obtain ⟨S1, h1, h2, h3⟩ := h.parts.part hi
  refine ⟨S1, h2, h1, fun w' R' S1' hf hR hs => ⟨h.base.trans' hf fun x hx hS => absurd (h1 x hS).1 (by omega), ?_⟩⟩
  have hsz := hf.size
  have hb := h.base.size
  refine (h3 w' R' (fun x => S1' x ∧ x < w'.heap.size) (fun x => w.heap.size ≤ x ∧ x < w'.heap.size) hf (R'.lt hR) (fun x hx => (hs x hx.1).imp id fun h => ⟨h, hx.2⟩) (fun x hx h => by omega)).mono ?_
  rintro x (hx | hx)
  · exact ⟨hx.1, by omega⟩
  · exact ⟨by omega, hx.2⟩

/-- A part that becomes another one. -/
theorem Sep.upd (h : Sep w0 w l) (hi : l[i]? = some R) {Q : World → Prop} (k : ∀ S1, R.is w S1 → (∀ x, S1 x → x < w.heap.size) → (∀ w' R' S1', Fr S1 w w' → R'.is w' S1' → (∀ x, S1' x → S1 x ∨ w.heap.size ≤ x) → Sep w0 w' (l.set i R')) → Q w) : Q w := by
  obtain ⟨S1, h1, h2, h3⟩ := h.part hi
  exact k S1 h1 (fun x hx => (h2 x hx).2) h3

theorem Sep.get (h : Sep w0 w l) (i : Nat) (hi : l[i]? = some R) : ∃ S, R.is w S := by
  obtain ⟨S1, h1, _, _⟩ := h.part hi
  exact ⟨S1, h1⟩

theorem Sep.repl (h : Sep w0 w l) (i : Nat) (hi : l[i]? = some R) (k : ∀ S, R.is w S → R'.is w S) {l' : List Res} (hl : l.set i R' = l') : Sep w0 w l' := by
  obtain ⟨S1, h1, _, h3⟩ := h.part hi
  exact hl ▸ h3 w R' S1 (Fr.refl _ _) (k _ h1) fun x hx => .inl hx

theorem Sep.cons {S1 : Nat → Prop} (h : Sep w0 w l) (f : Fr (fun _ => False) w w') (hR : R.is w' S1) (hs : ∀ x, S1 x → w.heap.size ≤ x) : Sep w0 w' (R :: l) := by
  have hb := h.base.size
  have hsz := f.size
  refine ⟨h.base.trans f, fun x => S1 x ∧ x < w'.heap.size, fun x hx => ⟨by have := hs x hx.1; omega, hx.2⟩, R.lt hR, ?_⟩
  refine (h.parts.fr f fun _ _ h => h).mono fun x hx => ⟨⟨hx.1, by omega⟩, fun hS => by have := hs x hS.1; omega⟩

theorem Sep.tail (h : Sep w0 w (R :: l)) : Sep w0 w l := by
  obtain ⟨b, S1, _, _, h3⟩ := h
  exact ⟨b, h3.mono fun x hx => hx.1⟩

theorem Sep.top (h : Sep w0 w l) (i : Nat) (hi : l[i]? = some R) {l' : List Res} (hl : l.eraseIdx i = l') : Sep w0 w (R :: l') := ⟨h.base, hl ▸ h.parts.top hi⟩

theorem Sep.drop (h : Sep w0 w l) (i : Nat) (hi : l[i]? = some R) {l' : List Res} (hl : l.eraseIdx i = l') : Sep w0 w l' := (h.top i hi hl).tail

theorem Sep.app {l' : List Res} (h : Sep w0 w (l ++ l')) : Sep w0 w (sepR l :: l') := by
  obtain ⟨S1, h1, h2, h3⟩ := h.parts.app
  exact ⟨h.base, S1, h1, h2, h3⟩

theorem Sep.flat {l' : List Res} (h : Sep w0 w (sepR l :: l')) : Sep w0 w (l ++ l') := by
  obtain ⟨b, S1, h1, h2, h3⟩ := h
  exact ⟨b, SepL.join h1 h2 h3⟩

theorem Sep.ex {α : Type} {f : α → Res} (h : Sep w0 w (exR f :: l)) : ∃ x, Sep w0 w (f x :: l) := by
  obtain ⟨b, S1, h1, ⟨x, h2⟩, h3⟩ := h
  exact ⟨x, b, S1, h1, h2, h3⟩
theorem Sep.mk_ex {α : Type} {f : α → Res} (x : α) (h : Sep w0 w (f x :: l)) : Sep w0 w (exR f :: l) := by
  obtain ⟨b, S1, h1, h2, h3⟩ := h
  exact ⟨b, S1, h1, ⟨x, h2⟩, h3⟩
theorem Sep.prop {p : Prop} (h : Sep w0 w (pureR p :: l)) : p ∧ Sep w0 w l := by
  obtain ⟨S, hp⟩ := h.get 0 rfl
  exact ⟨hp, h.tail⟩
theorem Sep.mk_prop {p : Prop} (hp : p) (h : Sep w0 w l) : Sep w0 w (pureR p :: l) := by
  have := h.cons (R := pureR p) (S1 := fun _ => False) (Fr.refl _ _) hp (fun _ h => h.elim)
  exact this

/-- What is new since w, beside what was held in w. -/
theorem Sep.add {l' : List Res} (h : Sep w0 w l) (k : Sep w w' l') : Sep w0 w' (l' ++ l) := by
  have hb := h.base.size
  have hsz := k.base.size
  refine ⟨h.base.trans k.base, SepL.join (S1 := fun x => w.heap.size ≤ x ∧ x < w'.heap.size) (fun x hx => ⟨by omega, hx.2⟩) k.parts ?_⟩
  exact (h.parts.fr k.base fun _ _ h => h).mono fun x hx => ⟨⟨hx.1, by omega⟩, fun hS => by omega⟩

/-! Some of the parts, in any order. -/
def selL (l : List Res) : List Nat → List Res
  | [] => []
  | i :: is => match l[i]? with
    | some R => R :: selL l is
    | none => selL l is

theorem SepL.out : ∀ {l : List Res} {i : Nat} {R : Res} {w : World} {S : Nat → Prop}, SepL l w S → l[i]? = some R → ∃ S1 : Nat → Prop, (∀ x, S1 x → S x) ∧ R.is w S1 ∧ SepL (l.set i (pureR True)) w (fun x => S x ∧ ¬ S1 x)
  | [], _, _, _, _, _, h => by simp at h
  | R0 :: l, 0, R, w, S, ⟨S1, h1, h2, h3⟩, h => by
    simp at h; subst h
    exact ⟨S1, h1, h2, fun _ => False, fun _ h => h.elim, trivial, h3.mono fun x hx => ⟨hx, fun h => h⟩⟩
  | R0 :: l, i + 1, R, w, S, ⟨S0, h1, h2, h3⟩, h => by
    obtain ⟨S1, k1, k2, k3⟩ := h3.out (i := i) (by simpa using h)
    exact ⟨S1, fun x hx => (k1 x hx).1, k2, S0, fun x hx => ⟨h1 x hx, fun h => (k1 x h).2 hx⟩, h2, k3.mono fun x hx => ⟨⟨hx.1.1, hx.2⟩, hx.1.2⟩⟩

theorem selL_set {l : List Res} {i : Nat} {R : Res} : ∀ {is : List Nat}, i ∉ is → selL (l.set i R) is = selL l is
  | [], _ => rfl
  | j :: is, h => by
    have hj : i ≠ j := fun e => h (by simp [e])
    simp only [selL, List.getElem?_set, if_neg hj, selL_set (is := is) (fun hm => h (List.mem_cons_of_mem _ hm))]

theorem SepL.sel : ∀ {is : List Nat} {l : List Res} {w : World} {S : Nat → Prop}, is.Nodup → SepL l w S → SepL (selL l is) w S
  | [], _, _, _, _, _ => trivial
  | i :: is, l, w, S, hn, h => by
    have hn' := List.nodup_cons.1 hn
    unfold selL
    cases hi : l[i]? with
    | none => exact SepL.sel hn'.2 h
    | some R =>
      obtain ⟨S1, k1, k2, k3⟩ := h.out hi
      refine ⟨S1, k1, k2, ?_⟩
      have := SepL.sel hn'.2 k3
      rw [selL_set hn'.1] at this
      exact this

theorem Sep.sel (h : Sep w0 w l) (is : List Nat) (hn : is.Nodup) {l' : List Res} (hl : selL l is = l') : Sep w0 w l' := ⟨h.base, hl ▸ SepL.sel hn h.parts⟩

theorem Sep.all (h : Sep w0 w l) : Sep w0 w [] := ⟨h.base, trivial⟩

/-- The rest stays when the head becomes another part. -/
theorem Sep.head (h : Sep w0 w (R :: l)) (k : ∀ S, R.is w S → R'.is w S) : Sep w0 w (R' :: l) := by
  obtain ⟨b, S1, h1, h2, h3⟩ := h
  exact ⟨b, S1, h1, k _ h2, h3⟩

theorem At.cellN {w : World} {b t : Nat} {cs : List Value} (h : At w b t cs) {n : Nat} : ∀ i, i < n → w.cell? ((⟨b, 0, none⟩ : Addr).add i) = cs[i]? := by
  intro i _; rw [add_mk, Nat.zero_add, h.cell]

/-! Which residual stands there? -/
theorem Ld_gate {w : World} {a : Addr} {K : Value → Prop} (h : Ld w a K) : Ld w a K := h
theorem LdN_gate {w : World} {a : Addr} {n : Nat} {K : List Value → Prop} (h : LdN w a n K) : LdN w a n K := h
theorem St_gate {w : World} {a : Addr} {v : Value} {K : World → Prop} (h : St w a v K) : St w a v K := h
theorem StN_gate {w : World} {a : Addr} {vs : List Value} {K : World → Prop} (h : StN w a vs K) : StN w a vs K := h
theorem Br_gate {b : Bool} {A B : Prop} (h : Br b A B) : Br b A B := h
theorem Br_gd {p : Prop} [Decidable p] {A B : Prop} (h : Br (decide p) A B) : Br (decide p) A B := h
theorem Br_ge {x y : Int} {A B : Prop} (h : Br (x == y) A B) : Br (x == y) A B := h
theorem Br_gn {x y : Int} {A B : Prop} (h : Br (x != y) A B) : Br (x != y) A B := h
theorem Ar_gate {k : IntKind} {n : Int} {K : Int → Prop} (h : Ar k n K) : Ar k n K := h
theorem Call_gate {P : Program} {f : FuncId} {args : Array Value} {w : World} {K : Value → World → Prop} (h : Call P f args w K) : Call P f args w K := h
theorem Kept_gate {J A : Prop} (h : Kept J A) : Kept J A := h
theorem DoN_gate {P : Program} {s : Sem Next} {w : World} {K : Value → World → Prop} (h : DoN P s w K) : DoN P s w K := h

/-! A part by what it is, and what it becomes. -/
inductive Upd (R R' : Res) : List Res → List Res → Prop where
  | head {l : List Res} : Upd R R' (R :: l) (R' :: l)
  | tail {X : Res} {l l' : List Res} : Upd R R' l l' → Upd R R' (X :: l) (X :: l')

theorem SepL.perm {l l' : List Res} (h : l.Perm l') : ∀ {w : World} {S : Nat → Prop}, SepL l w S → SepL l' w S := by
  induction h with
  | nil => exact fun h => h
  | cons R _ ih => exact fun ⟨S1, h1, h2, h3⟩ => ⟨S1, h1, h2, ih h3⟩
  | swap R R' l => exact fun ⟨S1, h1, h2, S2, k1, k2, k3⟩ => ⟨S2, fun x hx => (k1 x hx).1, k2, S1, fun x hx => ⟨h1 x hx, fun h => (k1 x h).2 hx⟩, h2, k3.mono fun x hx => ⟨⟨hx.1.1, hx.2⟩, hx.1.2⟩⟩
  | trans _ _ ih1 ih2 => exact fun h => ih2 (ih1 h)

theorem Sep.perm {l' : List Res} (h : Sep w0 w l) (hp : l.Perm l') : Sep w0 w l' := ⟨h.base, h.parts.perm hp⟩

theorem Upd.cut : ∀ {l l' : List Res}, Upd R R' l l' → ∃ r, l.Perm (R :: r) ∧ l'.Perm (R' :: r)
  | _, _, .head => ⟨_, List.Perm.refl _, List.Perm.refl _⟩
  | _, _, .tail (X := X) h => by
    obtain ⟨r, h1, h2⟩ := h.cut
    exact ⟨X :: r, (List.Perm.cons X h1).trans (List.Perm.swap _ _ _), (List.Perm.cons X h2).trans (List.Perm.swap _ _ _)⟩

theorem Upd.other (R'' : Res) : ∀ {l l' : List Res}, Upd R R' l l' → ∃ l'' r, Upd R R'' l l'' ∧ l''.Perm (R'' :: r) ∧ l'.Perm (R' :: r)
  | _, _, .head => ⟨_, _, .head, List.Perm.refl _, List.Perm.refl _⟩
  | _, _, .tail (X := X) h => by
    obtain ⟨l'', r, h0, h1, h2⟩ := h.other R''
    exact ⟨X :: l'', X :: r, .tail h0, (List.Perm.cons X h1).trans (List.Perm.swap _ _ _), (List.Perm.cons X h2).trans (List.Perm.swap _ _ _)⟩

theorem mem_cut : ∀ {l : List Res}, R ∈ l → ∃ r, l.Perm (R :: r)
  | _, .head _ => ⟨_, List.Perm.refl _⟩
  | _, .tail X h => by
    obtain ⟨r, h1⟩ := mem_cut h
    exact ⟨X :: r, (List.Perm.cons X h1).trans (List.Perm.swap _ _ _)⟩

/-- What is held when one part has become another one. -/
def SepU (w0 w' : World) (l : List Res) (R R' : Res) : Prop := ∀ l', Upd R R' l l' → Sep w0 w' l'

theorem SepU.mk {r : List Res} (hp : l.Perm (R :: r)) (h : Sep w0 w' (R' :: r)) : SepU w0 w' l R R' := by
  intro l' hu
  obtain ⟨r', h1, h2⟩ := hu.cut
  have h3 : r.Perm r' := List.Perm.cons_inv (hp.symm.trans h1)
  exact h.perm ((List.Perm.cons R' h3).trans h2.symm)

/-- A part, found by what it is: what becomes of it. -/
theorem Sep.at (h : Sep w0 w l) (hm : R ∈ l) : ∃ S1 : Nat → Prop, R.is w S1 ∧ (∀ x, S1 x → w0.heap.size ≤ x ∧ x < w.heap.size) ∧
    ∀ (w' : World) (R' : Res) (S1' : Nat → Prop), Fr S1 w w' → R'.is w' S1' → (∀ x, S1' x → S1 x ∨ w.heap.size ≤ x) → SepU w0 w' l R R' := by
  obtain ⟨r, hp⟩ := mem_cut hm
  obtain ⟨S1, h1, h2, h3⟩ := (h.perm hp).part (i := 0) (R := R) rfl
  exact ⟨S1, h1, h2, fun w' R' S1' hf hR hs => SepU.mk hp (h3 w' R' S1' hf hR hs)⟩

theorem Sep.inst (h : Sep w0 w l) (hm : R ∈ l) : ∃ S, R.is w S := by
  obtain ⟨S1, h1, _, _⟩ := h.at hm
  exact ⟨S1, h1⟩

theorem Sep.same (h : Sep w0 w l) : SepU w0 w l R R := by
  intro l' hu
  obtain ⟨r, h1, h2⟩ := hu.cut
  exact h.perm (h1.trans h2.symm)

theorem Sep.cellsM {b t : Nat} {cs : List Value} (h : Sep w0 w l) (hm : cellsR b t cs ∈ l) : At w b t cs := by
  obtain ⟨S, h⟩ := h.inst hm; exact h.2
theorem Sep.ownM {a : Option Addr} {n cap el sz : Nat} {xs : List Value} (h : Sep w0 w l) (hm : ownR a n cap el sz xs ∈ l) : Own w a n cap el sz xs := by
  obtain ⟨S, h⟩ := h.inst hm; exact h.2
theorem Sep.srcM {a : Option Addr} {n cap el sz : Nat} {xs : List Value} (h : Sep w0 w l) (hm : ownR a n cap el sz xs ∈ l) : Src w a n sz xs := (h.ownM hm).src
theorem Sep.srcCM {b el : Nat} {cs : List Value} (h : Sep w0 w l) (n sz : Nat) (hm : cellsR b el cs ∈ l) (hl : cs.length = n * sz) (hn : n ≤ maxLen) : Src w (some ⟨b, 0, none⟩) n sz cs :=
  (Own.ofAt (h.cellsM hm) hl hn).src

/-! What is read -/
theorem Sep.cells (h : Sep w0 w l) (i : Nat) {b t : Nat} {cs : List Value} (hi : l[i]? = some (cellsR b t cs)) : At w b t cs := by
  obtain ⟨S, h⟩ := h.get i hi; exact h.2
theorem Sep.own (h : Sep w0 w l) (i : Nat) {a : Option Addr} {n cap el sz : Nat} {xs : List Value} (hi : l[i]? = some (ownR a n cap el sz xs)) : Own w a n cap el sz xs := by
  obtain ⟨S, h⟩ := h.get i hi; exact h.2
theorem Sep.rd (h : Sep w0 w l) {a : Option Addr} {m sz : Nat} {ys : List Value} (hs : Src w0 a m sz ys) : Src w a m sz ys := hs.fr h.base fun _ _ h => h

theorem Ld_sep (h : Sep w0 w l) (i : Nat) {b j t : Nat} {cs : List Value} {v : Value} {K : Value → Prop} (hi : l[i]? = some (cellsR b t cs)) (hv : cs[j]? = some v) (hk : K v) : Ld w ⟨b, j, none⟩ K :=
  Ld_at (h.cells i hi) hv hk
theorem LdN_sep (h : Sep w0 w l) (i : Nat) {b n t : Nat} {cs : List Value} {K : List Value → Prop} (hi : l[i]? = some (cellsR b t cs)) (hl : cs.length = n) (hk : K cs) : LdN w ⟨b, 0, none⟩ n K :=
  LdN_all (h.cells i hi) hl hk
theorem LdN_sepP (h : Sep w0 w l) (i : Nat) {b o n t : Nat} {cs vs : List Value} {K : List Value → Prop} (hi : l[i]? = some (cellsR b t cs)) (hv : (cs.drop o).take n = vs) (hl : vs.length = n) (hk : K vs) : LdN w ⟨b, o, none⟩ n K :=
  LdN_at (h.cells i hi) hv hl hk
theorem Ld_sepO (h : Sep w0 w l) (i : Nat) {b j n cap el sz : Nat} {xs : List Value} {v : Value} {K : Value → Prop} (hi : l[i]? = some (ownR (some ⟨b, 0, none⟩) n cap el sz xs)) (hv : xs[j]? = some v) (hk : K v) : Ld w ⟨b, 0 + j, none⟩ K :=
  Ld_own (h.own i hi) hv hk
theorem LdN_sepO (h : Sep w0 w l) (i : Nat) {b j m n cap el sz : Nat} {xs vs : List Value} {K : List Value → Prop} (hi : l[i]? = some (ownR (some ⟨b, 0, none⟩) n cap el sz xs)) (hv : (xs.drop j).take m = vs) (hl : vs.length = m) (hk : K vs) : LdN w ⟨b, 0 + j, none⟩ m K :=
  LdN_own (h.own i hi) hv hl hk

/-! What is written -/
theorem St_sep (h : Sep w0 w l) (i : Nat) {b j t : Nat} {cs cs' : List Value} {l' : List Res} {v : Value} {K : World → Prop} (hi : l[i]? = some (cellsR b t cs)) (hv : oneCell v = true) (hj : j < cs.length)
    (hc : cs.set j v = cs') (hl : l.set i (cellsR b t cs') = l') (hk : ∀ w', Sep w0 w' l' → K w') : St w ⟨b, j, none⟩ v K := by
  obtain ⟨S1, h1, h2, h3⟩ := h.part hi
  exact St_at h1.2 hv hj hc fun w' hat hf _ => hk w' (hl ▸ h3 w' _ S1 (hf.mono fun x _ hx => by rw [hx]; exact h1.1) ⟨h1.1, hat⟩ fun x hx => .inl hx)
theorem StN_sep (h : Sep w0 w l) (i : Nat) {b o t : Nat} {cs cs' vs : List Value} {l' : List Res} {K : World → Prop} (hi : l[i]? = some (cellsR b t cs)) (hv : ∀ v ∈ vs, oneCell v = true) (hj : o + vs.length ≤ cs.length)
    (hc : cs.take o ++ vs ++ cs.drop (o + vs.length) = cs') (hl : l.set i (cellsR b t cs') = l') (hk : ∀ w', Sep w0 w' l' → K w') : StN w ⟨b, o, none⟩ vs K := by
  obtain ⟨S1, h1, h2, h3⟩ := h.part hi
  exact StN_at h1.2 hv hj hc fun w' hat hf _ => hk w' (hl ▸ h3 w' _ S1 (hf.mono fun x _ hx => by rw [hx]; exact h1.1) ⟨h1.1, hat⟩ fun x hx => .inl hx)
/-- A struct as a whole. -/
theorem StN_sepW (h : Sep w0 w l) (i : Nat) {b t : Nat} {cs vs : List Value} {l' : List Res} {K : World → Prop} (hi : l[i]? = some (cellsR b t cs)) (hv : ∀ v ∈ vs, oneCell v = true) (hj : vs.length = cs.length)
    (hl : l.set i (cellsR b t vs) = l') (hk : ∀ w', Sep w0 w' l' → K w') : StN w ⟨b, 0, none⟩ vs K :=
  StN_sep h i hi hv (by omega) (by rw [List.take_zero, List.nil_append, Nat.zero_add, hj, List.drop_length, List.append_nil]) hl hk
theorem St_sepO (h : Sep w0 w l) (i : Nat) {b j n cap el sz : Nat} {xs xs' : List Value} {l' : List Res} {v : Value} {K : World → Prop} (hi : l[i]? = some (ownR (some ⟨b, 0, none⟩) n cap el sz xs)) (hv : oneCell v = true) (hj : j < xs.length)
    (hc : xs.set j v = xs') (hl : l.set i (ownR (some ⟨b, 0, none⟩) n cap el sz xs') = l') (hk : ∀ w', Sep w0 w' l' → K w') : St w ⟨b, 0 + j, none⟩ v K := by
  obtain ⟨S1, h1, h2, h3⟩ := h.part hi
  exact St_own h1.2 hv hj hc fun w' hat hf _ => hk w' (hl ▸ h3 w' _ S1 (hf.mono fun x _ hx => by rw [hx]; exact h1.1 _ rfl) ⟨h1.1, hat⟩ fun x hx => .inl hx)
theorem StN_sepO (h : Sep w0 w l) (i : Nat) {b o n cap el sz : Nat} {xs xs' vs : List Value} {l' : List Res} {K : World → Prop} (hi : l[i]? = some (ownR (some ⟨b, 0, none⟩) n cap el sz xs)) (hv : ∀ v ∈ vs, oneCell v = true) (hj : o + vs.length ≤ xs.length)
    (hc : xs.take o ++ vs ++ xs.drop (o + vs.length) = xs') (hl : l.set i (ownR (some ⟨b, 0, none⟩) n cap el sz xs') = l') (hk : ∀ w', Sep w0 w' l' → K w') : StN w ⟨b, 0 + o, none⟩ vs K := by
  obtain ⟨S1, h1, h2, h3⟩ := h.part hi
  exact StN_own h1.2 hv hj hc fun w' hat hf _ => hk w' (hl ▸ h3 w' _ S1 (hf.mono fun x _ hx => by rw [hx]; exact h1.1 _ rfl) ⟨h1.1, hat⟩ fun x hx => .inl hx)

theorem Sep.cellAt {b j t : Nat} {cs : List Value} {v : Value} (h : Sep w0 w l) (hm : cellsR b t cs ∈ l) (hv : cs[j]? = some v) : w.cell? ⟨b, j, none⟩ = some v := ((h.cellsM hm).cell j).trans hv
theorem Sep.cellN {b t : Nat} {cs : List Value} {n : Nat} (h : Sep w0 w l) (hm : cellsR b t cs ∈ l) : ∀ i, i < n → w.cell? ((⟨b, 0, none⟩ : Addr).add i) = cs[i]? := (h.cellsM hm).cellN
theorem Sep.cellAtO {b j n cap el sz : Nat} {xs : List Value} {v : Value} (h : Sep w0 w l) (hm : ownR (some ⟨b, 0, none⟩) n cap el sz xs ∈ l) (hv : xs[j]? = some v) : w.cell? ⟨b, 0 + j, none⟩ = some v := by
  have := (h.srcM hm).cell hv
  rw [add_mk] at this; exact this
theorem Ld_m {b j t : Nat} {cs : List Value} {v : Value} {K : Value → Prop} (h : Sep w0 w l) (hm : cellsR b t cs ∈ l) (hv : cs[j]? = some v) (hk : K v) : Ld w ⟨b, j, none⟩ K :=
  Ld_at (h.cellsM hm) hv hk
theorem LdN_m {b n t : Nat} {cs : List Value} {K : List Value → Prop} (h : Sep w0 w l) (hm : cellsR b t cs ∈ l) (hl : cs.length = n) (hk : K cs) : LdN w ⟨b, 0, none⟩ n K :=
  LdN_all (h.cellsM hm) hl hk
theorem LdN_mP {b o n t : Nat} {cs vs : List Value} {K : List Value → Prop} (h : Sep w0 w l) (hm : cellsR b t cs ∈ l) (hv : (cs.drop o).take n = vs) (hl : vs.length = n) (hk : K vs) : LdN w ⟨b, o, none⟩ n K :=
  LdN_at (h.cellsM hm) hv hl hk
theorem Ld_mO {b j n cap el sz : Nat} {xs : List Value} {v : Value} {K : Value → Prop} (h : Sep w0 w l) (hm : ownR (some ⟨b, 0, none⟩) n cap el sz xs ∈ l) (hv : xs[j]? = some v) (hk : K v) : Ld w ⟨b, 0 + j, none⟩ K :=
  Ld_own (h.ownM hm) hv hk
theorem LdN_mO {b j m n cap el sz : Nat} {xs vs : List Value} {K : List Value → Prop} (h : Sep w0 w l) (hm : ownR (some ⟨b, 0, none⟩) n cap el sz xs ∈ l) (hv : (xs.drop j).take m = vs) (hl : vs.length = m) (hk : K vs) : LdN w ⟨b, 0 + j, none⟩ m K :=
  LdN_own (h.ownM hm) hv hl hk

theorem St_u {b j t : Nat} {cs cs' : List Value} {l' : List Res} {v : Value} {K : World → Prop} (h : Sep w0 w l) (u : Upd (cellsR b t cs) (cellsR b t cs') l l') (hv : oneCell v = true) (hj : j < cs.length)
    (hc : cs.set j v = cs') (hk : ∀ w', Sep w0 w' l' → K w') : St w ⟨b, j, none⟩ v K := by
  obtain ⟨r, hp, hp'⟩ := u.cut
  exact St_sep (h.perm hp) 0 rfl hv hj hc rfl fun w' H => hk w' (Sep.perm H hp'.symm)
theorem StN_u {b t : Nat} {cs vs : List Value} {l' : List Res} {K : World → Prop} (h : Sep w0 w l) (u : Upd (cellsR b t cs) (cellsR b t vs) l l') (hv : ∀ v ∈ vs, oneCell v = true) (hj : vs.length = cs.length)
    (hk : ∀ w', Sep w0 w' l' → K w') : StN w ⟨b, 0, none⟩ vs K := by
  obtain ⟨r, hp, hp'⟩ := u.cut
  exact StN_sepW (h.perm hp) 0 rfl hv hj rfl fun w' H => hk w' (Sep.perm H hp'.symm)
theorem StN_uP {b o t : Nat} {cs cs' vs : List Value} {l' : List Res} {K : World → Prop} (h : Sep w0 w l) (u : Upd (cellsR b t cs) (cellsR b t cs') l l') (hv : ∀ v ∈ vs, oneCell v = true) (hj : o + vs.length ≤ cs.length)
    (hc : cs.take o ++ vs ++ cs.drop (o + vs.length) = cs') (hk : ∀ w', Sep w0 w' l' → K w') : StN w ⟨b, o, none⟩ vs K := by
  obtain ⟨r, hp, hp'⟩ := u.cut
  exact StN_sep (h.perm hp) 0 rfl hv hj hc rfl fun w' H => hk w' (Sep.perm H hp'.symm)
theorem St_uO {b j n cap el sz : Nat} {xs xs' : List Value} {l' : List Res} {v : Value} {K : World → Prop} (h : Sep w0 w l) (u : Upd (ownR (some ⟨b, 0, none⟩) n cap el sz xs) (ownR (some ⟨b, 0, none⟩) n cap el sz xs') l l') (hv : oneCell v = true) (hj : j < xs.length)
    (hc : xs.set j v = xs') (hk : ∀ w', Sep w0 w' l' → K w') : St w ⟨b, 0 + j, none⟩ v K := by
  obtain ⟨r, hp, hp'⟩ := u.cut
  exact St_sepO (h.perm hp) 0 rfl hv hj hc rfl fun w' H => hk w' (Sep.perm H hp'.symm)
theorem StN_uO {b o n cap el sz : Nat} {xs xs' vs : List Value} {l' : List Res} {K : World → Prop} (h : Sep w0 w l) (u : Upd (ownR (some ⟨b, 0, none⟩) n cap el sz xs) (ownR (some ⟨b, 0, none⟩) n cap el sz xs') l l') (hv : ∀ v ∈ vs, oneCell v = true) (hj : o + vs.length ≤ xs.length)
    (hc : xs.take o ++ vs ++ xs.drop (o + vs.length) = xs') (hk : ∀ w', Sep w0 w' l' → K w') : StN w ⟨b, 0 + o, none⟩ vs K := by
  obtain ⟨r, hp, hp'⟩ := u.cut
  exact StN_sepO (h.perm hp) 0 rfl hv hj hc rfl fun w' H => hk w' (Sep.perm H hp'.symm)

theorem Nw_sep (h : Sep w0 w l) {cs : List Value} {t : TypeId} {K : Nat → World → Prop} (hk : ∀ b w', Sep w0 w' (cellsR b t cs :: l) → K b w') : Nw w (.cells cs.toArray t) K :=
  Nw_cells fun b w' e hat f s => hk b w' (h.cons (S1 := fun x => x = b) f ⟨rfl, hat⟩ fun x hx => by omega)

/-- A row that was made is one that is owned. -/
theorem Sep.row (h : Sep w0 w l) (i : Nat) {b el : Nat} {cs : List Value} {l' : List Res} (n sz : Nat) (hi : l[i]? = some (cellsR b el cs)) (hl : cs.length = n * sz) (hn : n ≤ maxLen) (he : l.set i (ownR (some ⟨b, 0, none⟩) n n el sz cs) = l') : Sep w0 w l' :=
  h.repl (R' := ownR (some ⟨b, 0, none⟩) n n el sz cs) i hi (fun S hS => ⟨fun x hx => by cases hx; exact hS.1, Own.ofAt hS.2 hl hn⟩) he

theorem Sep.srcC (h : Sep w0 w l) (i : Nat) {b el : Nat} {cs : List Value} (n sz : Nat) (hi : l[i]? = some (cellsR b el cs)) (hl : cs.length = n * sz) (hn : n ≤ maxLen) : Src w (some ⟨b, 0, none⟩) n sz cs :=
  (Own.ofAt (h.cells i hi) hl hn).src
theorem Sep.src (h : Sep w0 w l) (i : Nat) {a : Option Addr} {n cap el sz : Nat} {xs : List Value} (hi : l[i]? = some (ownR a n cap el sz xs)) : Src w a n sz xs := (h.own i hi).src

/-- What becomes of a row to which something is appended. -/
theorem Sep.grow (h : Sep w0 w l) (i : Nat) {a a' : Option Addr} {n cap n' cap' el sz : Nat} {xs xs' : List Value} {l' : List Res} (hi : l[i]? = some (ownR a n cap el sz xs)) (ho : Own w' a' n' cap' el sz xs') (hf : Fr (Blk a) w w')
    (ha : a' = a ∨ ∃ b, a' = some ⟨b, 0, none⟩ ∧ w.heap.size ≤ b) (hl : l.set i (ownR a' n' cap' el sz xs') = l') : Sep w0 w' l' := by
  obtain ⟨S1, h1, h2, h3⟩ := h.part hi
  refine hl ▸ h3 w' _ (fun x => S1 x ∨ w.heap.size ≤ x) (hf.mono fun x _ hx => h1.1 x hx) ⟨fun x hx => ?_, ho⟩ fun x hx => hx
  rcases ha with rfl | ⟨b, rfl, hb⟩
  · exact .inl (h1.1 x hx)
  · cases hx; exact .inr hb

theorem append_sep {P : Program} {T : Tab} (hT : TabOk P T) {t el sz B ty : Nat} {z : Value} {a : Option Addr} {n cap : Nat} {xs : List Value} (h : Sep w0 w l) (hd : T.d t = some (.slice el)) (hs : T.s el = some sz) (hb : T.b el = some B) (hz : T.z el = some z)
    (hzs : z.cells.size = sz) (h0 : 0 < sz) (hm : ownR a n cap el sz xs ∈ l) {src : Option Addr} {m mc : Nat} {ys : List Value}
    (hsrc : Src w src m sz ys) (h1 : ∀ u ∈ ys, oneCell u = true) (hbound : (n + m) * B ≤ 140737488355328) (hmax : n + m ≤ maxLen) {n' : Nat} {xs' : List Value} (hn : n + m = n') (hx : xs ++ ys = xs')
    {cb : Array Bool} {K : Value → World → Prop}
    (hk : ∀ a' cap' w', SepU w0 w' l (ownR a n cap el sz xs) (ownR a' n' cap' el sz xs') → K (.slice a' n' cap') w') :
    DoN P (builtin .append #[t, t] ty cb #[.slice a n cap, .slice src m mc]) w K := by
  subst hn hx
  obtain ⟨r, hp⟩ := mem_cut hm
  exact append_own hT hd hs hb hz hzs h0 (h.ownM hm) hsrc h1 hbound hmax fun a' cap' w' ho hf ha => hk a' cap' w' (SepU.mk hp ((h.perm hp).grow 0 rfl ho hf ha rfl))

/-- One more, out of the row of the arguments, which is at the head and goes. -/
theorem append_one {P : Program} {T : Tab} (hT : TabOk P T) {t el sz B ty b : Nat} {z : Value} {ys : List Value} {a : Option Addr} {n cap : Nat} {xs : List Value} (h : Sep w0 w (cellsR b el ys :: l))
    (hd : T.d t = some (.slice el)) (hs : T.s el = some sz) (hb : T.b el = some B) (hz : T.z el = some z)
    (hzs : z.cells.size = sz) (h0 : 0 < sz) (hm : ownR a n cap el sz xs ∈ l) {m mc : Nat} (hl : ys.length = m * sz)
    (h1 : ∀ u ∈ ys, oneCell u = true) (hbound : (n + m) * B ≤ 140737488355328) (hmax : n + m ≤ maxLen) {cb : Array Bool} {K : Value → World → Prop}
    (hk : ∀ a' cap' w', SepU w0 w' l (ownR a n cap el sz xs) (ownR a' (n + m) cap' el sz (xs ++ ys)) → K (.slice a' (n + m) cap') w') :
    DoN P (builtin .append #[t, t] ty cb #[.slice a n cap, .slice (some ⟨b, 0, none⟩) m mc]) w K :=
  append_sep hT h hd hs hb hz hzs h0 (List.Mem.tail _ hm) (h.srcC 0 m sz rfl hl (by omega)) h1 hbound hmax rfl rfl fun a' cap' w' H => hk a' cap' w' fun l' hu => (H _ (Upd.tail hu)).tail

/-- The first ones, out of a row, into an empty row. -/
theorem append_new {P : Program} {T : Tab} (hT : TabOk P T) {t el sz B ty b : Nat} {z : Value} (h : Sep w0 w l) (hd : T.d t = some (.slice el)) (hs : T.s el = some sz) (hb : T.b el = some B) (hz : T.z el = some z)
    (hzs : z.cells.size = sz) (h0 : 0 < sz) (hm : cellsR b el [] ∈ l) {src : Option Addr} {m mc : Nat} {ys : List Value}
    (hsrc : Src w src m sz ys) (h1 : ∀ u ∈ ys, oneCell u = true) (hbound : m * B ≤ 140737488355328) (hmax : m ≤ maxLen)
    {cb : Array Bool} {K : Value → World → Prop}
    (hk : ∀ a' cap' w', SepU w0 w' l (cellsR b el []) (ownR a' m cap' el sz ys) → K (.slice a' m cap') w') :
    DoN P (builtin .append #[t, t] ty cb #[.slice (some ⟨b, 0, none⟩) 0 0, .slice src m mc]) w K := by
  obtain ⟨r, hp⟩ := mem_cut hm
  have h2 : Sep w0 w (ownR (some ⟨b, 0, none⟩) 0 0 el sz [] :: r) := (h.perm hp).row 0 0 sz rfl (by simp) (by unfold maxLen; omega) rfl
  exact append_sep hT h2 hd hs hb hz hzs h0 (List.Mem.head _) hsrc h1 (by rw [Nat.zero_add]; exact hbound) (by omega) (Nat.zero_add m) (List.nil_append ys) fun a' cap' w' H => hk a' cap' w' (SepU.mk hp (H _ Upd.head))

theorem Own.nilR (h : Sep w0 w l) (el sz : Nat) : Sep w0 w (ownR none 0 0 el sz [] :: l) :=
  h.cons (S1 := fun _ => False) (Fr.refl _ _) ⟨fun x hx => (by cases hx), Own.nil w el sz⟩ fun _ h => h.elim

theorem make_sep {P : Program} {T : Tab} (hT : TabOk P T) {t el sz B : Nat} {z : Value} (h : Sep w0 w l) (hd : T.d t = some (.slice el)) (hs : T.s el = some sz) (hb : T.b el = some B) (hz : T.z el = some z)
    (hzs : z.cells.size = sz) (h0 : 0 < sz) {kl kc : IntKind} {x y : Int} (n c : Nat) (hx : x = n) (hy : y = c) (hlc : n ≤ c) (hB : B * c ≤ 281474976710656) (hm : c ≤ maxLen) {K : Value → World → Prop}
    (hk : ∀ b w', Sep w0 w' (ownR (some ⟨b, 0, none⟩) n c el sz (zcells z.cells.toList n) :: l) → K (.slice (some ⟨b, 0, none⟩) n c) w') :
    Do P (Instr.makeSlice t (.int kl x) (.int kc y)) w K :=
  Do_make hT hd hs hb hz hzs h0 n c hx hy hlc hB hm fun b w' e ho f s => hk b w' (h.cons (S1 := fun x => x = b) f ⟨fun x hx => by cases hx; rfl, ho⟩ fun x hx => by omega)
end

/-! Equality of truth values, in a region that draws its order. -/
theorem ne_bool_run {P : Program} {T : Tab} (hT : TabOk P T) {t : TypeId} {xo yo : Operand} {a b : Bool} (hd : T.d t = some .bool) (w : World) :
    (do eqGuard .neq t xo yo (.bool a) (.bool b); binOp .neq t (.bool a) (.bool b) : Sem Value).run P w = .ok (.bool !(a == b)) w := by
  have h1 : eqGuard .neq t xo yo (.bool a) (.bool b) = pure () := by simp [eqGuard]
  have h2 : binOp .neq t (.bool a) (.bool b) = (do pure (.bool (!(← Op.equal t (.bool a) (.bool b))))) := rfl
  have h3 : (Op.equal t (.bool a) (.bool b)).run P w = .ok (a == b) w := eqIn_bool hT hd 9999
  rw [h1, h2]; simp [h3]
theorem eq_bool_run {P : Program} {T : Tab} (hT : TabOk P T) {t : TypeId} {xo yo : Operand} {a b : Bool} (hd : T.d t = some .bool) (w : World) :
    (do eqGuard .eql t xo yo (.bool a) (.bool b); binOp .eql t (.bool a) (.bool b) : Sem Value).run P w = .ok (.bool (a == b)) w := by
  have h1 : eqGuard .eql t xo yo (.bool a) (.bool b) = pure () := by simp [eqGuard]
  have h2 : binOp .eql t (.bool a) (.bool b) = (do pure (.bool (← Op.equal t (.bool a) (.bool b)))) := rfl
  have h3 : (Op.equal t (.bool a) (.bool b)).run P w = .ok (a == b) w := eqIn_bool hT hd 9999
  rw [h1, h2]; simp [h3]
theorem DoS_bool_ne {P : Program} {T : Tab} (hT : TabOk P T) {t : TypeId} {xo yo : Operand} {a b : Bool} {w : World} {K : Value → Option (World → Prop) → Prop} (hd : T.d t = some .bool)
    (hk : ∀ J : World → Prop, (∀ w, J w) → K (.bool !(a == b)) (some J)) : DoS P (do eqGuard .neq t xo yo (.bool a) (.bool b); binOp .neq t (.bool a) (.bool b)) w K :=
  ⟨_, ne_bool_run hT hd w, hk _ fun w => ne_bool_run hT hd w⟩
theorem DoS_bool_eq {P : Program} {T : Tab} (hT : TabOk P T) {t : TypeId} {xo yo : Operand} {a b : Bool} {w : World} {K : Value → Option (World → Prop) → Prop} (hd : T.d t = some .bool)
    (hk : ∀ J : World → Prop, (∀ w, J w) → K (.bool (a == b)) (some J)) : DoS P (do eqGuard .eql t xo yo (.bool a) (.bool b); binOp .eql t (.bool a) (.bool b)) w K :=
  ⟨_, eq_bool_run hT hd w, hk _ fun w => eq_bool_run hT hd w⟩

/-! What lies in an interface value. -/
def notIface : TypeDesc → Bool
  | .interface _ => false
  | _ => true
theorem Do_assert {P : Program} {T : Tab} (hT : TabOk P T) {t xt : TypeId} {d : TypeDesc} {v : Value} {w : World} {K : Value → World → Prop} (hd : T.d t = some d) (hn : notIface d = true) (hk : K v w) : Do P (Instr.typeAssert (.iface t v) xt t false) w K := by
  refine ⟨v, w, ?_, hk⟩
  cases d <;> first | (cases hn; done) | simp [Instr.typeAssert, hT.und hd]
theorem Do_assert_ok {P : Program} {T : Tab} (hT : TabOk P T) {t xt : TypeId} {d : TypeDesc} {v : Value} {w : World} {K : Value → World → Prop} (hd : T.d t = some d) (hn : notIface d = true) (hk : K (.tuple #[v, .bool true]) w) : Do P (Instr.typeAssert (.iface t v) xt t true) w K := by
  refine ⟨_, w, ?_, hk⟩
  cases d <;> first | (cases hn; done) | simp [Instr.typeAssert, hT.und hd]

/-! A call by an interface value whose dynamic type is a pointer. -/
theorem callMethod_ptr {P : Program} {T el f : Nat} {info : TypeInfo} {name : String} {v : Value} {args : Array Value} {w : World} (hi : (typeInfo T).run P w = .ok info w)
    (hm : (info.methods.find? (·.name == name)).map (fun m => (m.path.size, m.func)) = some (0, some (f, true))) (ht : P.underlying T = some (.pointer el)) :
    (callMethod (.iface T v) name args).run P w = (callFunc f (#[v] ++ args)).run P w := by
  cases hf : info.methods.find? (·.name == name) with
  | none => rw [hf] at hm; cases hm
  | some m =>
    rw [hf] at hm
    simp only [Option.map_some, Option.some.injEq, Prod.mk.injEq] at hm
    have hp' : m.path.toList = [] := List.length_eq_zero_iff.1 (by rw [Array.length_toList]; exact hm.1)
    have key : ∀ n, (method (n + 1) T v name).run P w = .ok (f, v) w := by
      intro n
      rw [method]
      simp only [Sem.run_bind, hi, Result.andThen_ok, hf, hp', follow, hm.2, Sem.run_pure, receiverAt, run_underlying ht, Place.get]
    simp only [callMethod, Sem.run_bind, run_program, Result.andThen_ok]
    have : (method (P.types.size + Made.depth) T v name).run P w = .ok (f, v) w := key (P.types.size + 99)
    rw [this]; rfl

theorem DoN_method {P : Program} {recv : Value} {name : String} {args args' : Array Value} {f : FuncId} {w : World} {K R : Value → World → Prop} (hc : (callMethod recv name args).run P w = (callFunc f args').run P w) (h : Does P f args' w R) (hk : ∀ v w', R v w' → K v w') :
    DoN P (callMethod recv name args) w K :=
  ⟨.inr ⟨f, args', w, hc.trans h.1, h.2.mono fun _ _ ⟨v, he, hr⟩ => ⟨v, he, hk _ _ hr⟩⟩⟩

/-! A part for each of a list -/
def bigL {α : Type} (f : Nat → α → Res) : Nat → List α → List Res
  | _, [] => []
  | k, x :: xs => f k x :: bigL f (k + 1) xs

theorem bigL_get {α : Type} {f : Nat → α → Res} : ∀ {xs : List α} {k i : Nat}, (bigL f k xs)[i]? = (xs[i]?).map (f (k + i))
  | [], k, i => by simp [bigL]
  | x :: xs, k, 0 => by simp [bigL]
  | x :: xs, k, i + 1 => by
    simp only [bigL, List.getElem?_cons_succ]
    rw [bigL_get]; congr 2; omega

theorem bigL_set {α : Type} {f : Nat → α → Res} : ∀ {xs : List α} {k i : Nat} {y : α}, (bigL f k xs).set i (f (k + i) y) = bigL f k (xs.set i y)
  | [], k, i, y => by simp [bigL]
  | x :: xs, k, 0, y => by simp [bigL]
  | x :: xs, k, i + 1, y => by
    simp only [bigL, List.set_cons_succ]
    rw [← bigL_set (k := k + 1)]; congr 3; omega

theorem bigL_app {α : Type} {f : Nat → α → Res} : ∀ {xs ys : List α} {k : Nat}, bigL f k (xs ++ ys) = bigL f k xs ++ bigL f (k + xs.length) ys
  | [], ys, k => by simp [bigL]
  | x :: xs, ys, k => by
    simp only [bigL, List.cons_append, List.length_cons]
    rw [bigL_app]; congr 3; omega

def bigR {α : Type} (f : Nat → α → Res) (xs : List α) : Res := sepR (bigL f 0 xs)
/-- All but one. -/
def holeR {α : Type} (f : Nat → α → Res) (xs : List α) (i : Nat) : Res := sepR ((bigL f 0 xs).eraseIdx i)

theorem Sep.pick {α : Type} {f : Nat → α → Res} {xs : List α} {w0 w : World} {l : List Res} (h : Sep w0 w (bigR f xs :: l)) {i : Nat} {x : α} (hx : xs[i]? = some x) : Sep w0 w (f i x :: holeR f xs i :: l) := by
  have h1 := h.flat
  have hlt : i < (bigL f 0 xs).length := by
    have : (bigL f 0 xs)[i]? = some (f i x) := by rw [bigL_get, hx, Nat.zero_add]; rfl
    rcases Nat.lt_or_ge i (bigL f 0 xs).length with h | h
    · exact h
    · rw [List.getElem?_eq_none h] at this; cases this
  have h2 := h1.top i (R := f i x) (by rw [List.getElem?_append_left hlt, bigL_get, hx, Nat.zero_add]; rfl) rfl
  rw [List.eraseIdx_append_of_lt_length hlt] at h2
  exact Sep.flat (l := [f i x]) (by
    obtain ⟨b, S1, k1, k2, k3⟩ := h2
    have h3 : Sep w0 w (((bigL f 0 xs).eraseIdx i ++ l) ++ []) → True := fun _ => trivial
    exact Sep.app (l := [f i x]) (l' := holeR f xs i :: l) ⟨b, S1, k1, k2, by
      obtain ⟨S2, m1, m2, m3⟩ := SepL.app k3
      exact ⟨S2, m1, m2, m3⟩⟩)

theorem SepL.unpick {α : Type} {f : Nat → α → Res} : ∀ {l : List Res} {i : Nat} {R : Res} {w : World} {S : Nat → Prop}, i < l.length → SepL (R :: l.eraseIdx i) w S → SepL (l.set i R) w S
  | [], _, _, _, _, h, _ => by simp at h
  | R0 :: l, 0, R, w, S, _, h => h
  | R0 :: l, i + 1, R, w, S, hlt, ⟨S1, h1, h2, S0, k1, k2, k3⟩ => by
    refine ⟨S0, fun x hx => (k1 x hx).1, k2, SepL.unpick (f := f) (by simpa using hlt) ⟨S1, fun x hx => ⟨h1 x hx, fun h => (k1 x h).2 hx⟩, h2, k3.mono fun x hx => ⟨⟨hx.1.1, hx.2⟩, hx.1.2⟩⟩⟩

theorem Sep.put {α : Type} {f : Nat → α → Res} {xs : List α} {w0 w : World} {l : List Res} {i : Nat} {y : α} (hi : i < xs.length) (h : Sep w0 w (f i y :: holeR f xs i :: l)) : Sep w0 w (bigR f (xs.set i y) :: l) := by
  have hlen : (bigL f 0 xs).length = xs.length := by
    have : ∀ (xs : List α) k, (bigL f k xs).length = xs.length := by
      intro xs
      induction xs with
      | nil => intro k; rfl
      | cons x xs ih => intro k; simp [bigL, ih]
    exact this _ _
  obtain ⟨b, S1, k1, k2, S2, m1, m2, m3⟩ := h
  refine ⟨b, fun x => S1 x ∨ S2 x, ?_, ?_, m3.mono fun x hx => ⟨hx.1.1, fun h => h.elim hx.1.2 hx.2⟩⟩
  · rintro x (hx | hx)
    · exact k1 x hx
    · exact (m1 x hx).1
  · have e := bigL_set (f := f) (xs := xs) (k := 0) (i := i) (y := y)
    rw [Nat.zero_add] at e
    show SepL (bigL f 0 (xs.set i y)) w _
    rw [← e]
    exact SepL.unpick (f := f) (by omega) ⟨S1, fun x hx => .inl hx, k2, m2.mono fun x hx => ⟨.inr hx, (m1 x hx).2⟩⟩

theorem Sep.big_snoc {α : Type} {f : Nat → α → Res} {xs : List α} {w0 w : World} {l : List Res} {y : α} (h : Sep w0 w (f xs.length y :: bigR f xs :: l)) : Sep w0 w (bigR f (xs ++ [y]) :: l) := by
  obtain ⟨b, S1, k1, k2, S2, m1, m2, m3⟩ := h
  refine ⟨b, fun x => S1 x ∨ S2 x, ?_, ?_, m3.mono fun x hx => ⟨hx.1.1, fun h => h.elim hx.1.2 hx.2⟩⟩
  · rintro x (hx | hx)
    · exact k1 x hx
    · exact (m1 x hx).1
  · show SepL (bigL f 0 (xs ++ [y])) w _
    rw [bigL_app, Nat.zero_add]
    exact SepL.join (S1 := S2) (fun x hx => .inr hx) m2 ⟨S1, fun x hx => ⟨.inl hx, fun h => (m1 x h).2 hx⟩, k2, trivial⟩

theorem Sep.big_nil {α : Type} {f : Nat → α → Res} {w0 w : World} {l : List Res} (h : Sep w0 w l) : Sep w0 w (bigR f [] :: l) := Sep.app (l := []) h

/-! Rows of structs: a list, element by element. -/
section
variable {α : Type} {f : α → List Value} {sz : Nat}
theorem rowLen (hf : ∀ x, (f x).length = sz) : ∀ E : List α, (E.flatMap f).length = E.length * sz
  | [] => by simp
  | x :: E => by rw [List.flatMap_cons, List.length_append, hf, rowLen hf E, List.length_cons, Nat.succ_mul]; omega
theorem rowGet (hf : ∀ x, (f x).length = sz) : ∀ {E : List α} {i r : Nat} {x : α}, E[i]? = some x → r < sz → (E.flatMap f)[i * sz + r]? = (f x)[r]?
  | [], i, r, x, h, _ => by simp at h
  | y :: E, 0, r, x, h, hr => by
    simp at h; subst h
    rw [List.flatMap_cons, Nat.zero_mul, Nat.zero_add, List.getElem?_append_left (by rw [hf]; exact hr)]
  | y :: E, i + 1, r, x, h, hr => by
    rw [List.flatMap_cons, Nat.succ_mul, List.getElem?_append_right (by rw [hf]; omega), hf, show i * sz + sz + r - sz = i * sz + r by omega]
    exact rowGet hf (by simpa using h) hr
theorem rowPart (hf : ∀ x, (f x).length = sz) : ∀ {E : List α} {i : Nat} {x : α}, E[i]? = some x → ((E.flatMap f).drop (i * sz)).take sz = f x
  | [], i, x, h => by simp at h
  | y :: E, 0, x, h => by
    simp at h; subst h
    rw [List.flatMap_cons, Nat.zero_mul, List.drop_zero, List.take_append_of_le_length (by rw [hf]; omega), ← hf y, List.take_length]
  | y :: E, i + 1, x, h => by
    rw [List.flatMap_cons, Nat.succ_mul, Nat.add_comm (i * sz) sz, ← hf y, List.drop_length_add_append, hf y]
    exact rowPart hf (by simpa using h)
theorem rowSet (hf : ∀ x, (f x).length = sz) : ∀ {E : List α} {i : Nat} {y : α}, i < E.length → (E.flatMap f).take (i * sz) ++ f y ++ (E.flatMap f).drop (i * sz + (f y).length) = (E.set i y).flatMap f
  | [], i, y, h => by simp at h
  | x :: E, 0, y, h => by
    rw [List.set_cons_zero, List.flatMap_cons, List.flatMap_cons, Nat.zero_mul, List.take_zero, List.nil_append, Nat.zero_add, hf y, ← hf x, List.drop_left]
  | x :: E, i + 1, y, h => by
    have := rowSet hf (E := E) (i := i) (y := y) (by simpa using h)
    rw [List.set_cons_succ, List.flatMap_cons, List.flatMap_cons, ← this, Nat.succ_mul, Nat.add_comm (i * sz) sz, ← hf x, List.take_length_add_append, Nat.add_assoc, List.drop_length_add_append]
    simp only [List.append_assoc]
theorem rowOnes {E : List α} (hf : ∀ x, ∀ u ∈ f x, oneCell u = true) : ∀ u ∈ E.flatMap f, oneCell u = true := by
  intro u hu
  obtain ⟨x, _, hx⟩ := List.mem_flatMap.1 hu
  exact hf x u hx
theorem rowAdd {E : List α} {x : α} : E.flatMap f ++ f x = (E ++ [x]).flatMap f := by simp
end

/-! Short forms, for walks: what is left out is found (the hypothesis 'H' among it). -/
theorem beqT {x y : Int} (h : x = y) : (x == y) = true := by simpa using h
theorem beqF {x y : Int} (h : x ≠ y) : (x == y) = false := by simpa using h
theorem bneT {x y : Int} (h : x ≠ y) : (x != y) = true := by simpa using h
theorem bneF {x y : Int} (h : x = y) : (x != y) = false := by simpa using h
theorem xB {b : Bool} {A B : Prop} (h : A) (hb : b = true := by first | with_reducible rfl | with_reducible exact decide_eq_true (by omega) | with_reducible exact beqT rfl | with_reducible exact beqT (by omega) | with_reducible exact bneT (by omega)) : Br b A B := Br_yes hb h
theorem xC {b : Bool} {A B : Prop} (h : B) (hb : b = false := by first | with_reducible rfl | with_reducible exact decide_eq_false (by omega) | with_reducible exact bneF rfl | with_reducible exact beqF (by omega) | with_reducible exact bneF (by omega)) : Br b A B := Br_no hb h
theorem xA {k : IntKind} {n : Int} {K : Int → Prop} (h : K n) (hk : k.wrap n = n := by first | exact wrap_i64 (by omega) (by omega) | exact wrap_i32 (by omega) (by omega) | exact wrap_u64 (by omega) (by omega) | exact wrap_u32 (by omega) (by omega) | exact wrap_u8 (by omega) (by omega)) : Ar k n K := ⟨by rw [hk]; exact h⟩
theorem xI {n : Int} {A : Prop} (h : A) (hn : 0 ≤ n := by omega) : Nn n A := ⟨hn, h⟩
theorem xZ {n : Int} {A : Prop} (h : A) (hn : n ≠ 0 := by omega) : Nz n A := ⟨hn, h⟩
theorem xL {w0 w : World} {l : List Res} {b j t : Nat} {cs : List Value} {v : Value} {K : Value → Prop} (hk : K v) (h : Sep w0 w l := by exact H) (hm : cellsR b t cs ∈ l := by repeat first | exact List.Mem.head _ | refine List.Mem.tail _ ?_) (hv : cs[j]? = some v := by rfl) : Ld w ⟨b, j, none⟩ K := Ld_m h hm hv hk
theorem xM {w0 w : World} {l : List Res} {b n t : Nat} {cs : List Value} {K : List Value → Prop} (hk : K cs) (h : Sep w0 w l := by exact H) (hm : cellsR b t cs ∈ l := by repeat first | exact List.Mem.head _ | refine List.Mem.tail _ ?_) (hl : cs.length = n := by rfl) : LdN w ⟨b, 0, none⟩ n K := LdN_m h hm hl hk
theorem xS {w0 w : World} {l l' : List Res} {b j t : Nat} {cs cs' : List Value} {v : Value} {K : World → Prop} (hk : ∀ w', Sep w0 w' l' → K w') (h : Sep w0 w l := by exact H) (u : Upd (cellsR b t cs) (cellsR b t cs') l l' := by repeat first | exact Upd.head | apply Upd.tail) (hv : oneCell v = true := by rfl) (hj : j < cs.length := by simp)
    (hc : cs.set j v = cs' := by simp only [List.set_cons_succ, List.set_cons_zero, Nat.zero_add, Nat.add_zero]; rfl) : St w ⟨b, j, none⟩ v K := St_u h u hv hj hc hk
theorem xN {w0 w : World} {l l' : List Res} {b t : Nat} {cs vs : List Value} {K : World → Prop} (hk : ∀ w', Sep w0 w' l' → K w') (h : Sep w0 w l := by exact H) (u : Upd (cellsR b t cs) (cellsR b t vs) l l' := by repeat first | exact Upd.head | apply Upd.tail) (hv : ∀ v ∈ vs, oneCell v = true := by simp [oneCell]) (hj : vs.length = cs.length := by rfl) : StN w ⟨b, 0, none⟩ vs K := StN_u h u hv hj hk
theorem xK {J A : Prop} (hk : A) (hj : J := by first | exact Sep.cellAt H (by repeat first | exact List.Mem.head _ | refine List.Mem.tail _ ?_) (by rfl) | exact Sep.cellN H (by repeat first | exact List.Mem.head _ | refine List.Mem.tail _ ?_)) : Kept J A := ⟨hj, hk⟩
theorem xP {P : Program} {T : Tab} {t el : TypeId} {xo yo : Operand} {a : Addr} {w : World} {K : Value → World → Prop} (hk : K (.bool false) w) (hT : TabOk P T := by exact tok) (hd : T.d t = some (.pointer el) := by rfl) : Do P (do eqGuard .eql t xo yo (.pointer (some a)) (.pointer none); binOp .eql t (.pointer (some a)) (.pointer none)) w K := Do_ptr_eq_nil hT hd hk
theorem xQ {P : Program} {T : Tab} {t el : TypeId} {xo yo : Operand} {a : Addr} {w : World} {K : Value → World → Prop} (hk : K (.bool true) w) (hT : TabOk P T := by exact tok) (hd : T.d t = some (.pointer el) := by rfl) : Do P (do eqGuard .neq t xo yo (.pointer (some a)) (.pointer none); binOp .neq t (.pointer (some a)) (.pointer none)) w K := Do_ptr_ne_nil hT hd hk
theorem xR {P : Program} {T : Tab} {t el : TypeId} {xo yo : Operand} {w : World} {K : Value → World → Prop} (hk : K (.bool true) w) (hT : TabOk P T := by exact tok) (hd : T.d t = some (.pointer el) := by rfl) : Do P (do eqGuard .eql t xo yo (.pointer none) (.pointer none); binOp .eql t (.pointer none) (.pointer none)) w K := Do_nil_eq_nil hT hd hk

structure Hide (p : Prop) : Prop where
  out : p
/-- As many steps as are decided, of those that bring nothing new. -/
theorem go {G G' : Prop} (h : G') (hs : Hide G' → G := by intro hG; repeat1' ((try conv => whnf); first | refine Join_dup ?_ | (refine Br_gate ?_; first | with_reducible refine Br_not ?_ | refine xB ?_ | refine xC ?_) | (refine Ld_gate ?_; refine xL ?_) | (refine LdN_gate ?_; refine xM ?_) | (refine Kept_gate ?_; refine xK ?_) | (refine Ar_gate ?_; refine xA ?_) | refine Eqv_in ?_ | refine Do_ptr_eq_nil tok rfl ?_ | refine Do_ptr_ne_nil tok rfl ?_ | refine Do_nil_eq_nil tok rfl ?_ | refine Nn_in (by omega) ?_ | refine Nz_in (by omega) ?_); exact hG.out) : G := hs ⟨h⟩
/-- The same, but for numbers. -/
theorem goN {G G' : Prop} (h : G') (hs : Hide G' → G := by intro hG; repeat1' ((try conv => whnf); first | refine Join_dup ?_ | (refine Br_gate ?_; first | with_reducible refine Br_not ?_ | refine xB ?_ | refine xC ?_) | (refine Ld_gate ?_; refine xL ?_) | (refine LdN_gate ?_; refine xM ?_) | (refine Kept_gate ?_; refine xK ?_) | refine Do_ptr_eq_nil tok rfl ?_ | refine Do_ptr_ne_nil tok rfl ?_ | refine Do_nil_eq_nil tok rfl ?_ | refine Nn_in (by omega) ?_ | refine Nz_in (by omega) ?_); exact hG.out) : G := hs ⟨h⟩
/-- A part is there. -/
theorem mm {α : Type _} {x : α} {l : List α} (h : x ∈ l := by repeat first | exact List.Mem.head _ | refine List.Mem.tail _ ?_) : x ∈ l := h
theorem Sep.tp {w0 w : World} {l l' : List Res} {R : Res} (h : Sep w0 w l) (i : Nat) (hi : l[i]? = some R := by rfl) (hl : l.eraseIdx i = l' := by simp only [List.eraseIdx_cons_succ, List.eraseIdx_cons_zero]; rfl) : Sep w0 w (R :: l') := h.top i hi hl

end Go.Vc
