/- Models, in plain words, and as they lie in memory. -/
import Derived.Test.YthpekiohalejmaaGreatDoorTreeB
set_option linter.unusedVariables false
set_option linter.unusedSimpArgs false
namespace Go.Tree
structure En where
  name : ByteArray
  a : Option Addr
  c : Nat
  line : Int
  col : Int
  vals : List ByteArray
structure De where
  name : ByteArray
  typ : ByteArray
  lo : Int
  hi : Int
  a : Option Addr
  c : Nat
  line : Int
  col : Int
  begins : List Ex
structure As where
  name : ByteArray
  to : Ex
  line : Int
  col : Int
structure Ru where
  when_ : Ex
  a : Option Addr
  c : Nat
  acts : List As
structure Pr where
  name : ByteArray
  a : Option Addr
  c : Nat
  line : Int
  col : Int
  rules : List Ru
structure So where
  ea : Option Addr
  ec : Nat
  va : Option Addr
  vc : Nat
  pa : Option Addr
  pc : Nat
  enums : List En
  vars : List De
  procs : List Pr
def manyB (n k : Nat) : Bool := decide (k ≤ n) && decide (n ≤ 32)
def enB (e : En) : Bool := nameB e.name && manyB e.vals.length 1 && e.vals.all nameB
def boolS : ByteArray := str [98, 111, 111, 108]
def endsB (d : De) : Bool := if d.typ = str [] then decide (-1000000 ≤ d.lo) && decide (-1000000 ≤ d.hi) && decide (d.lo ≤ 1000000) && decide (d.hi ≤ 1000000) else decide (d.lo = 0) && decide (d.hi = 0) && (decide (d.typ = boolS) || nameB d.typ)
def deB (d : De) : Bool := endsB d && nameB d.name && decide (d.begins.length ≤ 1) && d.begins.all writB
def asB (a : As) : Bool := nameB a.name && writB a.to
def ruB (r : Ru) : Bool := writB r.when_ && manyB r.acts.length 1 && r.acts.all asB
def prB (p : Pr) : Bool := nameB p.name && manyB p.rules.length 0 && p.rules.all ruB
def soB (m : So) : Bool := manyB m.enums.length 0 && manyB m.vars.length 0 && manyB m.procs.length 0 && m.enums.all enB && m.vars.all deB && m.procs.all prB
section
variable (tx : Ex → ByteArray) (itoa : Int → ByteArray)
def enT (e : En) : ByteArray := str [101, 110, 117, 109, 32] ++ e.name ++ str [32, 123, 32] ++ joinS e.vals ++ str [32, 125, 10]
def deH (d : De) : ByteArray := str [118, 97, 114, 32] ++ d.name ++ str [32, 58, 32]
def deE (d : De) : ByteArray := if d.typ = str [] then deH d ++ (itoa d.lo ++ str [46, 46] ++ itoa d.hi) else deH d
def deX : List Ex → ByteArray → ByteArray
  | [], s => s
  | x :: l, s => deX l (s ++ (str [32, 61, 32] ++ tx x))
def deT (d : De) : ByteArray := deX tx d.begins (deE itoa d ++ d.typ) ++ str [59, 10]
def asT (a : As) : ByteArray := a.name ++ str [32, 58, 61, 32] ++ tx a.to
def ruT (r : Ru) : ByteArray := str [32, 32, 119, 104, 101, 110, 32] ++ tx r.when_ ++ str [32, 100, 111, 32] ++ joinS (r.acts.map (asT tx)) ++ str [59, 10]
def prH (p : Pr) : ByteArray := str [112, 114, 111, 99, 101, 115, 115, 32] ++ p.name ++ str [32, 123, 10]
def bL (s : ByteArray) : List UInt8 := s.data.toList
def prL (p : Pr) : List UInt8 := bL (prH p) ++ p.rules.flatMap (fun r => bL (ruT tx r)) ++ [125, 10]
def soL (m : So) : List UInt8 := m.enums.flatMap (fun e => bL (enT e)) ++ m.vars.flatMap (fun d => bL (deT tx itoa d)) ++ m.procs.flatMap (prL tx)
end
/-! How much they hold -/
def enK (e : En) : Nat := 5 + e.name.size + (e.vals.map fun v => v.size + 1).sum
def deK (d : De) : Nat := 8 + d.name.size + d.typ.size + (d.begins.map bulk).sum
def asK (a : As) : Nat := 4 + a.name.size + bulk a.to
def ruK (r : Ru) : Nat := 2 + bulk r.when_ + (r.acts.map asK).sum
def prK (p : Pr) : Nat := 5 + p.name.size + (p.rules.map ruK).sum
def soK (m : So) : Nat := 4 + (m.enums.map enK).sum + (m.vars.map deK).sum + (m.procs.map prK).sum
section
variable {α β : Type} {f : α → List β} {g : α → Nat}
theorem sum_mem {l : List α} {x : α} (h : x ∈ l) : g x ≤ (l.map g).sum := by
  induction l with
  | nil => cases h
  | cons y l ih =>
    simp only [List.map_cons, List.sum_cons]
    rcases List.mem_cons.1 h with rfl | h
    · omega
    · have := ih h; omega
theorem sum_len {l : List α} (h : ∀ x, 1 ≤ g x) : l.length ≤ (l.map g).sum := by
  induction l with
  | nil => exact Nat.le_refl _
  | cons y l ih => have := h y; simp only [List.map_cons, List.sum_cons, List.length_cons]; omega
theorem flat_next {l : List α} {i : Nat} {x : α} (h : l[i]? = some x) : (l.take (i + 1)).flatMap f = (l.take i).flatMap f ++ f x := by
  rw [List.take_add_one, h, List.flatMap_append]
  simp
theorem flat_take_le (l : List α) (i : Nat) : ((l.take i).flatMap f).length ≤ (l.flatMap f).length := by
  conv => rhs; rw [← List.take_append_drop i l, List.flatMap_append, List.length_append]
  omega
theorem flat_len {l : List α} {k : Nat} (h : ∀ x ∈ l, (f x).length ≤ k * g x) : (l.flatMap f).length ≤ k * (l.map g).sum := by
  induction l with
  | nil => simp
  | cons y l ih =>
    have h1 := h y (.head _)
    have h2 := ih fun x hx => h x (.tail _ hx)
    simp only [List.flatMap_cons, List.map_cons, List.sum_cons, List.length_append, Nat.mul_add]
    omega
end
theorem bL_len (s : ByteArray) : (bL s).length = s.size := rfl
theorem join_len (l : List (List UInt8)) (s : List UInt8) : (Lib.join l s).length ≤ (l.map fun x => x.length + s.length).sum := by
  induction l with
  | nil => simp [Lib.join]
  | cons x l ih =>
    cases l with
    | nil => simp [Lib.join]
    | cons y l =>
      have : Lib.join (x :: y :: l) s = x ++ s ++ Lib.join (y :: l) s := by simp [Lib.join]
      rw [this, List.length_append, List.length_append, List.map_cons, List.sum_cons]
      omega
theorem joinS_size (l : List ByteArray) : (joinS l).size ≤ (l.map fun s => s.size + 2).sum := by
  have := join_len (l.map (·.data.toList)) [44, 32]
  rw [List.map_map] at this
  have e : (joinS l).size = (Lib.join (l.map (·.data.toList)) [44, 32]).length := by simp [joinS, ByteArray.size]
  rw [e]
  exact this
theorem sum_mul {α : Type} {g h : α → Nat} {k : Nat} {l : List α} (hg : ∀ x ∈ l, g x ≤ k * h x) : (l.map g).sum ≤ k * (l.map h).sum := by
  induction l with
  | nil => simp
  | cons y l ih =>
    have h1 := hg y (.head _)
    have h2 := ih fun x hx => hg x (.tail _ hx)
    simp only [List.map_cons, List.sum_cons, Nat.mul_add]
    omega
section
variable {tx : Ex → ByteArray} {itoa : Int → ByteArray}
theorem enT_size (e : En) : (enT e).size ≤ 22 * enK e := by
  have h1 := joinS_size e.vals
  have h2 : (e.vals.map fun s => s.size + 2).sum ≤ 2 * (e.vals.map fun v => v.size + 1).sum := sum_mul fun x _ => by omega
  unfold enT enK
  simp only [ByteArray.size_append, str_size, List.length_cons, List.length_nil]
  omega
theorem deX_size (ht : ∀ x, (tx x).size ≤ 20 * bulk x) : ∀ (l : List Ex) (s : ByteArray), (deX tx l s).size ≤ s.size + 21 * (l.map bulk).sum
  | [], s => by simp [deX]
  | x :: l, s => by
    have := deX_size ht l (s ++ (str [32, 61, 32] ++ tx x))
    have h1 := ht x
    have h2 := bulk_pos x
    simp only [deX, List.map_cons, List.sum_cons]
    simp only [ByteArray.size_append, str_size, List.length_cons, List.length_nil] at this
    omega
theorem deE_size (hi : ∀ n, (itoa n).size ≤ 21) (d : De) : (deE itoa d).size ≤ d.name.size + 51 := by
  have := hi d.lo
  have := hi d.hi
  unfold deE deH
  split <;> simp only [ByteArray.size_append, str_size, List.length_cons, List.length_nil] <;> omega
theorem deT_size (ht : ∀ x, (tx x).size ≤ 20 * bulk x) (hi : ∀ n, (itoa n).size ≤ 21) (d : De) : (deT tx itoa d).size ≤ 22 * deK d := by
  have h1 := deX_size ht d.begins (deE itoa d ++ d.typ)
  have h2 := deE_size hi d
  unfold deT deK
  simp only [ByteArray.size_append, str_size, List.length_cons, List.length_nil] at h1 ⊢
  omega
theorem asT_size (ht : ∀ x, (tx x).size ≤ 20 * bulk x) (a : As) : (asT tx a).size + 2 ≤ 21 * asK a := by
  have := ht a.to
  have := bulk_pos a.to
  unfold asT asK
  simp only [ByteArray.size_append, str_size, List.length_cons, List.length_nil]
  omega
theorem acts_size (ht : ∀ x, (tx x).size ≤ 20 * bulk x) (l : List As) : (joinS (l.map (asT tx))).size ≤ 21 * (l.map asK).sum := by
  have h1 := joinS_size (l.map (asT tx))
  rw [List.map_map] at h1
  exact Nat.le_trans h1 (sum_mul fun x _ => asT_size ht x)
theorem ruT_size (ht : ∀ x, (tx x).size ≤ 20 * bulk x) (r : Ru) : (ruT tx r).size ≤ 22 * ruK r := by
  have h1 := acts_size ht r.acts
  have := ht r.when_
  have := bulk_pos r.when_
  unfold ruT ruK
  simp only [ByteArray.size_append, str_size, List.length_cons, List.length_nil]
  omega
theorem prL_len (ht : ∀ x, (tx x).size ≤ 20 * bulk x) (p : Pr) : (prL tx p).length ≤ 22 * prK p := by
  have h1 : (p.rules.flatMap (fun r => bL (ruT tx r))).length ≤ 22 * (p.rules.map ruK).sum := flat_len fun r _ => by rw [bL_len]; exact ruT_size ht r
  unfold prL prK
  simp only [List.length_append, bL_len, prH, ByteArray.size_append, str_size, List.length_cons, List.length_nil]
  omega
theorem soL_len (ht : ∀ x, (tx x).size ≤ 20 * bulk x) (hi : ∀ n, (itoa n).size ≤ 21) (m : So) : (soL tx itoa m).length ≤ 22 * soK m := by
  have h1 : (m.enums.flatMap (fun e => bL (enT e))).length ≤ 22 * (m.enums.map enK).sum := flat_len fun e _ => by rw [bL_len]; exact enT_size e
  have h2 : (m.vars.flatMap (fun d => bL (deT tx itoa d))).length ≤ 22 * (m.vars.map deK).sum := flat_len fun d _ => by rw [bL_len]; exact deT_size ht hi d
  have h3 : (m.procs.flatMap (prL tx)).length ≤ 22 * (m.procs.map prK).sum := flat_len fun p _ => prL_len ht p
  unfold soL soK
  simp only [List.length_append]
  omega
end
end Go.Tree
namespace Go.Proofs.YthpekiohalejmaaGreatDoor
open Go Go.Vc Go.Tree
def enV (e : En) : List Value := [.string e.name, .slice e.a e.vals.length e.c, .int .i64 e.line, .int .i64 e.col]
def deV (d : De) : List Value := [.string d.name, .string d.typ, .int .i64 d.lo, .int .i64 d.hi, .slice d.a d.begins.length d.c, .int .i64 d.line, .int .i64 d.col]
def asV (a : As) : List Value := [.string a.name, .int .i64 a.to.op, .int .i64 a.to.num, .string a.to.name, .slice a.to.at_ a.to.kids.length a.to.cap, .int .i64 a.to.line, .int .i64 a.to.col, .int .i64 a.line, .int .i64 a.col]
def ruV (r : Ru) : List Value := [.int .i64 r.when_.op, .int .i64 r.when_.num, .string r.when_.name, .slice r.when_.at_ r.when_.kids.length r.when_.cap, .int .i64 r.when_.line, .int .i64 r.when_.col, .slice r.a r.acts.length r.c]
def prV (p : Pr) : List Value := [.string p.name, .slice p.a p.rules.length p.c, .int .i64 p.line, .int .i64 p.col]
abbrev enA (e : En) : Value := .agg #[.string e.name, .slice e.a e.vals.length e.c, .int .i64 e.line, .int .i64 e.col]
abbrev deA (d : De) : Value := .agg #[.string d.name, .string d.typ, .int .i64 d.lo, .int .i64 d.hi, .slice d.a d.begins.length d.c, .int .i64 d.line, .int .i64 d.col]
abbrev asA (a : As) : Value := .agg #[.string a.name, .int .i64 a.to.op, .int .i64 a.to.num, .string a.to.name, .slice a.to.at_ a.to.kids.length a.to.cap, .int .i64 a.to.line, .int .i64 a.to.col, .int .i64 a.line, .int .i64 a.col]
abbrev ruA (r : Ru) : Value := .agg #[.int .i64 r.when_.op, .int .i64 r.when_.num, .string r.when_.name, .slice r.when_.at_ r.when_.kids.length r.when_.cap, .int .i64 r.when_.line, .int .i64 r.when_.col, .slice r.a r.acts.length r.c]
abbrev prA (p : Pr) : Value := .agg #[.string p.name, .slice p.a p.rules.length p.c, .int .i64 p.line, .int .i64 p.col]
abbrev soA (m : So) : Value := .agg #[.slice m.ea m.enums.length m.ec, .slice m.va m.vars.length m.vc, .slice m.pa m.procs.length m.pc]
theorem enV_len (e : En) : (enV e).length = 4 := rfl
theorem deV_len (d : De) : (deV d).length = 7 := rfl
theorem asV_len (a : As) : (asV a).length = 9 := rfl
theorem ruV_len (r : Ru) : (ruV r).length = 7 := rfl
theorem prV_len (p : Pr) : (prV p).length = 4 := rfl
def EnOk (w : World) (e : En) : Prop := Src w e.a e.vals.length 1 (e.vals.map Value.string) ∧ e.vals.length ≤ e.c
def DeOk (w : World) (d : De) : Prop := Src w d.a d.begins.length 6 (d.begins.flatMap exV) ∧ ∀ x ∈ d.begins, TOk w x
def RuOk (w : World) (r : Ru) : Prop := TOk w r.when_ ∧ Src w r.a r.acts.length 9 (r.acts.flatMap asV) ∧ ∀ x ∈ r.acts, TOk w x.to
def PrOk (w : World) (p : Pr) : Prop := Src w p.a p.rules.length 7 (p.rules.flatMap ruV) ∧ ∀ x ∈ p.rules, RuOk w x
structure SoOk (w : World) (m : So) : Prop where
  es : Src w m.ea m.enums.length 4 (m.enums.flatMap enV)
  vs : Src w m.va m.vars.length 7 (m.vars.flatMap deV)
  ps : Src w m.pa m.procs.length 4 (m.procs.flatMap prV)
  en : ∀ x ∈ m.enums, EnOk w x
  de : ∀ x ∈ m.vars, DeOk w x
  pr : ∀ x ∈ m.procs, PrOk w x
section
variable {w0 w : World} {l : List Res}
theorem EnOk.rd {e : En} (h : EnOk w0 e) (H : Sep w0 w l) : EnOk w e := ⟨H.rd h.1, h.2⟩
theorem DeOk.rd {d : De} (h : DeOk w0 d) (H : Sep w0 w l) : DeOk w d := ⟨H.rd h.1, fun x hx => (h.2 x hx).rd H⟩
theorem RuOk.rd {r : Ru} (h : RuOk w0 r) (H : Sep w0 w l) : RuOk w r := ⟨h.1.rd H, H.rd h.2.1, fun x hx => (h.2.2 x hx).rd H⟩
theorem PrOk.rd {p : Pr} (h : PrOk w0 p) (H : Sep w0 w l) : PrOk w p := ⟨H.rd h.1, fun x hx => (h.2 x hx).rd H⟩
theorem SoOk.rd {m : So} (h : SoOk w0 m) (H : Sep w0 w l) : SoOk w m := ⟨H.rd h.es, H.rd h.vs, H.rd h.ps, fun x hx => (h.en x hx).rd H, fun x hx => (h.de x hx).rd H, fun x hx => (h.pr x hx).rd H⟩
end
end Go.Proofs.YthpekiohalejmaaGreatDoor
