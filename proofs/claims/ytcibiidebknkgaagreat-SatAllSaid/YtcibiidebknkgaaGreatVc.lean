/-
  A walk by computation: 'vc' turns a loaded body into its proof obligations, by unfolding alone; proved sound once; and what a prover types at what is left.
-/
import Derived.WalkKit
import Derived.Deep.LoopGhost
import Derived.RowKit3
import Derived.RangeFuncLeaves
import Derived.RangeFuncCalls
import Derived.RangeFuncRecord
import Derived.OrdersIn
import Derived.Sort.LoopGhostIn
set_option linter.unusedVariables false
set_option linter.unusedSimpArgs false
namespace Go.Vc
open Go


def get : (List (Nat × Value)) → Nat → Option Value
  | [], _ => none
  | (j, v) :: r, i => match Nat.beq i j with
    | true => some v
    | false => get r i

def ev (e : (List (Nat × Value))) : Operand → Option Value
  | .tmp t => get e t
  | .const v => some v
  | .global g => some (.pointer (some ⟨g, 0, none⟩))
  | .func f => some (.func (.func f) #[] #[])

/-- What is known of the types: their shapes, and their sizes in cells. -/
structure Tab where
  desc : List (Nat × TypeDesc)
  size : List (Nat × Nat)
  bytes : List (Nat × Nat)
  zero : List (Nat × Value)

def find {α : Type} : List (Nat × α) → Nat → Option α
  | [], _ => none
  | (j, v) :: r, i => match Nat.beq i j with
    | true => some v
    | false => find r i

def Tab.d (T : Tab) (t : Nat) : Option TypeDesc := find T.desc t
def Tab.s (T : Tab) (t : Nat) : Option Nat := find T.size t
def Tab.b (T : Tab) (t : Nat) : Option Nat := find T.bytes t
def Tab.z (T : Tab) (t : Nat) : Option Value := find T.zero t

structure TabOk (P : Program) (T : Tab) : Prop where
  d : ∀ x ∈ T.desc, P.underlying x.1 = some x.2
  s : ∀ x ∈ T.size, ∀ w, (sizeOf x.1).run P w = .ok x.2 w
  b : ∀ x ∈ T.bytes, ∀ w, ∃ i, (typeInfo x.1).run P w = .ok i w ∧ i.bytes = x.2
  z : ∀ x ∈ T.zero, ∀ w, (zeroValue x.1).run P w = .ok x.2 w

/-! The residuals: what a prover meets. Each is closed to unfolding. -/
structure Br (b : Bool) (A B : Prop) : Prop where
  yes : b = true → A
  no : b = false → B
structure Ar (k : IntKind) (n : Int) (K : Int → Prop) : Prop where
  out : K (k.wrap n)
structure Eqv (n : Int) (K : Int → Prop) : Prop where
  out : K n
structure Nz (n : Int) (A : Prop) : Prop where
  ne : n ≠ 0
  out : A
structure Nn (n : Int) (A : Prop) : Prop where
  nn : 0 ≤ n
  out : A
structure Ix (i : Int) (n : Nat) (K : Nat → Prop) : Prop where
  lo : 0 ≤ i
  hi : i < n
  out : K i.toNat
structure Do (P : Program) (s : Sem Value) (w : World) (K : Value → World → Prop) : Prop where
  out : ∃ v w', s.run P w = .ok v w' ∧ K v w'
structure DoU (P : Program) (s : Sem Unit) (w : World) (K : World → Prop) : Prop where
  out : ∃ w', s.run P w = .ok () w' ∧ K w'
structure Ld (w : World) (a : Addr) (K : Value → Prop) : Prop where
  out : ∃ v, w.cell? a = some v ∧ K v
structure LdN (w : World) (a : Addr) (n : Nat) (K : List Value → Prop) : Prop where
  out : ∃ vs : List Value, vs.length = n ∧ (∀ i, i < n → w.cell? (a.add i) = vs[i]?) ∧ K vs
def oneCell : Value → Bool
  | .agg _ => false
  | .tuple _ => false
  | _ => true
structure St (w : World) (a : Addr) (v : Value) (K : World → Prop) : Prop where
  one : oneCell v = true
  there : ∃ u, w.cell? a = some u
  free : w.frozen? a = false
  out : K (w.setCell a v)
def setCells (w : World) (a : Addr) : List Value → Nat → World
  | [], _ => w
  | v :: r, i => setCells (w.setCell (a.add i) v) a r (i + 1)
structure StN (w : World) (a : Addr) (vs : List Value) (K : World → Prop) : Prop where
  one : ∀ v ∈ vs, oneCell v = true
  there : ∀ i, i < vs.length → (∃ u, w.cell? (a.add i) = some u) ∧ w.frozen? (a.add i) = false
  out : K (setCells w a vs 0)
structure Nw (w : World) (o : Obj) (K : Nat → World → Prop) : Prop where
  out : K w.heap.size (w.alloc o)
structure DoN (P : Program) (s : Sem Next) (w : World) (K : Value → World → Prop) : Prop where
  out :
  (∃ v w', s.run P w = .ok (.value v) w' ∧ K v w') ∨
  (∃ f args w', s.run P w = .ok (.enter f args) w' ∧ Calls P f args w' fun e w'' => ∃ v, e = .returned v ∧ K v w'')
structure Call (P : Program) (f : FuncId) (args : Array Value) (w : World) (K : Value → World → Prop) : Prop where
  out : ((callFunc f args).run P w = .ok (.enter f args) w ∧ Calls P f args w fun e w' => ∃ v, e = .returned v ∧ K v w') ∨
    (∃ v w', (callFunc f args).run P w = .ok (.value v) w' ∧ K v w')
structure Ret (v : Value) (w : World) (R : Value → World → Prop) : Prop where
  out : R v w

def opt {α : Type} (x : Option α) (K : α → Prop) : Prop :=
  match x with
  | some v => K v
  | none => False

def evL (e : (List (Nat × Value))) : List Operand → (List Value → Prop) → Prop
  | [], K => K []
  | x :: r, K => opt (ev e x) fun v => evL e r fun vs => K (v :: vs)

def evP (e : (List (Nat × Value))) : List (Nat × Operand) → (List (Nat × Value) → Prop) → Prop
  | [], K => K []
  | (i, x) :: r, K => opt (ev e x) fun v => evP e r fun vs => K ((i, v) :: vs)

def evO (e : (List (Nat × Value))) : Option Operand → (Option Value → Prop) → Prop
  | none, K => K none
  | some x, K => opt (ev e x) fun v => K (some v)

def sameK (j k : IntKind) (A : Prop) : Prop :=
  match decide (j = k) with
  | true => A
  | false => False

def binR (P : Program) (op : BinOp) (t : TypeId) (xo yo : Operand) (x y : Value) (w : World) (K : Value → World → Prop) : Prop :=
  match x, y with
  | .int k m, .int k' n =>
    match op with
    | .shl => Nn n (Ar k (m * 2 ^ min n.toNat k.bits) fun r => K (.int k r) w)
    | .shr => Nn n (Eqv (m.fdiv (2 ^ min n.toNat k.bits)) fun r => K (.int k r) w)
    | .add => sameK k k' (Ar k (m + n) fun r => K (.int k r) w)
    | .sub => sameK k k' (Ar k (m - n) fun r => K (.int k r) w)
    | .mul => sameK k k' (Ar k (m * n) fun r => K (.int k r) w)
    | .quo => sameK k k' (Nz n (Ar k (m.tdiv n) fun r => K (.int k r) w))
    | .rem => sameK k k' (Nz n (Eqv (m.tmod n) fun r => K (.int k r) w))
    | .and => sameK k k' (Eqv (k.wrap (BitVec.ofInt k.bits m &&& BitVec.ofInt k.bits n).toNat) fun r => K (.int k r) w)
    | .or => sameK k k' (Eqv (k.wrap (BitVec.ofInt k.bits m ||| BitVec.ofInt k.bits n).toNat) fun r => K (.int k r) w)
    | .xor => sameK k k' (Eqv (k.wrap (BitVec.ofInt k.bits m ^^^ BitVec.ofInt k.bits n).toNat) fun r => K (.int k r) w)
    | .andNot => sameK k k' (Eqv (k.wrap (BitVec.ofInt k.bits m &&& ~~~ BitVec.ofInt k.bits n).toNat) fun r => K (.int k r) w)
    | .eql => sameK k k' (K (.bool (m == n)) w)
    | .neq => sameK k k' (K (.bool (m != n)) w)
    | .lss => sameK k k' (K (.bool (decide (m < n))) w)
    | .leq => sameK k k' (K (.bool (decide (m ≤ n))) w)
    | .gtr => sameK k k' (K (.bool (decide (n < m))) w)
    | .geq => sameK k k' (K (.bool (decide (n ≤ m))) w)
  | x, y => Do P (do eqGuard op t xo yo x y; binOp op t x y) w K

def unR (P : Program) (op : UnOp) (x : Value) (w : World) (K : Value → World → Prop) : Prop :=
  match op, x with
  | .neg, .int k n => Ar k (0 - n) fun r => K (.int k r) w
  | .not, .bool b => K (.bool !b) w
  | op, x => Do P (Op.unary op x) w K

def addAt (a : Addr) (n : Nat) (K : Addr → Prop) : Prop :=
  match a with
  | ⟨b, o, none⟩ => K ⟨b, o + n, none⟩
  | _ => False

def fieldR (T : Tab) (s : TypeId) (x : Value) (f : Nat) (K : Value → Prop) : Prop :=
  match T.d s, x with
  | some (.struct fs), .pointer (some a) =>
    match fs.toList[f]? with
    | some fd => match T.s fd.type with
      | some (_ + 1) => addAt a fd.offset fun a => K (.pointer (some a))
      | _ => False
    | none => False
  | _, _ => False

def indexR (T : Tab) (t : TypeId) (x : Value) (i : Int) (K : Value → Prop) : Prop :=
  match T.d t, x with
  | some (.slice el), .slice (some a) len _ =>
    match T.s el with
    | some 1 => Ix i len fun j => addAt a j fun a => K (.pointer (some a))
    | some n => Ix i len fun j => addAt a (j * n) fun a => K (.pointer (some a))
    | none => False
  | some (.array len el), .pointer (some a) =>
    match T.s el with
    | some 1 => Ix i len fun j => addAt a j fun a => K (.pointer (some a))
    | some n => Ix i len fun j => addAt a (j * n) fun a => K (.pointer (some a))
    | none => False
  | _, _ => False

def loadR (T : Tab) (t : TypeId) (v : Value) (w : World) (K : Value → Prop) : Prop :=
  match T.d t, v with
  | some (.struct _), .pointer (some a) => opt (T.s t) fun n => LdN w a n fun vs => K (.agg vs.toArray)
  | some (.array _ _), .pointer (some a) => opt (T.s t) fun n => LdN w a n fun vs => K (.agg vs.toArray)
  | some _, .pointer (some a) => Ld w a K
  | _, _ => False

def storeR (T : Tab) (t : TypeId) (v x : Value) (w : World) (K : World → Prop) : Prop :=
  match T.s t, v, x with
  | some n, .pointer (some a), .agg cs => match Nat.beq cs.toList.length n with
    | true => StN w a cs.toList K
    | false => False
  | some 1, .pointer (some a), x => St w a x K
  | _, _, _ => False

/-- The cells of a composite literal whose parts are all there, in order. -/
def fillAll (s : Nat) : Nat → List (Nat × Value) → (List Value → Prop) → Prop
  | _, [], K => K []
  | k, (i, v) :: r, K => match Nat.beq i k, Nat.beq v.cells.toList.length s with
    | true, true => fillAll s (k + 1) r fun l => K (v.cells.toList ++ l)
    | _, _ => False

def buildSliceR (P : Program) (T : Tab) (t : TypeId) (n : Nat) (ps : List (Nat × Value)) (w : World) (K : Value → World → Prop) : Prop :=
  match T.d t with
  | some (.slice el) => match T.s el with
    | some (s + 1) => match Nat.beq ps.length n, Nat.ble (n * (s + 1)) 16777216, n, T.z el with
      | true, true, 0, _ => Nw w (.cells #[] el) fun b w' => K (.slice (some ⟨b, 0, none⟩) 0 0) w'
      | true, true, n, some z => match Nat.beq z.cells.toList.length (s + 1) with
        | true => fillAll (s + 1) 0 ps fun l => Nw w (.cells l.toArray el) fun b w' => K (.slice (some ⟨b, 0, none⟩) n n) w'
        | false => False
      | _, _, _, _ => Do P (Instr.buildSlice t n ps.toArray) w K
    | _ => False
  | _ => False

/-! A struct out of its parts: the cells are written out at once. -/
def placesL (T : Tab) : List Field → Option (List (Nat × Nat))
  | [] => some []
  | f :: r => match T.s f.type, placesL T r with
    | some n, some l => some ((f.offset, n) :: l)
    | _, _ => none

def setK : List Value → Nat → Value → (List Value → Prop) → Prop
  | [], _, _, _ => False
  | _ :: r, 0, v, K => K (v :: r)
  | u :: r, n + 1, v, K => setK r n v fun r => K (u :: r)

def setsK : List Value → Nat → List Value → (List Value → Prop) → Prop
  | [], _, cs, K => K cs
  | v :: r, off, cs, K => setK cs off v fun cs => setsK r (off + 1) cs K

def fillK (pl : List (Nat × Nat)) : List (Nat × Value) → List Value → (List Value → Prop) → Prop
  | [], cs, K => K cs
  | (i, v) :: r, cs, K => match pl[i]? with
    | some (off, size + 1) => match Nat.beq v.cells.toList.length (size + 1) with
      | true => setsK v.cells.toList off cs fun cs => fillK pl r cs K
      | false => False
    | _ => False

def fillA (s : Nat) : List (Nat × Value) → List Value → (List Value → Prop) → Prop
  | [], cs, K => K cs
  | (i, v) :: r, cs, K => match Nat.beq v.cells.toList.length (s + 1) with
    | true => setsK v.cells.toList (i * (s + 1)) cs fun cs => fillA s r cs K
    | false => False

def buildK (T : Tab) (t : TypeId) (ps : List (Nat × Value)) (K : Value → Prop) : Prop :=
  match T.d t, T.z t with
  | some (.struct fs), some (.agg z) => opt (placesL T fs.toList) fun pl => fillK pl ps z.toList fun l => K (.agg l.toArray)
  | some (.array _ el), some (.agg z) => match T.s el with
    | some (s + 1) => fillA s ps z.toList fun l => K (.agg l.toArray)
    | _ => False
  | _, _ => False

def isConst : Operand → Bool
  | .const _ => true
  | _ => false

def builtinR (P : Program) (T : Tab) (ty : TypeId) (b : Builtin) (args : Array Operand) (tys : Array TypeId) (vs : List Value) (w : World) (K : Value → World → Prop) : Prop :=
  match b, vs, tys.toList with
  | .len, [.slice _ n _], t :: _ => match T.d t with
    | some (.slice _) => K (.int .i64 n) w
    | _ => False
  | .min, [.int k m, .int _ n], _ => Eqv (min m n) fun r => K (.int k r) w
  | .max, [.int k m, .int _ n], _ => Eqv (max m n) fun r => K (.int k r) w
  | b, vs, _ => DoN P (builtin b tys ty (args.map isConst) vs.toArray) w K

def callR (P : Program) (T : Tab) (ty : TypeId) (c : Go.Call) (e : (List (Nat × Value))) (w : World) (K : Value → World → Prop) : Prop :=
  match c with
  | ⟨.builtin b, args, tys⟩ => evL e args.toList fun vs => builtinR P T ty b args tys vs w K
  | ⟨.value f, args, _⟩ => opt (ev e f) fun f => match f with
    | .func (.func g) first captured => evL e args.toList fun vs => match first.toList, captured.toList with
      | [], [] => Call P g vs.toArray w K
      | l1, l2 => Call P g (l1 ++ (vs ++ l2)).toArray w K
    | _ => False
  | ⟨.invoke r name, args, _⟩ => opt (ev e r) fun r => evL e args.toList fun vs => DoN P (callMethod r name vs.toArray) w K

def vcOp (P : Program) (T : Tab) (o : Oper) (e : (List (Nat × Value))) (w : World) (K : Value → World → Prop) : Prop :=
  match o.op with
  | .move x => opt (ev e x) fun v => K v w
  | .assign x => opt (ev e x) fun v => K v w
  | .pick c a b => opt (ev e c) fun vc => match vc with
    | .bool t => Br t (opt (ev e a) fun v => K v w) (opt (ev e b) fun v => K v w)
    | _ => False
  | .alloc el => opt (T.z el) fun z => match z with
    | .agg cs => Nw w (.cells cs el) fun b w' => K (.pointer (some ⟨b, 0, none⟩)) w'
    | z => Nw w (.cells #[z] el) fun b w' => K (.pointer (some ⟨b, 0, none⟩)) w'
  | .box el x => opt (ev e x) fun v => match v with
    | .agg cs => Nw w (.cells cs el) fun b w' => K (.pointer (some ⟨b, 0, none⟩)) w'
    | v => Nw w (.cells #[v] el) fun b w' => K (.pointer (some ⟨b, 0, none⟩)) w'
  | .build t ps => evP e ps.toList fun l => buildK T t l fun v => K v w
  | .buildSlice t n ps => evP e ps.toList fun l => buildSliceR P T t n l w K
  | .load t a => opt (ev e a) fun v => loadR T t v w fun v => K v w
  | .store t a x => opt (ev e a) fun va => opt (ev e x) fun vx => storeR T t va vx w fun w' => K undef w'
  | .nilCheck x => opt (ev e x) fun v => match v with
    | .pointer (some p) => K (.pointer (some p)) w
    | .iface t x => K (.iface t x) w
    | .func (.func f) a b => K (.func (.func f) a b) w
    | _ => False
  | .binOp op t x y _ => opt (ev e x) fun a => opt (ev e y) fun b => binR P op t x y a b w K
  | .unOp op _ x => opt (ev e x) fun a => unR P op a w K
  | .convert s d x => opt (ev e x) fun a => match T.d d, a with
    | some (.int k), .int _ n => match T.d s with
      | some _ => Ar k n fun r => K (.int k r) w
      | none => False
    | _, a => Do P (convert s d a) w K
  | .makeInterface t x => opt (ev e x) fun a => match T.d t with
    | some (.interface _) => False
    | some _ => K (.iface t a) w
    | none => False
  | .makeFunc fn first captured => evL e first.toList fun l1 => evL e captured.toList fun l2 => K (.func fn l1.toArray l2.toArray) w
  | .makeMap t none => Nw w (.map #[] 0) fun b w' => K (.map (some b)) w'
  | .makeMap t r => evO e r fun r => Do P (Instr.makeMap t r) w K
  | .makeSlice t l c => opt (ev e l) fun l => opt (ev e c) fun c => Do P (Instr.makeSlice t l c) w K
  | .slice t x lo hi mx => opt (ev e x) fun x => evO e lo fun lo => evO e hi fun hi => evO e mx fun mx => Do P (Instr.sliceAt t x lo hi mx) w K
  | .fieldAddr s x f => opt (ev e x) fun x => fieldR T s x f fun v => K v w
  | .field t x f => opt (ev e x) fun x => Do P (Instr.field t x f) w K
  | .indexAddr t x i => opt (ev e x) fun x => opt (ev e i) fun i => match i with
    | .int _ n => indexR T t x n fun v => K v w
    | _ => False
  | .index t x i => opt (ev e x) fun x => opt (ev e i) fun i => Do P (Instr.index t x i) w K
  | .lookup t m k ok => opt (ev e m) fun m => opt (ev e k) fun k => Do P (Instr.lookup t m k ok) w K
  | .mapUpdate t m k x => opt (ev e m) fun m => opt (ev e k) fun k => opt (ev e x) fun x => DoU P (Instr.mapUpdate t m k x) w fun w' => K undef w'
  | .insert t m k x => opt (ev e m) fun m => opt (ev e k) fun k => opt (ev e x) fun x => DoU P (Instr.mapUpdate t m k x) w fun w' => K undef w'
  | .mapEntry t m k => opt (ev e m) fun m => opt (ev e k) fun k => Do P (Instr.mapEntry t m k) w K
  | .entryStore t m s x => opt (ev e m) fun m => opt (ev e s) fun s => opt (ev e x) fun x => DoU P (Instr.entryStore t m s x) w fun w' => K undef w'
  | .range t x => opt (ev e x) fun x => Do P (Instr.range t x) w K
  | .next it s => opt (ev e it) fun it => Do P (Instr.next it s o.type) w K
  | .entry it => opt (ev e it) fun it => Do P (Instr.entry it) w K
  | .typeAssert x xt at_ ok => opt (ev e x) fun x => Do P (Instr.typeAssert x xt at_ ok) w K
  | .extract t i => opt (ev e t) fun t => match t with
    | .tuple vs => opt vs.toList[i]? fun v => K v w
    | _ => False
  | .call c => callR P T o.type c e w K
  | _ => False

/-- A slot is written: not one that is kept, and one of the frame. -/
def putR (N : Nat) (B : (List (Nat × Value))) (e : (List (Nat × Value))) (d : Option Tmp) (v : Value) (K : (List (Nat × Value)) → Prop) : Prop :=
  match d with
  | none => K e
  | some d => match Nat.blt d N, get B d with
    | true, none => K ((d, v) :: e)
    | _, _ => False

def dstOf (ops : List Oper) (j : Nat) : Option Tmp := (ops[j]?).bind (·.dst)

def guardR (ops : List Oper) (g : Option (Nat × Bool)) (e : (List (Nat × Value))) (yes no : (List (Nat × Value)) → Prop) : Prop :=
  match g with
  | none => yes e
  | some (j, want) => match dstOf ops j with
    | some d => match get e d with
      | some (.bool b) => match want with
        | true => Br b (yes ((d, .bool true) :: e)) (no ((d, .bool false) :: e))
        | false => Br b (no ((d, .bool true) :: e)) (yes ((d, .bool false) :: e))
      | some (.tuple _) => no e
      | _ => False
    | none => False

/-- A call of yield, in an iterator. -/
structure YieldR (P : Program) (l : Nat) (vs : List Value) (w : World) (K : Value → World → Prop) : Prop where
  out : ∃ fn tmps asg body, (Instr.yield l vs.toArray).run P w = .ok (.round l fn tmps asg body) w ∧ RoundIn Fence.wide 0 P l fn tmps asg body w fun x w' => ∃ v, x = .returned v ∧ K v w'

def yieldOf (e : (List (Nat × Value))) : Op → Option Nat
  | .call ⟨.value f, _, _⟩ => match ev e f with
    | some (.func (.yield l) ⟨[]⟩ ⟨[]⟩) => some l
    | _ => none
  | _ => none

def yieldR (P : Program) (l : Nat) (e : (List (Nat × Value))) (w : World) (K : Value → World → Prop) : Op → Prop
  | .call c => evL e c.args.toList fun vs => YieldR P l vs w K
  | _ => False

def vcOpY (P : Program) (T : Tab) (o : Oper) (e : (List (Nat × Value))) (w : World) (K : Value → World → Prop) : Prop :=
  match yieldOf e o.op with
  | some l => yieldR P l e w K o.op
  | none => vcOp P T o e w K

def vcOps (P : Program) (T : Tab) (N : Nat) (B : (List (Nat × Value))) (ops : List Oper) (l : List Oper) : (List (Nat × Value)) → World → ((List (Nat × Value)) → World → Prop) → Prop :=
  List.rec (motive := fun _ => (List (Nat × Value)) → World → ((List (Nat × Value)) → World → Prop) → Prop) (fun e w K => K e w)
    (fun o _ ih e w K => guardR ops o.guard e
      (fun e => vcOpY P T o e w fun v w' => putR N B e o.dst v fun e => ih e w' K)
      (fun e => putR N B e o.dst undef fun e => ih e w K)) l

theorem vcOps_cons (P : Program) (T : Tab) (N : Nat) (B : (List (Nat × Value))) (ops : List Oper) (o : Oper) (r : List Oper) (e : (List (Nat × Value))) (w : World) (K : (List (Nat × Value)) → World → Prop) :
    vcOps P T N B ops (o :: r) e w K = guardR ops o.guard e
      (fun e => vcOpY P T o e w fun v w' => putR N B e o.dst v fun e => vcOps P T N B ops r e w' K)
      (fun e => putR N B e o.dst undef fun e => vcOps P T N B ops r e w K) := rfl

/-- The slots that a code writes. -/
def opsDst : List Oper → List Nat → List Nat
  | [], l => l
  | o :: r, l => match o.dst with
    | some d => opsDst r (d :: l)
    | none => opsDst r l

def dsts : Code → List Nat → List Nat
  | .region _ ops _, l => opsDst ops.toList l
  | .seq a b, l => dsts b (dsts a l)
  | .cond _ a b, l => dsts b (dsts a l)
  | .block _ c, l => dsts c l
  | .loop c, l => dsts c l
  | .scope c, l => dsts c l
  | _, l => l

def memN (i : Nat) : List Nat → Bool
  | [] => false
  | j :: r => match Nat.beq i j with
    | true => true
    | false => memN i r

def keep (l : List Nat) : (List (Nat × Value)) → (List (Nat × Value))
  | [] => []
  | (i, v) :: r => match memN i l with
    | true => keep l r
    | false => (i, v) :: keep l r

/-- May a code end normally? (a guess that only tells where a join is offered) -/
def falls : Code → Bool
  | .ret => false
  | .exit _ => false
  | .goto _ => false
  | .seq a b => match falls a with
    | true => falls b
    | false => false
  | .cond _ a b => match falls a with
    | true => true
    | false => falls b
  | _ => true

def plainCode : Code → Bool
  | .skip => true
  | _ => false

/-- A frame fits what is known of it: the slots of 'e', and those of 'B', which are kept. -/
structure Fits (N : Nat) (ds : List Deferred) (B e : (List (Nat × Value))) (a : Act) : Prop where
  size : a.tmps.size = N
  defers : a.defers = ds
  cur : ∀ i v, get e i = some v → a.tmps.getD i undef = v
  base : ∀ i v, get B i = some v → a.tmps.getD i undef = v

def noDefer : List Oper → Bool
  | [] => true
  | o :: r => match o.op with
    | .defer _ => false
    | _ => noDefer r

/-! A walk in a round of a range over a function, too: the fence is wide. -/
def wideR : Option Nat → Fence
  | none => Fence.wide
  | some l => Fence.wide.inRound l
theorem wideR_round (r : Option Nat) : (wideR r).round = r := by cases r <;> rfl
theorem wideR_fn (r : Option Nat) (f : FuncId) : (wideR r).fn f := by cases r <;> trivial
theorem wideR_depth (r : Option Nat) : (wideR r).depth = none := by cases r <;> rfl
def wpW (P : Program) (c : Code) (Q : Exit → Act → World → Prop) (a : Act) (w : World) : Prop := ∀ r, c.wpIn (wideR r) 0 P Q a w
section
variable {P : Program} {Q : Exit → Act → World → Prop} {a : Act} {w : World}
theorem wpW_wp {c : Code} (h : wpW P c Q a w) : c.wp P Q a w := wpIn_wide.1 (h none)
theorem wpW_mono {c : Code} {Q Q' : Exit → Act → World → Prop} (h : wpW P c Q a w) (hq : ∀ e a w, Q e a w → Q' e a w) : wpW P c Q' a w := fun r => wpIn_mono (h r) hq
theorem wpW_skip (h : Q .normal a w) : wpW P .skip Q a w := fun _ => wpIn_skip h
theorem wpW_label {l : Nat} (h : Q .normal a w) : wpW P (.label l) Q a w := fun _ => wpIn_label h
theorem wpW_exit {i : Nat} (h : Q (.exit i) a w) : wpW P (.exit i) Q a w := fun _ => wpIn_exit h
theorem wpW_ret (h : Q .ret a w) : wpW P .ret Q a w := fun _ => wpIn_ret h
theorem wpW_seq {x y : Code} (h : wpW P x (Exit.then (wpW P y Q) Q) a w) : wpW P (.seq x y) Q a w := fun r => by
  refine wpIn_seq (wpIn_mono (h r) ?_)
  intro e a w hq
  cases e <;> first | exact hq r | exact hq
theorem wpW_cond_split {c : Operand} {x y : Code} {t : Bool} (hc : a.eval c = .bool t) (ht : t = true → wpW P x Q a w) (hf : t = false → wpW P y Q a w) : wpW P (.cond c x y) Q a w :=
  fun r => wpIn_cond_split hc (fun h => ht h r) (fun h => hf h r)
theorem wpW_block {id : Nat} {c : Code} (h : wpW P c (Exit.inBlock id Q) a w) : wpW P (.block id c) Q a w := fun r => wpIn_block (h r)
theorem wpW_loop_ghost {c : Code} (I : Nat → Act → World → Prop) (n₀ : Nat) (h₀ : I n₀ a w)
    (round : ∀ n a w, I n a w → wpW P c (Exit.then (fun a' w' => ∃ n', n' < n ∧ I n' a' w') Q) a w) : wpW P (.loop c) Q a w :=
  fun r => wpIn_loop_ghost I n₀ h₀ (fun n a w hI => round n a w hI r)
theorem callsW {f : FuncId} {args : Array Value} {R : Ending → World → Prop} {n : Nat} (r : Option Nat) (h : Calls P f args w R) : CallsIn (wideR r) n P f args w R := by
  cases r with
  | none => exact callsIn_wide.2 h
  | some l => exact CallsIn.inRound l (callsIn_wide.2 h)
theorem rowsW {row : String} {args : Array Value} {R : Value → World → Prop} {n : Nat} (r : Option Nat) (h : Rows P row args w R) : RowsIn (wideR r) n P row args w R := by
  have : RowsIn Fence.wide n P row args w R := fun c cs _ => let ⟨v, w', hr, hs⟩ := h c cs; ⟨v, w', hr, stepsIn_wide.2 hs⟩
  cases r with
  | none => exact this
  | some l => exact this
theorem noDefer_mem : ∀ {l : List Oper}, noDefer l = true → ∀ o ∈ l, ∀ c, o.op ≠ .defer c
  | [], _, o, ho, _ => by cases ho
  | x :: r, h, o, ho, c => by
    unfold noDefer at h
    rcases List.mem_cons.1 ho with rfl | ho
    · intro hc; rw [hc] at h; cases h
    · split at h
      · cases h
      · exact noDefer_mem h o ho c
theorem operW {o : Oper} {next : Act → World → Prop} (hd : ∀ c, o.op ≠ .defer c) (r : Option Nat) (h : o.wp P a w next Q) : o.wpIn (wideR r) 0 P a w next Q := by
  refine ⟨fun f _ => wideR_fn r f, ?_⟩
  rw [Oper.semAt_eq _ _ _ hd]
  have hdep : (wideR r).depth.isSome = true → 1 ≤ 0 := by rw [wideR_depth]; intro h; cases h
  unfold Oper.wp at h
  generalize (execOp a.eval o).run P w = res at h
  cases res with
  | ok x w' =>
    cases x <;> first
      | exact h
      | exact h.elim
      | skip
    · exact ⟨hdep, callsW r h⟩
    · exact ⟨hdep, rowsW r h⟩
  | halt x w' =>
    cases x <;> first
      | exact h
      | exact h.elim
theorem opsW {ops : Array Oper} (hd : noDefer ops.toList = true) (hL : ¬ LetsOut Q) (r : Option Nat) : ∀ (l : List Nat) (a : Act) (w : World), wpOps P ops Q l a w → wpOpsIn (wideR r) 0 P ops Q l a w
  | [], _, _, h => h
  | i :: rest, a, w, h => by
    unfold wpOps at h
    unfold wpOpsIn
    cases ho : ops[i]? with
    | none => rw [ho] at h; exact opsW hd hL r rest a w h
    | some o =>
      rw [ho] at h
      simp only at h ⊢
      have hm : o ∈ ops.toList := by rw [Array.mem_toList_iff]; exact Array.mem_of_getElem? ho
      split
      · rename_i hw
        rw [if_pos hw] at h
        refine ⟨fun f _ => wideR_fn r f, ?_⟩
        rw [Oper.semAt_eq _ _ _ (fun c => noDefer_mem hd o hm c)]
        have hdep : (wideR r).depth.isSome = true → 1 ≤ 0 := by rw [wideR_depth]; intro h; cases h
        rcases h with h | h
        · unfold Oper.wp at h
          generalize (execOp a.eval o).run P w = res at h
          cases res with
          | ok x w' =>
            cases x <;> first
              | exact opsW hd hL r rest _ _ h
              | exact h.elim
              | skip
            · refine ⟨hdep, (callsW r h).mono fun e w'' he => ?_⟩
              cases e with
              | returned v => exact opsW hd hL r rest _ _ he
              | panicked c => exact he
              | outgrown => exact he
            · exact ⟨hdep, (rowsW r h).mono fun v w'' he => opsW hd hL r rest _ _ he⟩
          | halt x w' =>
            cases x <;> first
              | exact h
              | exact h.elim
        · exact (hL h.2).elim
      · rename_i hw
        rw [if_neg hw] at h
        exact ⟨fun f _ => wideR_fn r f, opsW hd hL r rest _ _ h⟩
theorem wpW_region {id : Nat} {ops : Array Oper} (h : ∀ r, wpOpsIn (wideR r) 0 P ops Q (List.range ops.size) a w) : wpW P (.region id ops false) Q a w :=
  fun r => wpIn_region (h r)
theorem wpW_region_any {id : Nat} {ops : Array Oper} (hm : P.follows .mixedOrders = true) (hd : noDefer ops.toList = true) (hL : ¬ LetsOut Q)
    (h : wpAny P .any ops Q ops.size (Array.replicate ops.size false) a { w with drawn := w.drawn + 1 }) : wpW P (.region id ops true) Q a w :=
  fun r => wpIn_region_draw fun t => by
    simp only [Region.schedule, hm, Bool.true_or, if_true]
    exact opsW hd hL r _ _ _ (wpAny_sound ops.size t _ a _ h)
end

structure DrawR (P : Program) (T : Tab) (N : Nat) (B : (List (Nat × Value))) (c : Code) (e : (List (Nat × Value))) (w : World) (K : (List (Nat × Value)) → World → Prop) : Prop where
  out : ∀ (ds : List Deferred) (a : Act) (Q : Exit → Act → World → Prop), TabOk P T → Fits N ds B e a → (∀ a' e' w', Fits N ds B e' a' → K e' w' → Q .normal a' w') → wpW P c Q a w

/-- Two ways that meet again. -/
structure JoinR (P : Program) (T : Tab) (N : Nat) (B : (List (Nat × Value))) (c : Operand) (x y : Code) (t : Bool) (e : (List (Nat × Value))) (w : World) (K : Exit → (List (Nat × Value)) → World → Prop) : Prop where
  out : ∀ (ds : List Deferred) (a : Act) (Q : Exit → Act → World → Prop), TabOk P T → Fits N ds B e a → a.eval c = .bool t → (∀ x a' e' w', Fits N ds B e' a' → K x e' w' → Q x a' w') → wpW P (Code.cond c x y) Q a w

structure LoopR (P : Program) (T : Tab) (N : Nat) (B : (List (Nat × Value))) (c : Code) (e : (List (Nat × Value))) (w : World) (K : Exit → (List (Nat × Value)) → World → Prop) : Prop where
  out : ∀ (ds : List Deferred) (a : Act) (Q : Exit → Act → World → Prop), TabOk P T → Fits N ds B e a → (∀ x a' e' w', Fits N ds B e' a' → K x e' w' → Q x a' w') →
    wpW P (Code.loop c) Q a w

def vSkip : ((List (Nat × Value)) → World → (Exit → (List (Nat × Value)) → World → Prop) → Prop) := fun e w K => K .normal e w
def vRegion (P : Program) (T : Tab) (N : Nat) (B : (List (Nat × Value))) (i : Nat) (ops : Array Oper) (d : Bool) : ((List (Nat × Value)) → World → (Exit → (List (Nat × Value)) → World → Prop) → Prop) := fun e w K => match d with
  | false => match noDefer ops.toList with
    | true => vcOps P T N B ops.toList ops.toList e w (K .normal)
    | false => False
  | true => DrawR P T N B (.region i ops true) e w (K .normal)
def vSeq (x y : ((List (Nat × Value)) → World → (Exit → (List (Nat × Value)) → World → Prop) → Prop)) : ((List (Nat × Value)) → World → (Exit → (List (Nat × Value)) → World → Prop) → Prop) := fun e w K => x e w fun x e' w' => match x with
  | .normal => y e' w' K
  | .exit i => K (.exit i) e' w'
  | .ret => K .ret e' w'
  | x => K x e' w'
def vCond (P : Program) (T : Tab) (N : Nat) (B : (List (Nat × Value))) (c : Operand) (a b : Code) (x y : ((List (Nat × Value)) → World → (Exit → (List (Nat × Value)) → World → Prop) → Prop)) : ((List (Nat × Value)) → World → (Exit → (List (Nat × Value)) → World → Prop) → Prop) := fun e w K => opt (ev e c) fun v => match v with
  | .bool t => match falls a, falls b, plainCode a, plainCode b with
    | true, true, _, _ => JoinR P T N B c a b t e w K
    | _, _, _, _ => Br t (x e w K) (y e w K)
  | _ => False
def vBlock (id : Nat) (x : ((List (Nat × Value)) → World → (Exit → (List (Nat × Value)) → World → Prop) → Prop)) : ((List (Nat × Value)) → World → (Exit → (List (Nat × Value)) → World → Prop) → Prop) := fun e w K => x e w fun x e' w' => match x with
  | .normal => K .normal e' w'
  | .exit i => match Nat.beq i id with
    | true => K .normal e' w'
    | false => K (.exit i) e' w'
  | .ret => K .ret e' w'
  | x => K x e' w'
def vLoop (P : Program) (T : Tab) (N : Nat) (B : (List (Nat × Value))) (c : Code) : ((List (Nat × Value)) → World → (Exit → (List (Nat × Value)) → World → Prop) → Prop) := fun e w K => LoopR P T N B c e w K
def vExit (id : Nat) : ((List (Nat × Value)) → World → (Exit → (List (Nat × Value)) → World → Prop) → Prop) := fun e w K => K (.exit id) e w
def vRet : ((List (Nat × Value)) → World → (Exit → (List (Nat × Value)) → World → Prop) → Prop) := fun e w K => K .ret e w
def vNo : ((List (Nat × Value)) → World → (Exit → (List (Nat × Value)) → World → Prop) → Prop) := fun _ _ _ => False

def vc (P : Program) (T : Tab) (N : Nat) (B : (List (Nat × Value))) (c : Code) : ((List (Nat × Value)) → World → (Exit → (List (Nat × Value)) → World → Prop) → Prop) :=
  Code.rec (motive := fun _ => ((List (Nat × Value)) → World → (Exit → (List (Nat × Value)) → World → Prop) → Prop)) vSkip (fun i ops d => vRegion P T N B i ops d) (fun _ _ x y => vSeq x y) (fun c a b x y => vCond P T N B c a b x y)
    (fun id _ x => vBlock id x) (fun c _ => vLoop P T N B c) (fun _ _ _ _ _ _ => vNo) (fun id => vExit id) (fun _ _ => vNo) (fun _ => vSkip) (fun _ => vNo) vRet (fun _ => vNo) c

theorem opt_elim {α : Type} {x : Option α} {K : α → Prop} (h : opt x K) : ∃ v, x = some v ∧ K v := by
  cases x with
  | none => exact h.elim
  | some v => exact ⟨v, rfl, h⟩

theorem evL_elim {e : (List (Nat × Value))} : ∀ {l : List Operand} {K : List Value → Prop}, evL e l K →
    ∃ vs, K vs ∧ ∀ ρ : Operand → Value, (∀ x ∈ l, ∀ v, ev e x = some v → ρ x = v) → l.map ρ = vs
  | [], K, h => ⟨[], h, fun _ _ => rfl⟩
  | x :: r, K, h => by
    obtain ⟨v, hv, h⟩ := opt_elim h
    obtain ⟨vs, hk, hm⟩ := evL_elim h
    refine ⟨v :: vs, hk, fun ρ hρ => ?_⟩
    rw [List.map_cons, hρ x (by simp) v hv, hm ρ (fun y hy => hρ y (by simp [hy]))]

theorem evP_elim {e : (List (Nat × Value))} : ∀ {l : List (Nat × Operand)} {K : List (Nat × Value) → Prop}, evP e l K →
    ∃ vs, K vs ∧ ∀ ρ : Operand → Value, (∀ x ∈ l.map (·.2), ∀ v, ev e x = some v → ρ x = v) → (l.map fun (i, x) => (i, ρ x)) = vs
  | [], K, h => ⟨[], h, fun _ _ => rfl⟩
  | (i, x) :: r, K, h => by
    obtain ⟨v, hv, h⟩ := opt_elim h
    obtain ⟨vs, hk, hm⟩ := evP_elim h
    refine ⟨(i, v) :: vs, hk, fun ρ hρ => ?_⟩
    rw [List.map_cons, hm ρ (fun y hy => hρ y (by simp at hy ⊢; exact Or.inr hy))]
    show (i, ρ x) :: vs = _
    rw [hρ x (by simp) v hv]

theorem evO_elim {e : (List (Nat × Value))} {x : Option Operand} {K : Option Value → Prop} (h : evO e x K) :
    ∃ v, K v ∧ ∀ ρ : Operand → Value, (∀ y ∈ x.toArray, ∀ v, ev e y = some v → ρ y = v) → x.map ρ = v := by
  cases x with
  | none => exact ⟨none, h, fun _ _ => rfl⟩
  | some x =>
    obtain ⟨v, hv, h⟩ := opt_elim h
    exact ⟨some v, h, fun ρ hρ => by rw [Option.map_some, hρ x (by simp) v hv]⟩

section
variable {P : Program} {T : Tab} {o : Oper} {a : Act} {w w' : World} {K : Value → World → Prop} {Q : Exit → Act → World → Prop} {v : Value}

def Post (a : Act) (o : Oper) (K : Value → World → Prop) : Act → World → Prop := fun a' w' => ∃ v, a' = a.put o.dst v ∧ K v w'

theorem up_value (h : (execOp a.eval o).run P w = .ok (.value v) w') (hk : K v w') : o.wp P a w (Post a o K) Q := by
  simp only [Oper.wp, h, Oper.upon_value]
  exact ⟨v, rfl, hk⟩

theorem up_skip (h : (execOp a.eval o).run P w = .ok .skip w') (hk : K undef w') : o.wp P a w (Post a o K) Q := by
  simp only [Oper.wp, h, Oper.upon_skip]
  exact ⟨undef, rfl, hk⟩

theorem up_do {s : Sem Value} (hd : Do P s w K) (h : execOp a.eval o = (do pure (Next.value (← s)))) : o.wp P a w (Post a o K) Q := by
  obtain ⟨v, w', hr, hk⟩ := hd.out
  exact up_value (by rw [h]; simp [hr]) hk

theorem up_doU {s : Sem Unit} (hd : DoU P s w fun w' => K undef w') (h : execOp a.eval o = (do s; pure Next.skip)) : o.wp P a w (Post a o K) Q := by
  obtain ⟨w', hr, hk⟩ := hd.out
  exact up_skip (by rw [h]; simp [hr]) hk

theorem up_enter {f : FuncId} {args : Array Value} (h : (execOp a.eval o).run P w = .ok (.enter f args) w')
    (hk : Calls P f args w' fun e w' => ∃ v, e = .returned v ∧ K v w') : o.wp P a w (Post a o K) Q := by
  simp only [Oper.wp, h, Oper.upon_enter]
  refine hk.mono fun e w' he => ?_
  obtain ⟨v, rfl, hk⟩ := he
  exact ⟨v, rfl, hk⟩

theorem up_doN {s : Sem Next} (hd : DoN P s w K) (h : execOp a.eval o = s) : o.wp P a w (Post a o K) Q := by
  rcases hd.out with ⟨v, w', hr, hk⟩ | ⟨f, args, w', hr, hk⟩
  · exact up_value (by rw [h]; exact hr) hk
  · exact up_enter (by rw [h]; exact hr) hk

theorem up_pure (hk : K v w) (h : execOp a.eval o = pure (Next.value v)) : o.wp P a w (Post a o K) Q :=
  up_value (by rw [h]; rfl) hk

end

theorem sameK_elim {j k : IntKind} {A : Prop} (h : sameK j k A) : j = k ∧ A := by
  unfold sameK at h
  split at h
  · rename_i hd; exact ⟨of_decide_eq_true hd, h⟩
  · exact h.elim

theorem eqGuard_int {P : Program} {op : BinOp} {t : TypeId} {xo yo : Operand} {k k' : IntKind} {m n : Int} {w : World} :
    (eqGuard op t xo yo (.int k m) (.int k' n)).run P w = .ok () w := by
  unfold eqGuard
  cases op <;> simp

theorem eqGuard_int' {op : BinOp} {t : TypeId} {xo yo : Operand} {k k' : IntKind} {m n : Int} :
    eqGuard op t xo yo (.int k m) (.int k' n) = pure () := by
  unfold eqGuard
  cases op <;> simp

theorem binR_elim {P : Program} {op : BinOp} {t : TypeId} {xo yo : Operand} {x y : Value} {w : World} {K : Value → World → Prop}
    (h : binR P op t xo yo x y w K) : Do P (do eqGuard op t xo yo x y; binOp op t x y) w K := by
  unfold binR at h
  split at h
  · rename_i k m k' n
    cases op <;> simp only at h
    case shl => obtain ⟨h0, h⟩ := h; exact ⟨_, w, by rw [eqGuard_int']; simp [binOp, Op.shift, Int.not_lt.2 h0], h.out⟩
    case shr => obtain ⟨h0, h⟩ := h; exact ⟨_, w, by rw [eqGuard_int']; simp [binOp, Op.shift, Int.not_lt.2 h0], h.out⟩
    case quo => obtain ⟨hk, h0, h2⟩ := sameK_elim h; subst hk; exact ⟨_, w, by rw [eqGuard_int']; simp [binOp, Op.intDiv, h0], h2.out⟩
    case rem => obtain ⟨hk, h0, h2⟩ := sameK_elim h; subst hk; exact ⟨_, w, by rw [eqGuard_int']; simp [binOp, Op.intDiv, h0], h2.out⟩
    all_goals
      obtain ⟨hk, h2⟩ := sameK_elim h
      subst hk
      first | refine ⟨_, w, ?_, h2.out⟩ | refine ⟨_, w, ?_, h2⟩
      rw [eqGuard_int']
      simp [binOp, Op.intArith, Op.intBits, Op.intCmp]
  · exact h

theorem unR_elim {P : Program} {op : UnOp} {x : Value} {w : World} {K : Value → World → Prop} (h : unR P op x w K) : Do P (Op.unary op x) w K := by
  unfold unR at h
  split at h
  · exact ⟨_, w, by simp [Op.unary, Op.intArith], h.out⟩
  · exact ⟨_, w, by simp [Op.unary], h⟩
  · exact h

theorem addAt_elim {a : Addr} {n : Nat} {K : Addr → Prop} (h : addAt a n K) : a.spot = none ∧ K (a.add n) := by
  obtain ⟨b, o, s⟩ := a
  cases s with
  | some s => exact h.elim
  | none =>
    refine ⟨rfl, ?_⟩
    unfold Addr.add
    by_cases hn : n = 0
    · subst hn; simpa [addAt] using h
    · simp [hn]; exact h

theorem find_mem {α : Type} : ∀ {l : List (Nat × α)} {t : Nat} {d : α}, find l t = some d → (t, d) ∈ l
  | [], _, _, h => by cases h
  | (j, v) :: r, t, d, h => by
    unfold find at h
    split at h
    · rename_i hb; cases h; have := Nat.eq_of_beq_eq_true hb; subst this; simp
    · exact List.mem_cons_of_mem _ (find_mem h)

theorem TabOk.und {P : Program} {T : Tab} (hT : TabOk P T) {t : Nat} {d : TypeDesc} (h : T.d t = some d) (w : World) : (underlying t).run P w = .ok d w :=
  run_underlying (hT.d _ (find_mem h)) w

theorem TabOk.siz {P : Program} {T : Tab} (hT : TabOk P T) {t : Nat} {d : Nat} (h : T.s t = some d) (w : World) : (sizeOf t).run P w = .ok d w :=
  hT.s _ (find_mem h) w

theorem TabOk.zer {P : Program} {T : Tab} (hT : TabOk P T) {t : Nat} {d : Value} (h : T.z t = some d) (w : World) : (zeroValue t).run P w = .ok d w :=
  hT.z _ (find_mem h) w

def aggD : TypeDesc → Bool
  | .struct _ => true
  | .array _ _ => true
  | _ => false

theorem isAgg_run {P : Program} {T : Tab} (hT : TabOk P T) {t : Nat} {d : TypeDesc} (h : T.d t = some d) (w : World) :
    (isAgg t).run P w = .ok (aggD d) w := by
  simp only [isAgg, Sem.run_bind, hT.und h, Result.andThen_ok]
  cases d <;> rfl

theorem loadCellsFrom_run {P : Program} {a : Addr} {w : World} : ∀ (n i : Nat) (acc : Array Value) (vs : List Value), vs.length = n → (∀ k, k < n → w.cell? (a.add (i + k)) = vs[k]?) →
    (loadCellsFrom a i n acc).run P w = .ok (acc ++ vs.toArray) w
  | 0, i, acc, vs, hl, h => by
    have : vs = [] := List.length_eq_zero_iff.1 hl
    subst this
    simp [loadCellsFrom]
  | n + 1, i, acc, vs, hl, h => by
    cases vs with
    | nil => simp at hl
    | cons v r =>
      have h0 := h 0 (by omega)
      simp only [Nat.add_zero, List.getElem?_cons_zero] at h0
      have := loadCellsFrom_run (P := P) n (i + 1) (acc.push v) r (by simpa using hl) (fun k hk => by
        have := h (k + 1) (by omega)
        rw [show i + 1 + k = i + (k + 1) by omega, this]; simp)
      simp only [loadCellsFrom, Sem.run_bind, run_load, h0, Result.andThen_ok, this]
      congr 1
      apply Array.toList_inj.1; simp

theorem loadR_elim {P : Program} {T : Tab} (hT : TabOk P T) {t : TypeId} {v : Value} {w : World} {K : Value → Prop} (h : loadR T t v w K) :
    ∃ u, (Instr.loadAt t v).run P w = .ok u w ∧ K u := by
  unfold loadR at h
  have agg : ∀ {d : TypeDesc} {a : Addr}, T.d t = some d → aggD d = true →
      (opt (T.s t) fun n => LdN w a n fun vs => K (.agg vs.toArray)) → ∃ u, (Instr.loadAt t (.pointer (some a))).run P w = .ok u w ∧ K u := by
    intro d a hd hagg h
    obtain ⟨n, hn, vs, hl, hc, hk⟩ := opt_elim h
    refine ⟨_, ?_, hk⟩
    simp only [Instr.loadAt, Instr.sureAddr, loadVar, pure_bind, Sem.run_bind, isAgg_run hT hd, hagg, Result.andThen_ok, if_true, hT.siz hn, loadCells,
      loadCellsFrom_run n 0 #[] vs hl (fun k hk => by simpa using hc k hk), Sem.run_pure]
    simp
  split at h
  · rename_i fs a hd; exact agg hd rfl h
  · rename_i n el a hd; exact agg hd rfl h
  · rename_i d a hn1 hn2 hd
    obtain ⟨u, hu, hk⟩ := h
    refine ⟨u, ?_, hk⟩
    have hagg : aggD d = false := by
      cases d <;> first | rfl | exact (hn1 _ rfl).elim | exact (hn2 _ _ rfl).elim
    simp only [Instr.loadAt, Instr.sureAddr, loadVar, pure_bind, Sem.run_bind, isAgg_run hT hd, hagg, Result.andThen_ok, Bool.false_eq_true, if_false, run_load, hu]
  · exact h.elim

theorem oneCell_eq (v : Value) : oneCell v = v.oneCell' := by cases v <;> rfl

theorem cells_of_one {v : Value} (h : oneCell v = true) : v.cells = #[v] := by cases v <;> first | rfl | cases h

theorem heap_setCell (w : World) (a : Addr) (v : Value) (b : Nat) : (w.setCell a v).heap[b]? = if a.block = b then (w.heap[b]?).map (fun
      | .cells c elem frozen => .cells (if a.spot.isSome then c else c.setIfInBounds a.off v) elem frozen
      | o => o) else w.heap[b]? := by
  simp only [World.setCell, Array.getElem?_modify]
  rfl

theorem setCell_cell_some {w : World} {a x : Addr} {v u : Value} (h : w.cell? x = some u) : ∃ u', (w.setCell a v).cell? x = some u' := by
  unfold World.cell? at h ⊢
  rw [heap_setCell]
  by_cases hb : a.block = x.block
  · rw [if_pos hb]
    cases ho : w.heap[x.block]? with
    | none => rw [ho] at h; cases h
    | some o =>
      rw [ho] at h
      cases o <;> simp only at h <;> try (cases h)
      rename_i c el fr
      simp only [Option.map_some]
      by_cases hs : x.spot.isSome = true
      · rw [if_pos hs] at h; cases h
      · rw [if_neg hs] at h ⊢
        have hlt : x.off < c.size := by
          rcases Nat.lt_or_ge x.off c.size with h' | h'
          · exact h'
          · rw [Array.getElem?_eq_none h'] at h; cases h
        split
        · exact ⟨_, h⟩
        · exact ⟨_, Array.getElem?_eq_getElem (by simpa using hlt)⟩
  · rw [if_neg hb]; exact ⟨u, h⟩

theorem setCell_frozen {w : World} {a x : Addr} {v : Value} : (w.setCell a v).frozen? x = w.frozen? x := by
  unfold World.frozen?
  rw [heap_setCell]
  by_cases hb : a.block = x.block
  · rw [if_pos hb]
    cases ho : w.heap[x.block]? with
    | none => rfl
    | some o => cases o <;> rfl
  · rw [if_neg hb]

theorem storeCells_run {P : Program} {a : Addr} : ∀ (vs : List Value) (i : Nat) (w : World), (∀ v ∈ vs, oneCell v = true) →
    (∀ k, k < vs.length → (∃ u, w.cell? (a.add (i + k)) = some u) ∧ w.frozen? (a.add (i + k)) = false) → (storeCells a vs i).run P w = .ok () (setCells w a vs i)
  | [], i, w, _, _ => by simp [storeCells, setCells]
  | v :: r, i, w, h1, h2 => by
    obtain ⟨⟨u, hu⟩, hfz⟩ := h2 0 (by simp)
    simp only [Nat.add_zero] at hu hfz
    have ih := storeCells_run (P := P) (a := a) r (i + 1) (w.setCell (a.add i) v) (fun x hx => h1 x (by simp [hx])) (fun k hk => by
      obtain ⟨⟨u', hu'⟩, hfz'⟩ := h2 (k + 1) (by simpa using hk)
      rw [show i + 1 + k = i + (k + 1) by omega]
      exact ⟨setCell_cell_some hu', by rw [setCell_frozen]; exact hfz'⟩)
    have hone : v.oneCell' = true := by rw [← oneCell_eq]; exact h1 v (by simp)
    simp only [storeCells, Sem.run_bind, run_store _ _ _ _ _ hone, hu, hfz, Bool.false_eq_true, if_false, Result.andThen_ok, ih, setCells]

theorem storeR_elim {P : Program} {T : Tab} (hT : TabOk P T) {t : TypeId} {v x : Value} {w : World} {K : World → Prop} (h : storeR T t v x w K) :
    ∃ w', (Instr.storeAt t v x).run P w = .ok () w' ∧ K w' := by
  unfold storeR at h
  split at h
  · rename_i n a cs hn
    split at h
    · rename_i hb
      obtain ⟨h1, h2, hk⟩ := h
      refine ⟨_, ?_, hk⟩
      have hlen : cs.size = n := by simpa using Nat.eq_of_beq_eq_true hb
      have := storeCells_run (P := P) cs.toList 0 w h1 (fun k hk => by simpa using h2 k hk)
      simp only [Instr.storeAt, Instr.sureAddr, pure_bind, storeVar, Sem.run_bind, hT.siz hn, Result.andThen_ok, Value.cells, hlen, ne_eq, not_true_eq_false, if_false, this]
    · exact h.elim
  · rename_i x _ _ _ a hn hne
    obtain ⟨h1, ⟨u, hu⟩, hfz, hk⟩ := h
    refine ⟨_, ?_, hk⟩
    have hone : x.oneCell' = true := by rw [← oneCell_eq]; exact h1
    have ha : a.add 0 = a := by simp [Addr.add]
    simp only [Instr.storeAt, Instr.sureAddr, pure_bind, storeVar, Sem.run_bind, hT.siz hn, Result.andThen_ok, cells_of_one h1]
    simp [storeCells, run_store _ _ _ _ _ hone, ha, hu, hfz]
  · exact h.elim

theorem nw_run {P : Program} {el : TypeId} {v : Value} {w : World} : (Instr.box el v).run P w = .ok (.pointer (some ⟨w.heap.size, 0, none⟩)) (World.alloc w (.cells v.cells el)) := by
  simp [Instr.box, newVar, newRow]

theorem fieldR_elim {P : Program} {T : Tab} (hT : TabOk P T) {s : TypeId} {x : Value} {f : Nat} {w : World} {K : Value → Prop} (h : fieldR T s x f K) :
    ∃ v, (Instr.fieldAt s x f).run P w = .ok v w ∧ K v := by
  unfold fieldR at h
  split at h
  · rename_i fs a hd
    split at h
    · rename_i fd hf
      split at h
      · rename_i n hs
        obtain ⟨_, h⟩ := addAt_elim h
        refine ⟨_, ?_, h⟩
        have hf' : fs[f]? = some fd := by simpa using hf
        simp [Instr.fieldAt, hT.und hd, hf', Instr.sureAddr, fieldPlace, hT.siz hs]
      · exact h.elim
    · exact h.elim
  · exact h.elim

theorem indexR_elim {P : Program} {T : Tab} (hT : TabOk P T) {t : TypeId} {x : Value} {k : IntKind} {i : Int} {w : World} {K : Value → Prop} (h : indexR T t x i K) :
    ∃ v, (Instr.indexAt t x (.int k i)).run P w = .ok v w ∧ K v := by
  unfold indexR at h
  split at h
  · rename_i el a len c hd
    split at h
    · rename_i hs
      obtain ⟨h0, h1, h⟩ := h
      obtain ⟨_, h⟩ := addAt_elim h
      refine ⟨_, ?_, h⟩
      simp [Instr.indexAt, asIntOf, hT.und hd, hT.siz hs, h0, h1]
    · rename_i n hn hs
      obtain ⟨h0, h1, h⟩ := h
      obtain ⟨_, h⟩ := addAt_elim h
      refine ⟨_, ?_, h⟩
      simp [Instr.indexAt, asIntOf, hT.und hd, hT.siz hs, h0, h1]
    · exact h.elim
  · rename_i len el a hd
    split at h
    · rename_i hs
      obtain ⟨h0, h1, h⟩ := h
      obtain ⟨_, h⟩ := addAt_elim h
      refine ⟨_, ?_, h⟩
      simp [Instr.indexAt, asIntOf, hT.und hd, hT.siz hs, h0, h1, Instr.sureAddr]
    · rename_i n hn hs
      obtain ⟨h0, h1, h⟩ := h
      obtain ⟨_, h⟩ := addAt_elim h
      refine ⟨_, ?_, h⟩
      simp [Instr.indexAt, asIntOf, hT.und hd, hT.siz hs, h0, h1, Instr.sureAddr]
    · exact h.elim
  · exact h.elim

theorem setK_elim : ∀ {cs : List Value} {n : Nat} {v : Value} {K : List Value → Prop}, setK cs n v K → n < cs.length ∧ K (cs.set n v)
  | [], _, _, _, h => h.elim
  | _ :: r, 0, v, K, h => ⟨by simp, h⟩
  | u :: r, n + 1, v, K, h => by
    obtain ⟨h1, h2⟩ := setK_elim (cs := r) h
    exact ⟨by simpa using h1, h2⟩

theorem setsK_elim : ∀ {vs : List Value} {off : Nat} {cs : List Value} {K : List Value → Prop}, setsK vs off cs K →
    ∃ l, K l ∧ l.length = cs.length ∧ (vs = [] ∨ off + vs.length ≤ cs.length) ∧ ∀ (A : Array Value) (o k : Nat), A.toList = cs → o + k = off →
      ((vs.zipIdx k).foldl (fun cs (x : Value × Nat) => cs.setIfInBounds (o + x.2) x.1) A).toList = l
  | [], off, cs, K, h => ⟨cs, h, rfl, .inl rfl, fun A o k hA _ => hA⟩
  | v :: r, off, cs, K, h => by
    obtain ⟨h1, h⟩ := setK_elim h
    obtain ⟨l, hk, hl, hle, hf⟩ := setsK_elim h
    refine ⟨l, hk, by simpa using hl, .inr ?_, ?_⟩
    · rcases hle with rfl | hle
      · simp only [List.length_cons, List.length_nil]; omega
      · simp only [List.length_set, List.length_cons] at hle ⊢; omega
    · intro A o k hA hok
      rw [List.zipIdx_cons, List.foldl_cons]
      exact hf _ o (k + 1) (by simp [hA, hok]) (by omega)

theorem fillK_elim {pl : List (Nat × Nat)} : ∀ {ps : List (Nat × Value)} {cs : List Value} {K : List Value → Prop}, fillK pl ps cs K →
    ∃ l, K l ∧ Instr.fill (pl.toArray[·]?) cs.toArray ps = some l.toArray
  | [], cs, K, h => ⟨cs, h, rfl⟩
  | (i, v) :: r, cs, K, h => by
    unfold fillK at h
    split at h
    · rename_i off size hp
      split at h
      · rename_i hb
        have hs : v.cells.size = size + 1 := by simpa using Nat.eq_of_beq_eq_true hb
        obtain ⟨l, h, hl, hle, hf⟩ := setsK_elim h
        obtain ⟨l2, hk, hfill⟩ := fillK_elim h
        refine ⟨l2, hk, ?_⟩
        have hp' : pl.toArray[i]? = some (off, size + 1) := by simpa using hp
        have hfold := hf cs.toArray off 0 (by simp) rfl
        simp only [Instr.fill, hp']
        rw [if_neg (by
          simp only [hs, ne_eq, not_true_eq_false, decide_false, Bool.false_or, decide_eq_true_eq, List.size_toArray]
          rcases hle with h0 | h0
          · have : v.cells.size = 0 := by have := congrArg List.length h0; simpa using this
            omega
          · simp only [Array.length_toList, hs] at h0; omega)]
        rw [← hfill]
        congr 1
        apply Array.toList_inj.1
        rw [← Array.foldl_toList]
        simp only [Array.toList_zipIdx]
        exact hfold
      · exact h.elim
    · exact h.elim

theorem fillA_elim {s : Nat} : ∀ {ps : List (Nat × Value)} {cs : List Value} {K : List Value → Prop}, fillA s ps cs K →
    ∃ l, K l ∧ Instr.fill (fun i => some (i * (s + 1), s + 1)) cs.toArray ps = some l.toArray
  | [], cs, K, h => ⟨cs, h, rfl⟩
  | (i, v) :: r, cs, K, h => by
    unfold fillA at h
    split at h
    · rename_i hb
      have hs : v.cells.size = s + 1 := by simpa using Nat.eq_of_beq_eq_true hb
      obtain ⟨l, h, hl, hle, hf⟩ := setsK_elim h
      obtain ⟨l2, hk, hfill⟩ := fillA_elim h
      refine ⟨l2, hk, ?_⟩
      have hfold := hf cs.toArray (i * (s + 1)) 0 (by simp) rfl
      simp only [Instr.fill]
      rw [if_neg (by
        simp only [hs, ne_eq, not_true_eq_false, decide_false, Bool.false_or, decide_eq_true_eq, List.size_toArray]
        rcases hle with h0 | h0
        · have : v.cells.size = 0 := by have := congrArg List.length h0; simpa using this
          omega
        · simp only [Array.length_toList, hs] at h0; omega)]
      rw [← hfill]
      congr 1
      apply Array.toList_inj.1
      rw [← Array.foldl_toList]
      simp only [Array.toList_zipIdx]
      exact hfold
    · exact h.elim

theorem placesL_run {P : Program} {T : Tab} (hT : TabOk P T) (w : World) : ∀ {fs : List Field} {pl : List (Nat × Nat)}, placesL T fs = some pl →
    (fs.mapM fun f => do pure (f.offset, ← sizeOf f.type) : Sem (List (Nat × Nat))).run P w = .ok pl w
  | [], pl, h => by cases h; simp
  | f :: r, pl, h => by
    unfold placesL at h
    split at h
    · rename_i n l hn hl
      cases h
      rw [List.mapM_cons]
      simp only [Sem.run_bind, hT.siz hn, Result.andThen_ok, Sem.run_pure, placesL_run hT w hl]
    · cases h

theorem buildK_elim {P : Program} {T : Tab} (hT : TabOk P T) {t : TypeId} {ps : List (Nat × Value)} {K : Value → Prop} (h : buildK T t ps K) :
    ∃ u, (∀ w, (Instr.build t ps.toArray).run P w = .ok u w) ∧ K u := by
  unfold buildK at h
  split at h
  · rename_i fs z hd hz
    obtain ⟨pl, hpl, h⟩ := opt_elim h
    obtain ⟨l, hk, hfill⟩ := fillK_elim h
    refine ⟨_, fun w => ?_, hk⟩
    have hm : (fs.mapM fun f => do pure (f.offset, ← sizeOf f.type) : Sem (Array (Nat × Nat))).run P w = .ok pl.toArray w := by
      rw [← Array.toArray_toList (xs := fs), List.mapM_toArray]
      simp only [Sem.run_map, placesL_run hT w hpl, Result.andThen_ok]
    have hfill' : Instr.fill (pl.toArray[·]?) z ps = some l.toArray := by simpa using hfill
    simp only [Instr.build, Sem.run_bind, hT.zer hz, hT.und hd, Result.andThen_ok, Value.cells, hm, hfill', Sem.run_pure]
  · rename_i n el z hd hz
    split at h
    · rename_i s hs
      obtain ⟨l, hk, hfill⟩ := fillA_elim h
      refine ⟨_, fun w => ?_, hk⟩
      have hfill' : Instr.fill (fun i => some (i * (s + 1), s + 1)) z ps = some l.toArray := by simpa using hfill
      simp only [Instr.build, Sem.run_bind, hT.zer hz, hT.und hd, hT.siz hs, Result.andThen_ok, Value.cells, hfill', Sem.run_pure]
    · exact h.elim
  · exact h.elim

theorem fillAll_elim {s : Nat} : ∀ {ps : List (Nat × Value)} {k : Nat} {K : List Value → Prop}, fillAll s k ps K →
    ∃ l, K l ∧ l.length = ps.length * s ∧ (∀ cells : Array Value, cells.size = (k + ps.length) * s →
      ∃ out, Instr.fill (fun i => some (i * s, s)) cells ps = some out ∧ out.size = cells.size ∧ (∀ i, i < k * s → out[i]? = cells[i]?) ∧ (∀ i, out[k * s + i]? = l[i]?))
  | [], k, K, h => ⟨[], h, by simp, fun cells hc => ⟨cells, rfl, rfl, fun _ _ => rfl, fun i => by
      rw [Array.getElem?_eq_none (by simp at hc; omega)]; simp⟩⟩
  | (i, v) :: r, k, K, h => by
    unfold fillAll at h
    split at h
    · rename_i hb1 hb2
      have hi := Nat.eq_of_beq_eq_true hb1
      have hs : v.cells.size = s := by simpa using Nat.eq_of_beq_eq_true hb2
      subst hi
      obtain ⟨l, hk, hl, hfill⟩ := fillAll_elim h
      refine ⟨_, hk, ?_, ?_⟩
      · simp only [List.length_append, List.length_cons, hl, Array.length_toList, hs, Nat.add_mul, Nat.one_mul]; omega
      · intro cells hc
        have setl : ∀ (vs : List Value) (j : Nat) (cs : Array Value), (vs.zipIdx j).foldl (fun cs (x : Value × Nat) => cs.setIfInBounds (i * s + x.2) x.1) cs =
            (vs.zipIdx j).foldl (fun cs (c, j) => cs.setIfInBounds (i * s + j) c) cs := fun _ _ _ => rfl
        have fold : ∀ (vs : List Value) (j : Nat) (cs : Array Value), i * s + j + vs.length ≤ cs.size →
            ((vs.zipIdx j).foldl (fun cs (x : Value × Nat) => cs.setIfInBounds (i * s + x.2) x.1) cs).size = cs.size ∧
            (∀ n, n < i * s + j → ((vs.zipIdx j).foldl (fun cs (x : Value × Nat) => cs.setIfInBounds (i * s + x.2) x.1) cs)[n]? = cs[n]?) ∧
            (∀ n, n < vs.length → ((vs.zipIdx j).foldl (fun cs (x : Value × Nat) => cs.setIfInBounds (i * s + x.2) x.1) cs)[i * s + j + n]? = vs[n]?) ∧
            (∀ n, i * s + j + vs.length ≤ n → ((vs.zipIdx j).foldl (fun cs (x : Value × Nat) => cs.setIfInBounds (i * s + x.2) x.1) cs)[n]? = cs[n]?) := by
          intro vs
          induction vs with
          | nil => intro j cs _; exact ⟨rfl, fun _ _ => rfl, fun n hn => by simp at hn, fun _ _ => rfl⟩
          | cons u r ih =>
            intro j cs hle
            simp only [List.length_cons] at hle
            obtain ⟨a1, a2, a3, a4⟩ := ih (j + 1) (cs.setIfInBounds (i * s + j) u) (by rw [Array.size_setIfInBounds]; omega)
            simp only [List.zipIdx_cons, List.foldl_cons]
            refine ⟨by rw [a1]; simp, ?_, ?_, ?_⟩
            · intro n hn
              rw [a2 n (by omega), Array.getElem?_setIfInBounds_ne (by omega)]
            · intro n hn
              cases n with
              | zero => rw [a2 _ (by omega)]; simp only [Nat.add_zero]; rw [Array.getElem?_setIfInBounds_self_of_lt (by omega)]; rfl
              | succ n =>
                have := a3 n (by simpa using hn)
                rw [show i * s + j + (n + 1) = i * s + (j + 1) + n by omega, this]; simp
            · intro n hn
              simp only [List.length_cons] at hn
              rw [a4 n (by omega), Array.getElem?_setIfInBounds_ne (by omega)]
        have hc' : cells.size = i * s + s + r.length * s := by rw [hc]; simp only [List.length_cons, Nat.add_mul, Nat.one_mul]; omega
        have hvl : v.cells.toList.length = s := by simpa using hs
        obtain ⟨b1, b2, b3, b4⟩ := fold v.cells.toList 0 cells (by rw [hvl]; omega)
        obtain ⟨out, ho, hsz, hlow, hhi⟩ := hfill _ (show _ = (i + 1 + r.length) * s by rw [b1, hc]; simp only [List.length_cons]; congr 1; omega)
        refine ⟨out, ?_, by rw [hsz, b1], ?_, ?_⟩
        · simp only [Instr.fill]
          rw [if_neg (by simp [hs]; omega)]
          rw [← ho]
          congr 1
          rw [← Array.foldl_toList]
          simp only [Array.toList_zipIdx]
        · intro n hn
          rw [hlow n (by simp only [Nat.add_mul, Nat.one_mul]; omega), b2 n (by omega)]
        · intro n
          by_cases hn : n < s
          · rw [hlow _ (by simp only [Nat.add_mul, Nat.one_mul]; omega)]
            have := b3 n (by rw [hvl]; exact hn)
            rw [Nat.add_zero] at this
            rw [this, List.getElem?_append_left (by rw [hvl]; exact hn)]
          · have := hhi (n - s)
            rw [show (i + 1) * s + (n - s) = i * s + n by simp only [Nat.add_mul, Nat.one_mul]; omega] at this
            rw [this, List.getElem?_append_right (by rw [hvl]; omega), hvl]
    · exact h.elim

theorem buildSliceR_elim {P : Program} {T : Tab} (hT : TabOk P T) {t : TypeId} {n : Nat} {ps : List (Nat × Value)} {w : World} {K : Value → World → Prop} (h : buildSliceR P T t n ps w K) :
    ∃ u w', (Instr.buildSlice t n ps.toArray).run P w = .ok u w' ∧ K u w' := by
  unfold buildSliceR at h
  split at h
  · rename_i el hd
    split at h
    · rename_i s hs
      split at h
      · rename_i hb _
        have hps : ps = [] := List.length_eq_zero_iff.1 (Nat.eq_of_beq_eq_true hb)
        subst hps
        refine ⟨_, _, ?_, h.out⟩
        have hr0 : Array.range 0 = #[] := rfl
        simp [Instr.buildSlice, hT.und hd, hT.siz hs, Instr.fill, newRow, hr0]
      · rename_i n _ _ _ _ z hn0 hz hb1 hb2
        split at h
        · rename_i hzl
          obtain ⟨l, h, hl, hfill⟩ := fillAll_elim h
          refine ⟨_, _, ?_, h.out⟩
          have hlen := Nat.eq_of_beq_eq_true hb1
          have hle := Nat.le_of_ble_eq_true hb2
          have hzs : z.cells.size = s + 1 := by simpa using Nat.eq_of_beq_eq_true hzl
          have hn1 : n * (s + 1) ≠ 0 := by
            have : n ≠ 0 := fun h0 => hn0 h0
            exact Nat.mul_ne_zero this (by omega)
          obtain ⟨out, ho, hsz, _, hhi⟩ := hfill ((Array.range (n * (s + 1))).map (z.cells[· % z.cells.size]!)) (by simp [hlen])
          have hout : out = l.toArray := by
            apply Array.ext_getElem?
            intro i
            have := hhi i
            simpa using this
          simp [Instr.buildSlice, hT.und hd, hT.siz hs, hT.zer hz, hn1, Nat.not_lt.2 hle, newRow, ho, hout]
        · exact h.elim
      · obtain ⟨v, w', hr, hk⟩ := h; exact ⟨v, w', hr, hk⟩
    · exact h.elim
  · exact h.elim

theorem vcOp_sound {P : Program} {T : Tab} (hT : TabOk P T) {o : Oper} {e : (List (Nat × Value))} {w : World} {K : Value → World → Prop} {a : Act} {Q : Exit → Act → World → Prop}
    (h : vcOp P T o e w K) (hx : ∀ x ∈ o.op.operands, ∀ v, ev e x = some v → a.eval x = v) : o.wp P a w (Post a o K) Q := by
  obtain ⟨dst, op, type, pos, after, guard⟩ := o
  unfold vcOp at h
  cases op <;> simp only at h
  case move x =>
    obtain ⟨v, hv, h⟩ := opt_elim h
    exact up_pure h (by simp [execOp, hx x (by simp [Op.operands]) v hv])
  case assign x =>
    obtain ⟨v, hv, h⟩ := opt_elim h
    exact up_pure h (by simp [execOp, hx x (by simp [Op.operands]) v hv])
  case pick c x y =>
    obtain ⟨vc, hc, h⟩ := opt_elim h
    have hc' := hx c (by simp [Op.operands]) vc hc
    split at h
    · rename_i t
      obtain ⟨h1, h2⟩ := h
      cases t with
      | true =>
        obtain ⟨v, hv, h⟩ := opt_elim (h1 rfl)
        exact up_pure h (by simp [execOp, hc', asBool, hx x (by simp [Op.operands]) v hv])
      | false =>
        obtain ⟨v, hv, h⟩ := opt_elim (h2 rfl)
        exact up_pure h (by simp [execOp, hc', asBool, hx y (by simp [Op.operands]) v hv])
    · exact h.elim
  case alloc el =>
    obtain ⟨z, hz, h⟩ := opt_elim h
    have hr : (Instr.alloc el true (.tuple #[])).run P w = .ok (.pointer (some ⟨w.heap.size, 0, none⟩)) (World.alloc w (.cells z.cells el)) := by
      simp [Instr.alloc, hT.zer hz, newVar, newRow]
    refine up_value (w' := World.alloc w (.cells z.cells el)) (v := .pointer (some ⟨w.heap.size, 0, none⟩)) (by simp [execOp, hr]) ?_
    cases z <;> exact Nw.out h
  case box el x =>
    obtain ⟨v, hv, h⟩ := opt_elim h
    refine up_value (w' := World.alloc w (.cells v.cells el)) (v := .pointer (some ⟨w.heap.size, 0, none⟩)) (by simp [execOp, hx x (by simp [Op.operands]) v hv, nw_run]) ?_
    cases v <;> exact Nw.out h
  case build t ps =>
    obtain ⟨vs, h, hm⟩ := evP_elim h
    have := hm a.eval (fun x hm v hv => hx x (by simpa [Op.operands] using hm) v hv)
    have e2 : (ps.map fun (i, x) => (i, a.eval x)) = vs.toArray := by rw [← this]; apply Array.toList_inj.1; simp
    obtain ⟨u, hr, h⟩ := buildK_elim (P := P) hT h
    exact up_value (w' := w) (by simp only [execOp]; rw [e2]; simp [hr w]) h
  case buildSlice t n ps =>
    obtain ⟨vs, h, hm⟩ := evP_elim h
    have := hm a.eval (fun x hm v hv => hx x (by simpa [Op.operands] using hm) v hv)
    have e2 : (ps.map fun (i, x) => (i, a.eval x)) = vs.toArray := by rw [← this]; apply Array.toList_inj.1; simp
    obtain ⟨u, w', hr, h⟩ := buildSliceR_elim hT h
    exact up_value (w' := w') (by simp only [execOp]; rw [e2]; simp [hr]) h
  case insert t m k x =>
    obtain ⟨v, hv, h⟩ := opt_elim h
    obtain ⟨v2, hv2, h⟩ := opt_elim h
    obtain ⟨v3, hv3, h⟩ := opt_elim h
    exact up_doU h (by simp [execOp, hx m (by simp [Op.operands]) v hv, hx k (by simp [Op.operands]) v2 hv2, hx x (by simp [Op.operands]) v3 hv3])
  case load t x =>
    obtain ⟨v, hv, h⟩ := opt_elim h
    obtain ⟨u, hr, h⟩ := loadR_elim hT h
    exact up_value (w' := w) (by simp [execOp, hx x (by simp [Op.operands]) v hv, hr]) h
  case store t x y =>
    obtain ⟨v, hv, h⟩ := opt_elim h
    obtain ⟨v2, hv2, h⟩ := opt_elim h
    obtain ⟨w', hr, h⟩ := storeR_elim hT h
    exact up_skip (w' := w') (by simp [execOp, hx x (by simp [Op.operands]) v hv, hx y (by simp [Op.operands]) v2 hv2, hr]) h
  case nilCheck x =>
    obtain ⟨v, hv, h⟩ := opt_elim h
    have hv' := hx x (by simp [Op.operands]) v hv
    split at h
    · exact up_pure h (by simp [execOp, hv'])
    · exact up_pure h (by simp [execOp, hv'])
    · exact up_pure h (by simp [execOp, hv'])
    · exact h.elim
  case binOp op t x y yt =>
    obtain ⟨v, hv, h⟩ := opt_elim h
    obtain ⟨v2, hv2, h⟩ := opt_elim h
    exact up_do (binR_elim h) (by simp [execOp, hx x (by simp [Op.operands]) v hv, hx y (by simp [Op.operands]) v2 hv2])
  case unOp op t x =>
    obtain ⟨v, hv, h⟩ := opt_elim h
    exact up_do (unR_elim h) (by simp [execOp, hx x (by simp [Op.operands]) v hv])
  case convert s d x =>
    obtain ⟨v, hv, h⟩ := opt_elim h
    have hv' := hx x (by simp [Op.operands]) v hv
    split at h
    · rename_i k k' n hd
      split at h
      · rename_i ds hs
        refine up_value (w' := w) (v := .int k (k.wrap n)) ?_ h.out
        simp [execOp, hv', convert, hT.und hd, hT.und hs, Conv.intToInt]
      · exact h.elim
    · exact up_do h (by simp [execOp, hv'])
  case makeInterface t x =>
    obtain ⟨v, hv, h⟩ := opt_elim h
    have hv' := hx x (by simp [Op.operands]) v hv
    split at h
    · exact h.elim
    · rename_i d hne hd
      refine up_value (w' := w) ?_ h
      simp only [execOp, hv', Instr.makeInterface, Sem.run_bind, hT.und hd, Result.andThen_ok]
      cases d <;> first | rfl | exact (hne _ rfl).elim
    · exact h.elim
  case makeFunc fn f c =>
    obtain ⟨l1, h, h1⟩ := evL_elim h
    obtain ⟨l2, h, h2⟩ := evL_elim h
    have e1 := h1 a.eval (fun x hm v hv => hx x (by simp [Op.operands]; exact Or.inl (by simpa using hm)) v hv)
    have e2 := h2 a.eval (fun x hm v hv => hx x (by simp [Op.operands]; exact Or.inr (by simpa using hm)) v hv)
    refine up_pure h ?_
    simp only [execOp, Instr.makeFunc]
    have e1' : f.map a.eval = l1.toArray := by rw [← e1]; apply Array.toList_inj.1; simp
    have e2' : c.map a.eval = l2.toArray := by rw [← e2]; apply Array.toList_inj.1; simp
    rw [e1', e2']; rfl
  case makeMap t r =>
    cases r with
    | none => exact up_value (w' := World.alloc w (.map #[] 0)) (v := .map (some w.heap.size)) (by simp [execOp, Instr.makeMap]) (Nw.out h)
    | some r =>
      obtain ⟨v, h, h1⟩ := evO_elim h
      have e1 := h1 a.eval (fun x hm v hv => hx x (by simpa [Op.operands] using hm) v hv)
      simp only [Option.map_some] at e1
      exact up_do h (by simp [execOp, e1])
  case makeSlice t x y =>
    obtain ⟨v, hv, h⟩ := opt_elim h
    obtain ⟨v2, hv2, h⟩ := opt_elim h
    exact up_do h (by simp [execOp, hx x (by simp [Op.operands]) v hv, hx y (by simp [Op.operands]) v2 hv2])
  case slice t x lo hi mx =>
    obtain ⟨v, hv, h⟩ := opt_elim h
    obtain ⟨v1, h, h1⟩ := evO_elim h
    obtain ⟨v2, h, h2⟩ := evO_elim h
    obtain ⟨v3, h, h3⟩ := evO_elim h
    have e1 := h1 a.eval (fun y hm v hv => hx y (by cases lo <;> simp [Op.operands] at hm ⊢; simp [hm]) v hv)
    have e2 := h2 a.eval (fun y hm v hv => hx y (by cases hi <;> simp [Op.operands] at hm ⊢; simp [hm]) v hv)
    have e3 := h3 a.eval (fun y hm v hv => hx y (by cases mx <;> simp [Op.operands] at hm ⊢; simp [hm]) v hv)
    exact up_do h (by simp [execOp, hx x (by simp [Op.operands]) v hv, e1, e2, e3])
  case fieldAddr s x f =>
    obtain ⟨v, hv, h⟩ := opt_elim h
    obtain ⟨v2, hr, h⟩ := fieldR_elim (w := w) hT h
    exact up_value (w' := w) (by simp [execOp, hx x (by simp [Op.operands]) v hv, hr]) h
  case field t x f =>
    obtain ⟨v, hv, h⟩ := opt_elim h
    exact up_do h (by simp [execOp, hx x (by simp [Op.operands]) v hv])
  case indexAddr t x i =>
    obtain ⟨v, hv, h⟩ := opt_elim h
    obtain ⟨v2, hv2, h⟩ := opt_elim h
    split at h
    · rename_i k n
      obtain ⟨v3, hr, h⟩ := indexR_elim (k := k) (w := w) hT h
      exact up_value (w' := w) (by simp [execOp, hx x (by simp [Op.operands]) v hv, hx i (by simp [Op.operands]) _ hv2, hr]) h
    · exact h.elim
  case index t x y =>
    obtain ⟨v, hv, h⟩ := opt_elim h
    obtain ⟨v2, hv2, h⟩ := opt_elim h
    exact up_do h (by simp [execOp, hx x (by simp [Op.operands]) v hv, hx y (by simp [Op.operands]) v2 hv2])
  case lookup t x y ok =>
    obtain ⟨v, hv, h⟩ := opt_elim h
    obtain ⟨v2, hv2, h⟩ := opt_elim h
    exact up_do h (by simp [execOp, hx x (by simp [Op.operands]) v hv, hx y (by simp [Op.operands]) v2 hv2])
  case mapUpdate t m k x =>
    obtain ⟨v, hv, h⟩ := opt_elim h
    obtain ⟨v2, hv2, h⟩ := opt_elim h
    obtain ⟨v3, hv3, h⟩ := opt_elim h
    exact up_doU h (by simp [execOp, hx m (by simp [Op.operands]) v hv, hx k (by simp [Op.operands]) v2 hv2, hx x (by simp [Op.operands]) v3 hv3])
  case mapEntry t x y =>
    obtain ⟨v, hv, h⟩ := opt_elim h
    obtain ⟨v2, hv2, h⟩ := opt_elim h
    exact up_do h (by simp [execOp, hx x (by simp [Op.operands]) v hv, hx y (by simp [Op.operands]) v2 hv2])
  case entryStore t m k x =>
    obtain ⟨v, hv, h⟩ := opt_elim h
    obtain ⟨v2, hv2, h⟩ := opt_elim h
    obtain ⟨v3, hv3, h⟩ := opt_elim h
    exact up_doU h (by simp [execOp, hx m (by simp [Op.operands]) v hv, hx k (by simp [Op.operands]) v2 hv2, hx x (by simp [Op.operands]) v3 hv3])
  case range t x =>
    obtain ⟨v, hv, h⟩ := opt_elim h
    exact up_do h (by simp [execOp, hx x (by simp [Op.operands]) v hv])
  case next x s =>
    obtain ⟨v, hv, h⟩ := opt_elim h
    exact up_do h (by simp [execOp, hx x (by simp [Op.operands]) v hv])
  case entry x =>
    obtain ⟨v, hv, h⟩ := opt_elim h
    exact up_do h (by simp [execOp, hx x (by simp [Op.operands]) v hv])
  case typeAssert x t1 t2 ok =>
    obtain ⟨v, hv, h⟩ := opt_elim h
    exact up_do h (by simp [execOp, hx x (by simp [Op.operands]) v hv])
  case extract x i =>
    obtain ⟨v, hv, h⟩ := opt_elim h
    have hv' := hx x (by simp [Op.operands]) v hv
    split at h
    · rename_i vs
      obtain ⟨v2, hi, h⟩ := opt_elim h
      have hi' : vs[i]? = some v2 := by simpa using hi
      exact up_pure h (by simp [execOp, hv', Instr.extract, hi'])
    · exact h.elim
  case call c =>
    obtain ⟨callee, args, tys⟩ := c
    have harg : ∀ vs : List Value, (∀ ρ : Operand → Value, (∀ x ∈ args.toList, ∀ v, ev e x = some v → ρ x = v) → args.toList.map ρ = vs) → args.map a.eval = vs.toArray := by
      intro vs hm
      have := hm a.eval (fun x hmem v hv => hx x (by simp [Op.operands, Call.operands]; right; simpa using hmem) v hv)
      rw [← this]; apply Array.toList_inj.1; simp
    cases callee with
    | value f =>
      simp only [callR] at h
      obtain ⟨fv, hf, h⟩ := opt_elim h
      have hf' := hx f (by simp [Op.operands, Call.operands]) fv hf
      split at h
      · rename_i g first captured
        obtain ⟨vs, h, hm⟩ := evL_elim h
        have hargs := harg vs hm
        have key : ∀ xs : Array Value, xs = first ++ vs.toArray ++ captured → Call P g xs w K →
            Oper.wp P { dst := dst, op := Op.call { callee := Callee.value f, args := args, argTypes := tys }, type := type, pos := pos, after := after, guard := guard } a w (Post a { dst := dst, op := Op.call { callee := Callee.value f, args := args, argTypes := tys }, type := type, pos := pos, after := after, guard := guard } K) Q := by
          intro xs hxs hc
          rcases hc.out with ⟨h1, h2⟩ | ⟨v, w', h1, h2⟩
          · refine up_enter (w' := w) ?_ h2
            simp only [execOp, resolve, hargs, hf', Deferred.ofValue, pure_bind, invoke]
            rw [← hxs]; exact h1
          · refine up_value (w' := w') ?_ h2
            simp only [execOp, resolve, hargs, hf', Deferred.ofValue, pure_bind, invoke]
            rw [← hxs]; exact h1
        split at h
        · rename_i e1 e2
          refine key _ ?_ h
          have e1' : first = #[] := by simpa using e1
          have e2' : captured = #[] := by simpa using e2
          simp [e1', e2']
        · refine key _ ?_ h
          simp
      · exact h.elim
    | invoke r name =>
      simp only [callR] at h
      obtain ⟨rv, hr, h⟩ := opt_elim h
      have hr' := hx r (by simp [Op.operands, Call.operands]) rv hr
      obtain ⟨vs, h, hm⟩ := evL_elim h
      have hargs := harg vs hm
      refine up_doN h ?_
      simp only [execOp, resolve, hargs, hr', pure_bind, invoke]
      simp
    | builtin b =>
      simp only [callR] at h
      obtain ⟨vs, h, hm⟩ := evL_elim h
      have hargs := harg vs hm
      have hex : execOp a.eval { dst := dst, op := Op.call { callee := Callee.builtin b, args := args, argTypes := tys }, type := type, pos := pos, after := after, guard := guard } = builtin b tys type (args.map isConst) vs.toArray := by
        simp only [execOp, resolve, hargs, pure_bind, invoke]; rfl
      unfold builtinR at h
      split at h
      · rename_i x n c t r ht _
        split at h
        · rename_i el hd
          refine up_value (w' := w) ?_ h
          have ht' : tys[0]? = some t := by rw [← Array.getElem?_toList, ht]; rfl
          rw [hex]
          simp [builtin, Builtin.len_, ht', hT.und hd, goInt]
        · exact h.elim
      · refine up_value (w' := w) ?_ h.out
        rw [hex]
        simp only [builtin, Builtin.min_]
        simp [Builtin.min2]
        split <;> omega
      · refine up_value (w' := w) ?_ h.out
        rw [hex]
        simp only [builtin, Builtin.max_]
        simp [Builtin.max2]
        split <;> omega
      · exact up_doN h hex

section
variable {P : Program} {T : Tab} {N : Nat} {ds : List Deferred} {B e : (List (Nat × Value))} {a : Act} {w : World}

theorem get_cons_self {d : Nat} {v : Value} : get ((d, v) :: e) d = some v := by simp [get]

theorem get_cons_of {d i : Nat} {v u : Value} (h : get ((d, v) :: e) i = some u) : (i = d ∧ u = v) ∨ (i ≠ d ∧ get e i = some u) := by
  unfold get at h
  split at h
  · rename_i hb; cases h; exact .inl ⟨Nat.eq_of_beq_eq_true hb, rfl⟩
  · rename_i hb; exact .inr ⟨Nat.ne_of_beq_eq_false hb, h⟩

theorem getD_put {a : Act} {d i : Nat} {v : Value} (hne : i ≠ d) : (a.put (some d) v).tmps.getD i undef = a.tmps.getD i undef := by
  show (a.tmps.setIfInBounds d v).getD i undef = _
  rw [Array.getD_eq_getD_getElem?, Array.getD_eq_getD_getElem?, Array.getElem?_setIfInBounds_ne (Ne.symm hne)]

theorem Fits.put (hf : Fits N ds B e a) {d : Nat} {v : Value} (hd : d < N) (hB : get B d = none) : Fits N ds B ((d, v) :: e) (a.put (some d) v) where
  size := by simp [Act.put, hf.size]
  defers := by simp [Act.put, hf.defers]
  cur := by
    intro i u h
    have hs := hf.size
    rcases get_cons_of h with ⟨rfl, rfl⟩ | ⟨hne, h⟩
    · show (a.tmps.setIfInBounds _ _).getD _ undef = _
      rw [Array.getD_eq_getD_getElem?]
      simp [hs, hd]
    · rw [getD_put hne]; exact hf.cur i u h
  base := by
    intro i u h
    have hne : i ≠ d := by rintro rfl; rw [hB] at h; cases h
    rw [getD_put hne]; exact hf.base i u h

theorem putR_elim {d : Option Tmp} {v : Value} {K : (List (Nat × Value)) → Prop} (h : putR N B e d v K) (hf : Fits N ds B e a) : ∃ e', K e' ∧ Fits N ds B e' (a.put d v) := by
  unfold putR at h
  split at h
  · exact ⟨e, h, by simpa [Act.put] using hf⟩
  · rename_i d
    split at h
    · rename_i hlt hB
      exact ⟨_, h, hf.put (by simpa [Nat.blt_eq] using hlt) hB⟩
    · exact h.elim

theorem Fits.eval (hf : Fits N ds B e a) (x : Operand) (v : Value) (h : ev e x = some v) : a.eval x = v := by
  cases x with
  | tmp t => exact hf.cur t v h
  | const u => cases h; rfl
  | global g => cases h; rfl
  | func f => cases h; rfl

theorem Fits.same (hf : Fits N ds B e a) {d : Nat} {v : Value} (h : get e d = some v) : Fits N ds B ((d, v) :: e) a where
  size := hf.size
  defers := hf.defers
  cur := by
    intro i u hi
    rcases get_cons_of hi with ⟨rfl, rfl⟩ | ⟨_, hi⟩
    · exact hf.cur _ _ h
    · exact hf.cur i u hi
  base := hf.base

theorem yielded_of {ops : Array Oper} {j d : Nat} (hd : dstOf ops.toList j = some d) (hf : Fits N ds B e a) {v : Value} (hg : get e d = some v) (hv : v ≠ undef) :
    yielded ops a.tmps j = match v with | .bool b => some b | _ => none := by
  have h1 : (ops[j]?).bind (·.dst) = some d := by simpa [dstOf] using hd
  have h2 := hf.cur d v hg
  unfold yielded
  rw [h1]
  have h3 : a.tmps[d]? = some v := by
    simp only [Array.getD] at h2
    split at h2
    · rename_i hlt; rw [← h2]; simp [Array.getElem?_eq_getElem hlt]
    · exact (hv h2.symm).elim
  simp only [Option.bind_some, h3]
  cases v <;> rfl

theorem guardR_elim {ops : Array Oper} {g : Option (Nat × Bool)} {yes no : (List (Nat × Value)) → Prop} {o : Oper} (ho : o.guard = g) (h : guardR ops.toList g e yes no) (hf : Fits N ds B e a) :
    (Region.wanted o (yielded ops a.tmps) = true ∧ ∃ e', yes e' ∧ Fits N ds B e' a) ∨ (Region.wanted o (yielded ops a.tmps) = false ∧ ∃ e', no e' ∧ Fits N ds B e' a) := by
  unfold guardR at h
  unfold Region.wanted
  rw [ho]
  split at h
  · exact .inl ⟨rfl, e, h, hf⟩
  · rename_i j want
    split at h
    · rename_i d hd
      split at h
      · rename_i b hg
        have hy := yielded_of hd hf hg (by simp [undef])
        simp only at hy
        cases b with
        | true =>
          have hf' := hf.same hg
          cases want with
          | true => left; exact ⟨by simp [hy], _, h.1 rfl, hf'⟩
          | false => right; exact ⟨by simp [hy], _, h.1 rfl, hf'⟩
        | false =>
          have hf' := hf.same hg
          cases want with
          | true => right; exact ⟨by simp [hy], _, h.2 rfl, hf'⟩
          | false => left; exact ⟨by simp [hy], _, h.2 rfl, hf'⟩
      · rename_i vs hg
        right
        refine ⟨?_, e, h, hf⟩
        by_cases hv : (Value.tuple vs) = undef
        · have h1 : (ops[j]?).bind (·.dst) = some d := by simpa [dstOf] using hd
          have h2 := hf.cur d _ hg
          have hy : yielded ops a.tmps j = none := by
            unfold yielded
            rw [h1]
            simp only [Array.getD] at h2
            simp only [Option.bind_some]
            split at h2
            · rename_i hlt
              rw [Array.getElem?_eq_getElem hlt]
              have h3 : a.tmps[d] = Value.tuple vs := h2
              simp [h3]
            · rename_i hlt
              rw [Array.getElem?_eq_none (by omega)]
          simp [hy]
        · have hy := yielded_of hd hf hg hv
          simp [hy]
      · exact h.elim
    · exact h.elim

theorem vcOpY_sound (hT : TabOk P T) {o : Oper} {e : (List (Nat × Value))} {a : Act} {w : World} {K : Value → World → Prop} {Q : Exit → Act → World → Prop} (hd : ∀ c, o.op ≠ .defer c) (r : Option Nat)
    (h : vcOpY P T o e w K) (hx : ∀ x ∈ o.op.operands, ∀ v, ev e x = some v → a.eval x = v) : o.wpIn (wideR r) 0 P a w (Post a o K) Q := by
  unfold vcOpY at h
  split at h
  · rename_i l hl
    obtain ⟨dst, op, type, pos, after, guard⟩ := o
    simp only at hl h hx
    unfold yieldOf at hl
    split at hl
    · rename_i f args tys
      split at hl
      · rename_i l' hf
        cases hl
        have hf' := hx f (by simp [Op.operands, Call.operands]) _ hf
        unfold yieldR at h
        obtain ⟨vs, h, hm⟩ := evL_elim h
        have hargs : args.map a.eval = vs.toArray := by
          have := hm a.eval (fun x hmem v hv => hx x (by simp [Op.operands, Call.operands]; right; simpa using hmem) v hv)
          rw [← this]; apply Array.toList_inj.1; simp
        obtain ⟨fn, tmps, asg, body, hy, hR⟩ := h.out
        have hex : (execOp a.eval { dst := dst, op := Op.call { callee := Callee.value f, args := args, argTypes := tys }, type := type, pos := pos, after := after, guard := guard }).run P w = .ok (.round l fn tmps asg body) w := by
          rw [← hy]
          simp only [execOp, resolve, hargs, hf', Deferred.ofValue, pure_bind, invoke]
          simp
        refine ⟨fun f _ => wideR_fn r f, ?_⟩
        rw [Oper.semAt_eq _ _ _ hd, hex]
        have hdep : (wideR r).depth.isSome = true → 1 ≤ 0 := by rw [wideR_depth]; intro h; cases h
        refine ⟨hdep, ?_⟩
        have hR' : RoundIn (wideR r) 0 P l fn tmps asg body w fun x w' => ∃ v, x = .returned v ∧ K v w' := by
          cases r with
          | none => exact hR
          | some l => exact hR
        refine hR'.mono fun x w' hx => ?_
        obtain ⟨v, rfl, hk⟩ := hx
        exact ⟨v, rfl, hk⟩
      · cases hl
    · cases hl
  · exact operW hd r (vcOp_sound hT h hx)

theorem vcOps_sound (hT : TabOk P T) (rd : Option Nat) {ops : Array Oper} {Q : Exit → Act → World → Prop} (hd : noDefer ops.toList = true) : ∀ (l : List Oper) (is : List Nat), is.map (ops[·]?) = l.map some → ∀ {e : (List (Nat × Value))} {w : World} {a : Act} {K : (List (Nat × Value)) → World → Prop},
    vcOps P T N B ops.toList l e w K → Fits N ds B e a → (∀ a' e' w', Fits N ds B e' a' → K e' w' → Q .normal a' w') → wpOpsIn (wideR rd) 0 P ops Q is a w
  | [], is, hl, e, w, a, K, h, hf, hk => by
    have : is = [] := by cases is with
      | nil => rfl
      | cons i r => simp at hl
    subst this
    exact hk _ _ _ hf h
  | o :: r, is, hl, e, w, a, K, h, hf, hk => by
    cases is with
    | nil => simp at hl
    | cons i is =>
      simp only [List.map_cons, List.cons.injEq] at hl
      obtain ⟨ho, hl⟩ := hl
      unfold wpOpsIn
      rw [ho]
      simp only
      rw [vcOps_cons] at h
      have hm : o ∈ ops.toList := by rw [Array.mem_toList_iff]; exact Array.mem_of_getElem? ho
      rcases guardR_elim rfl h hf with ⟨hw, e', h, hf'⟩ | ⟨hw, e', h, hf'⟩
      · rw [if_pos hw]
        refine Oper.wpIn_mono ?_ (vcOpY_sound (Q := Q) hT (fun c => noDefer_mem hd o hm c) rd h (fun x _ v hv => hf'.eval x v hv))
        rintro a' w' ⟨v, rfl, h⟩
        obtain ⟨e2, h, hf2⟩ := putR_elim h hf'
        exact vcOps_sound hT rd hd r is hl h hf2 hk
      · rw [if_neg (by simp [hw])]
        obtain ⟨e2, h, hf2⟩ := putR_elim h hf'
        exact ⟨fun f _ => wideR_fn rd f, vcOps_sound hT rd hd r is hl h hf2 hk⟩
end

theorem range_map (ops : Array Oper) : (List.range ops.size).map (ops[·]?) = ops.toList.map some := by
  apply List.ext_getElem?
  intro i
  simp only [List.getElem?_map]
  by_cases h : i < ops.size
  · simp [h]
  · simp [h]

theorem get_append {x y : (List (Nat × Value))} {i : Nat} : get (x ++ y) i = match get x i with | some v => some v | none => get y i := by
  induction x with
  | nil => rfl
  | cons h r ih =>
    obtain ⟨j, v⟩ := h
    show (match Nat.beq i j with | true => some v | false => get (r ++ y) i) = match (match Nat.beq i j with | true => some v | false => get r i) with | some v => some v | none => get y i
    cases Nat.beq i j with
    | true => rfl
    | false => exact ih

theorem memN_iff {i : Nat} {l : List Nat} : memN i l = true ↔ i ∈ l := by
  induction l with
  | nil => simp [memN]
  | cons j r ih =>
    unfold memN
    cases h : Nat.beq i j with
    | true => simp [Nat.eq_of_beq_eq_true h]
    | false => simp [ih, Nat.ne_of_beq_eq_false h]

theorem get_keep {l : List Nat} : ∀ {e : (List (Nat × Value))} {i : Nat} {v : Value}, get (keep l e) i = some v → get e i = some v ∧ memN i l = false
  | [], i, v, h => by cases h
  | (j, u) :: r, i, v, h => by
    unfold keep at h
    cases hm : memN j l with
    | true =>
      rw [hm] at h
      obtain ⟨h1, h2⟩ := get_keep h
      refine ⟨?_, h2⟩
      unfold get
      cases hb : Nat.beq i j with
      | true => have := Nat.eq_of_beq_eq_true hb; subst this; rw [hm] at h2; cases h2
      | false => exact h1
    | false =>
      rw [hm] at h
      rcases get_cons_of h with ⟨rfl, rfl⟩ | ⟨hne, h⟩
      · exact ⟨get_cons_self, hm⟩
      · obtain ⟨h1, h2⟩ := get_keep h
        refine ⟨?_, h2⟩
        unfold get
        cases hb : Nat.beq i j with
        | true => exact (hne (Nat.eq_of_beq_eq_true hb)).elim
        | false => exact h1

/-- All that the first says, the second says. -/
def Le : (List (Nat × Value)) → (List (Nat × Value)) → Prop
  | [], _ => True
  | (i, v) :: r, e => get e i = some v ∧ Le r e

theorem Le.get : ∀ {x e : (List (Nat × Value))}, Le x e → ∀ {i v}, get x i = some v → get e i = some v
  | [], _, _, i, v, h => by cases h
  | (j, u) :: r, e, hle, i, v, h => by
    rcases get_cons_of h with ⟨rfl, rfl⟩ | ⟨_, h⟩
    · exact hle.1
    · exact hle.2.get h

theorem vc_sound {P : Program} {T : Tab} (hT : TabOk P T) {N : Nat} : ∀ (c : Code) {ds : List Deferred} {B e : (List (Nat × Value))} {w : World} {a : Act} {K : Exit → (List (Nat × Value)) → World → Prop} {Q : Exit → Act → World → Prop},
    vc P T N B c e w K → Fits N ds B e a → (∀ x a' e' w', Fits N ds B e' a' → K x e' w' → Q x a' w') → wpW P c Q a w := by
  intro c
  induction c with
  | skip => intro ds B e w a K Q h hf hk; exact wpW_skip (hk _ _ _ _ hf h)
  | label l => intro ds B e w a K Q h hf hk; exact wpW_label (hk _ _ _ _ hf h)
  | exit i => intro ds B e w a K Q h hf hk; exact wpW_exit (hk _ _ _ _ hf h)
  | ret => intro ds B e w a K Q h hf hk; exact wpW_ret (hk _ _ _ _ hf h)
  | goto => intro ds B e w a K Q h; exact h.elim
  | refuse => intro ds B e w a K Q h; exact h.elim
  | scope => intro ds B e w a K Q h; exact h.elim
  | rangeFunc => intro ds B e w a K Q h; exact h.elim
  | region i ops d =>
    intro ds B e w a K Q h hf hk
    cases d with
    | true => exact DrawR.out h ds a Q hT hf (fun a' e' w' hf' hK => hk _ _ _ _ hf' hK)
    | false =>
      change (match noDefer ops.toList with | true => vcOps P T N B ops.toList ops.toList e w (K .normal) | false => False) at h
      split at h
      · rename_i hd
        exact wpW_region fun r => vcOps_sound hT r hd _ _ (range_map ops) h hf (fun a' e' w' hf' hK => hk _ _ _ _ hf' hK)
      · exact h.elim
  | loop c => intro ds B e w a K Q h hf hk; exact LoopR.out h ds a Q hT hf hk
  | seq x y ihx ihy =>
    intro ds B e w a K Q h hf hk
    refine wpW_seq (ihx h hf ?_)
    intro x' a' e' w' hf' hK
    cases x' with
    | normal => exact ihy hK hf' hk
    | exit i => exact hk _ _ _ _ hf' hK
    | ret => exact hk _ _ _ _ hf' hK
    | goto => exact hk _ _ _ _ hf' hK
    | panic => exact hk _ _ _ _ hf' hK
    | outgrown => exact hk _ _ _ _ hf' hK
  | cond c x y ihx ihy =>
    intro ds B e w a K Q h hf hk
    obtain ⟨v, hv, h⟩ := opt_elim h
    have hv' := hf.eval c v hv
    split at h
    · rename_i t
      have key : Br t (vc P T N B x e w K) (vc P T N B y e w K) → wpW P (Code.cond c x y) Q a w := fun h =>
        wpW_cond_split hv' (fun ht => ihx (h.1 ht) hf hk) (fun ht => ihy (h.2 ht) hf hk)
      split at h
      · exact JoinR.out h ds a Q hT hf hv' hk
      · exact key h
    · exact h.elim
  | block id c ih =>
    intro ds B e w a K Q h hf hk
    refine wpW_block (ih h hf ?_)
    intro x' a' e' w' hf' hK
    cases x' with
    | normal => exact hk _ _ _ _ hf' hK
    | exit i =>
      simp only at hK
      simp only [Exit.inBlock]
      split at hK
      · rename_i hb
        rw [if_pos (Nat.eq_of_beq_eq_true hb)]
        exact hk _ _ _ _ hf' hK
      · rename_i hb
        rw [if_neg (Nat.ne_of_beq_eq_false hb)]
        exact hk _ _ _ _ hf' hK
    | ret => exact hk _ _ _ _ hf' hK
    | goto => exact hk _ _ _ _ hf' hK
    | panic => exact hk _ _ _ _ hf' hK
    | outgrown => exact hk _ _ _ _ hf' hK

/-! What is kept of the slots by a loop, written out: by continuations, so that it is reckoned once. -/
def opsDstK : List Oper → List Nat → (List Nat → Prop) → Prop
  | [], l, K => K l
  | o :: r, l, K => match o.dst with
    | some d => opsDstK r (d :: l) K
    | none => opsDstK r l K
def dstsK : Code → List Nat → (List Nat → Prop) → Prop
  | .region _ ops _, l, K => opsDstK ops.toList l K
  | .seq a b, l, K => dstsK a l fun l => dstsK b l K
  | .cond _ a b, l, K => dstsK a l fun l => dstsK b l K
  | .block _ c, l, K => dstsK c l K
  | .loop c, l, K => dstsK c l K
  | .scope c, l, K => dstsK c l K
  | _, l, K => K l
def keepK : List Nat → List (Nat × Value) → List (Nat × Value) → (List (Nat × Value) → Prop) → Prop
  | _, [], B, K => K B
  | l, (i, v) :: r, B, K => match memN i l with
    | true => keepK l r B K
    | false => keepK (i :: l) r B fun r => K ((i, v) :: r)
def appK : List (Nat × Value) → List (Nat × Value) → (List (Nat × Value) → Prop) → Prop
  | [], B, K => K B
  | x :: r, B, K => appK r B fun r => K (x :: r)
theorem opsDstK_eq : ∀ {ops : List Oper} {l : List Nat} {K : List Nat → Prop}, opsDstK ops l K = K (opsDst ops l)
  | [], _, _ => rfl
  | o :: r, l, K => by
    unfold opsDstK opsDst
    cases o.dst <;> exact opsDstK_eq
theorem dstsK_eq : ∀ {c : Code} {l : List Nat} {K : List Nat → Prop}, dstsK c l K = K (dsts c l)
  | .region _ ops _, l, K => opsDstK_eq
  | .seq a b, l, K => by unfold dstsK dsts; rw [dstsK_eq, dstsK_eq]
  | .cond _ a b, l, K => by unfold dstsK dsts; rw [dstsK_eq, dstsK_eq]
  | .block _ c, l, K => by unfold dstsK dsts; rw [dstsK_eq]
  | .loop c, l, K => by unfold dstsK dsts; rw [dstsK_eq]
  | .scope c, l, K => by unfold dstsK dsts; rw [dstsK_eq]
  | .skip, _, _ => rfl
  | .goto _, _, _ => rfl
  | .exit _, _, _ => rfl
  | .ret, _, _ => rfl
  | .refuse _, _, _ => rfl
  | .rangeFunc .., _, _ => rfl
  | .label _, _, _ => rfl
theorem appK_eq : ∀ {x B : List (Nat × Value)} {K : List (Nat × Value) → Prop}, appK x B K = K (x ++ B)
  | [], _, _ => rfl
  | _ :: r, B, K => by unfold appK; rw [appK_eq]; rfl
/-- The first of each that is kept. -/
def keepF : List Nat → List (Nat × Value) → List (Nat × Value)
  | _, [] => []
  | l, (i, v) :: r => match memN i l with
    | true => keepF l r
    | false => (i, v) :: keepF (i :: l) r
theorem keepK_eq : ∀ {l : List Nat} {e B : List (Nat × Value)} {K : List (Nat × Value) → Prop}, keepK l e B K = K (keepF l e ++ B)
  | _, [], _, _ => rfl
  | l, (i, v) :: r, B, K => by
    unfold keepK keepF
    cases memN i l
    · simp only []; rw [keepK_eq]; rfl
    · exact keepK_eq
theorem get_keepF : ∀ {e : List (Nat × Value)} {l : List Nat} {i : Nat} {v : Value}, get (keepF l e) i = some v → get e i = some v ∧ memN i l = false
  | [], _, _, _, h => by cases h
  | (j, u) :: r, l, i, v, h => by
    unfold keepF at h
    cases hm : memN j l with
    | true =>
      rw [hm] at h
      obtain ⟨h1, h2⟩ := get_keepF h
      refine ⟨?_, h2⟩
      unfold get
      cases hb : Nat.beq i j with
      | true => rw [Nat.eq_of_beq_eq_true hb, hm] at h2; cases h2
      | false => exact h1
    | false =>
      rw [hm] at h
      simp only [] at h
      unfold get at h ⊢
      cases hb : Nat.beq i j with
      | true => rw [hb] at h; exact ⟨h, by rw [Nat.eq_of_beq_eq_true hb]; exact hm⟩
      | false =>
        rw [hb] at h
        obtain ⟨h1, h2⟩ := get_keepF h
        refine ⟨h1, ?_⟩
        unfold memN at h2
        rw [hb] at h2
        exact h2
def cutK (c : Code) (e B : List (Nat × Value)) (K : List (Nat × Value) → Prop) : Prop := dstsK c [] fun l => keepK l e B K
theorem cutK_eq {c : Code} {e B : List (Nat × Value)} {K : List (Nat × Value) → Prop} : cutK c e B K = K (keepF (dsts c []) e ++ B) := by
  unfold cutK; rw [dstsK_eq, keepK_eq]

/-- A LOOP: ghosts 's', what the slots then hold, what holds, and a measure. -/
theorem Loop_intro {P : Program} {T : Tab} {N : Nat} {B e : (List (Nat × Value))} {c : Code} {w : World} {K : Exit → (List (Nat × Value)) → World → Prop} {σ : Type}
    (E : σ → (List (Nat × Value))) (I : σ → World → Prop) (μ : σ → Nat) (s₀ : σ) (h₀ : Le (E s₀) e) (hI : I s₀ w)
    (round : ∀ s w, I s w → cutK c e B fun B => appK (E s) B fun e => vc P T N B c e w
      (fun x e' w' => match x with
        | .normal => ∃ s', Le (E s') e' ∧ I s' w' ∧ μ s' < μ s
        | .exit i => K (.exit i) e' w'
        | .ret => K .ret e' w'
        | x => K x e' w')) : LoopR P T N B c e w K := by
  constructor
  intro ds a Q hT hf hk
  replace round : ∀ s w, I s w → vc P T N (keepF (dsts c []) e ++ B) c (E s ++ (keepF (dsts c []) e ++ B)) w
      (fun x e' w' => match x with
        | .normal => ∃ s', Le (E s') e' ∧ I s' w' ∧ μ s' < μ s
        | .exit i => K (.exit i) e' w'
        | .ret => K .ret e' w'
        | x => K x e' w') := fun s w hI => by
    have := round s w hI
    rw [cutK_eq, appK_eq] at this
    exact this
  generalize hB' : keepF (dsts c []) e ++ B = B' at round
  have hB : ∀ i v, get B' i = some v → a.tmps.getD i undef = v := by
    intro i v h
    rw [← hB', get_append] at h
    split at h
    · rename_i u hu; cases h; exact hf.cur _ _ (get_keepF hu).1
    · exact hf.base _ _ h
  have hBB : ∀ i v, get B i = some v → get B' i = some v := by
    intro i v h
    have h1 := hf.base i v h
    rw [← hB', get_append]
    split
    · rename_i u hu; rw [← h1, hf.cur _ _ (get_keepF hu).1]
    · exact h
  refine wpW_loop_ghost (fun n a w => ∃ s, μ s = n ∧ Fits N ds B' (E s ++ B') a ∧ I s w) (μ s₀) ⟨s₀, rfl, ?_, hI⟩ ?_
  · refine ⟨hf.size, hf.defers, ?_, hB⟩
    intro i v h
    rw [get_append] at h
    split at h
    · rename_i u hu; cases h; exact hf.cur _ _ (h₀.get hu)
    · exact hB _ _ h
  · rintro n a w ⟨s, rfl, hf', hI'⟩
    refine vc_sound hT c (round s w hI') hf' ?_
    intro x a' e' w' hf2 hK
    have hout : Fits N ds B e' a' := ⟨hf2.size, hf2.defers, hf2.cur, fun i v h => hf2.base _ _ (hBB i v h)⟩
    cases x with
    | normal =>
      obtain ⟨s', hle, hI2, hlt⟩ := hK
      refine ⟨μ s', hlt, s', rfl, ⟨hf2.size, hf2.defers, ?_, hf2.base⟩, hI2⟩
      intro i v h
      rw [get_append] at h
      split at h
      · rename_i u hu; cases h; exact hf2.cur _ _ (hle.get hu)
      · exact hf2.base _ _ h
    | exit i => exact hk _ _ _ _ hout hK
    | ret => exact hk _ _ _ _ hout hK
    | goto => exact hk _ _ _ _ hout hK
    | panic => exact hk _ _ _ _ hout hK
    | outgrown => exact hk _ _ _ _ hout hK

theorem Join_dup {P : Program} {T : Tab} {N : Nat} {B e : (List (Nat × Value))} {c : Operand} {x y : Code} {t : Bool} {w : World} {K : Exit → (List (Nat × Value)) → World → Prop}
    (h : Br t (vc P T N B x e w K) (vc P T N B y e w K)) : JoinR P T N B c x y t e w K :=
  ⟨fun _ _ _ hT hf hv hk => wpW_cond_split hv (fun ht => vc_sound hT x (h.1 ht) hf hk) (fun ht => vc_sound hT y (h.2 ht) hf hk)⟩

/-- WHERE TWO WAYS MEET: what then holds, of the slots that they write and of the world; what goes on is gone through once. -/
theorem Join_cut {P : Program} {T : Tab} {N : Nat} {B e : (List (Nat × Value))} {c : Operand} {x y : Code} {t : Bool} {w : World} {K : Exit → (List (Nat × Value)) → World → Prop} {σ : Type}
    (E : σ → (List (Nat × Value))) (I : σ → World → Prop)
    (h : cutK (.cond c x y) e B fun B' => Br t
      (vc P T N B' x e w fun x e' w' => match x with
        | .normal => ∃ s, Le (E s) e' ∧ I s w'
        | .exit i => K (.exit i) e' w'
        | .ret => K .ret e' w'
        | x => K x e' w')
      (vc P T N B' y e w fun x e' w' => match x with
        | .normal => ∃ s, Le (E s) e' ∧ I s w'
        | .exit i => K (.exit i) e' w'
        | .ret => K .ret e' w'
        | x => K x e' w'))
    (rest : ∀ s w, I s w → cutK (.cond c x y) e B fun B => appK (E s) B fun e => K .normal e w) : JoinR P T N B c x y t e w K := by
  constructor
  intro ds a Q hT hf hv hk
  rw [cutK_eq] at h
  replace rest : ∀ s w, I s w → K .normal (E s ++ (keepF (dsts (.cond c x y) []) e ++ B)) w := fun s w hI => by
    have := rest s w hI
    rw [cutK_eq, appK_eq] at this
    exact this
  generalize hB' : keepF (dsts (.cond c x y) []) e ++ B = B' at h rest
  have hB : ∀ i v, get B' i = some v → a.tmps.getD i undef = v := by
    intro i v h
    rw [← hB', get_append] at h
    split at h
    · rename_i u hu; cases h; exact hf.cur _ _ (get_keepF hu).1
    · exact hf.base _ _ h
  have hBB : ∀ i v, get B i = some v → get B' i = some v := by
    intro i v h
    have h1 := hf.base i v h
    rw [← hB', get_append]
    split
    · rename_i u hu; rw [← h1, hf.cur _ _ (get_keepF hu).1]
    · exact h
  have hf' : Fits N ds B' e a := ⟨hf.size, hf.defers, hf.cur, hB⟩
  have hk' : ∀ (x : Exit) (a' : Act) (e' : List (Nat × Value)) (w' : World), Fits N ds B' e' a' → (match x with
        | .normal => ∃ s, Le (E s) e' ∧ I s w'
        | .exit i => K (.exit i) e' w'
        | .ret => K .ret e' w'
        | x => K x e' w') → Q x a' w' := by
    intro x a' e' w' hf2 hK
    have hout : Fits N ds B e' a' := ⟨hf2.size, hf2.defers, hf2.cur, fun i v h => hf2.base _ _ (hBB i v h)⟩
    cases x with
    | normal =>
      obtain ⟨s, hle, hI⟩ := hK
      refine hk _ _ _ _ ⟨hf2.size, hf2.defers, ?_, hout.base⟩ (rest s w' hI)
      intro i v h
      rw [get_append] at h
      split at h
      · rename_i u hu; cases h; exact hf2.cur _ _ (hle.get hu)
      · exact hf2.base _ _ h
    | exit i => exact hk _ _ _ _ hout hK
    | ret => exact hk _ _ _ _ hout hK
    | goto => exact hk _ _ _ _ hout hK
    | panic => exact hk _ _ _ _ hout hK
    | outgrown => exact hk _ _ _ _ hout hK
  exact wpW_cond_split hv (fun ht => vc_sound hT x (h.1 ht) hf' hk') (fun ht => vc_sound hT y (h.2 ht) hf' hk')

/-- What a function hands back, of its slots. -/
def resL (T : Tab) (e : (List (Nat × Value))) (w : World) : List ResultVar → (List Value → Prop) → Prop
  | [], K => K []
  | .tmp t :: r, K => opt (get e t) fun v => resL T e w r fun vs => K (v :: vs)
  | .cell t ty :: r, K => opt (get e t) fun v => loadR T ty v w fun u => resL T e w r fun vs => K (u :: vs)

def one : List Value → Value
  | [v] => v
  | vs => .tuple vs.toArray

def outR (T : Tab) (fn : Func) (R : Value → World → Prop) (x : Exit) (e : (List (Nat × Value))) (w : World) : Prop :=
  match x with
  | .normal => resL T e w fn.results.toList fun vs => Ret (one vs) w R
  | .ret => resL T e w fn.results.toList fun vs => Ret (one vs) w R
  | _ => False

def resV (tmps : Array Value) : ResultVar → Sem Value
  | .tmp t => pure (tmps.getD t undef)
  | .cell a t => do loadVar t (← asAddr (tmps.getD a undef))

theorem results_resV (fn : Func) (tmps : Array Value) : results fn tmps = (do
    let vs ← fn.results.mapM (resV tmps)
    pure (if h : vs.size = 1 then vs[0] else .tuple vs)) := by
  unfold results
  congr 1

theorem resL_elim {P : Program} {T : Tab} (hT : TabOk P T) {e : (List (Nat × Value))} {a : Act} {w : World} (hf : ∀ i v, get e i = some v → a.tmps.getD i undef = v) : ∀ {l : List ResultVar} {K : List Value → Prop}, resL T e w l K →
    ∃ vs, K vs ∧ (l.mapM (resV a.tmps)).run P w = .ok vs w
  | [], K, h => ⟨[], h, by simp⟩
  | .tmp t :: r, K, h => by
    obtain ⟨v, hv, h⟩ := opt_elim h
    obtain ⟨vs, hk, hr⟩ := resL_elim hT hf h
    refine ⟨v :: vs, hk, ?_⟩
    rw [List.mapM_cons]
    simp only [resV, Sem.run_bind, Sem.run_pure, Result.andThen_ok, hr, hf _ _ hv]
  | .cell t ty :: r, K, h => by
    obtain ⟨v, hv, h⟩ := opt_elim h
    have ha : ∃ a, v = .pointer (some a) := by
      unfold loadR at h
      split at h <;> first | exact ⟨_, rfl⟩ | exact h.elim
    obtain ⟨ad, rfl⟩ := ha
    obtain ⟨u, hu, h⟩ := loadR_elim hT h
    obtain ⟨vs, hk, hr⟩ := resL_elim hT hf h
    refine ⟨u :: vs, hk, ?_⟩
    rw [List.mapM_cons]
    have hu' : (resV a.tmps (.cell t ty)).run P w = .ok u w := by
      simp only [resV, hf _ _ hv]
      rw [← hu]
      rfl
    simp only [Sem.run_bind, Sem.run_pure, Result.andThen_ok, hr, hu']

theorem outR_post {P : Program} {T : Tab} (hT : TabOk P T) {fn : Func} {R : Value → World → Prop} {e : (List (Nat × Value))} {a : Act} {w : World} {N : Nat} {ds : List Deferred} {B : (List (Nat × Value))} (hf : Fits N ds B e a)
    (h : resL T e w fn.results.toList fun vs => Ret (one vs) w R) : ∃ v, (results fn a.tmps).run P w = .ok v w ∧ R v w := by
  obtain ⟨vs, hk, hr⟩ := resL_elim hT hf.cur h
  refine ⟨one vs, ?_, hk.out⟩
  rw [results_resV, ← Array.toArray_toList (xs := fn.results), List.mapM_toArray]
  simp only [Sem.run_bind, Sem.run_map, hr, Result.andThen_ok, Sem.run_pure]
  congr 1
  match vs with
  | [] => rfl
  | [v] => rfl
  | u :: v :: r => rfl

/-- A function's contract. -/
def Does (P : Program) (f : FuncId) (args : Array Value) (w : World) (R : Value → World → Prop) : Prop :=
  (callFunc f args).run P w = .ok (.enter f args) w ∧ Calls P f args w fun e w' => ∃ v, e = .returned v ∧ R v w'

def argsE : Nat → List Value → (List (Nat × Value))
  | _, [] => []
  | i, v :: r => (i, v) :: argsE (i + 1) r

theorem get_argsE : ∀ {l : List Value} {k i : Nat} {v : Value}, get (argsE k l) i = some v → ∃ j, i = k + j ∧ l[j]? = some v
  | [], _, _, _, h => by cases h
  | u :: r, k, i, v, h => by
    rcases get_cons_of h with ⟨rfl, rfl⟩ | ⟨_, h⟩
    · exact ⟨0, rfl, rfl⟩
    · obtain ⟨j, rfl, hj⟩ := get_argsE h
      exact ⟨j + 1, by omega, by simpa using hj⟩

theorem Does_intro {P : Program} {T : Tab} (hT : TabOk P T) {f : FuncId} {fn : Func} {c : Code} {args : List Value} {w : World} {R : Value → World → Prop}
    (hc : (callFunc f args.toArray).run P w = .ok (.enter f args.toArray) w) (hf : P.funcs[f]? = some fn) (hb : fn.body = some c)
    (hn : Nat.ble args.length fn.ntmps = true)
    (h : vc P T fn.ntmps [] c (argsE 0 args) w (outR T fn R)) : Does P f args.toArray w R := by
  refine ⟨hc, calls_of_wp hf hb (wpW_wp (vc_sound (ds := []) hT c h ?_ ?_))⟩
  · have hn' : args.length ≤ fn.ntmps := Nat.le_of_ble_eq_true hn
    refine ⟨by simp; omega, rfl, ?_, fun i v h => by cases h⟩
    intro i v h
    obtain ⟨j, rfl, hj⟩ := get_argsE h
    have hlt : j < args.length := by
      rcases Nat.lt_or_ge j args.length with h | h
      · exact h
      · rw [List.getElem?_eq_none h] at hj; cases hj
    rw [Array.getD_eq_getD_getElem?, Array.getElem?_append_left (by simpa using hlt)]
    simp only [Nat.zero_add, List.getElem?_toArray, hj, Option.getD_some]
  · intro x a' e' w' hf' hK
    cases x with
    | normal => obtain ⟨v, hr, hR⟩ := outR_post hT hf' hK; exact ⟨hf'.defers, v, hr, v, rfl, hR⟩
    | ret => obtain ⟨v, hr, hR⟩ := outR_post hT hf' hK; exact ⟨hf'.defers, v, hr, v, rfl, hR⟩
    | exit => exact hK.elim
    | goto => exact hK.elim
    | panic => exact hK.elim
    | outgrown => exact hK.elim

section
variable {A B : Prop} {K : Int → Prop}
theorem Br_true (h : A) : Br true A B := ⟨fun _ => h, fun h => by cases h⟩
theorem Br_false (h : B) : Br false A B := ⟨fun h => by (cases h), fun _ => h⟩
theorem Br_if {b : Bool} (h1 : b = true → A) (h2 : b = false → B) : Br b A B := ⟨h1, h2⟩
theorem Br_yes {b : Bool} (hb : b = true) (h : A) : Br b A B := hb ▸ Br_true h
theorem Br_no {b : Bool} (hb : b = false) (h : B) : Br b A B := hb ▸ Br_false h
theorem Br_dec {p : Prop} [Decidable p] (h1 : p → A) (h2 : ¬ p → B) : Br (decide p) A B := ⟨fun h => h1 (of_decide_eq_true h), fun h => h2 (of_decide_eq_false h)⟩
theorem Br_dec_yes {p : Prop} [Decidable p] (hp : p) (h : A) : Br (decide p) A B := ⟨fun _ => h, fun h => absurd hp (of_decide_eq_false h)⟩
theorem Br_dec_no {p : Prop} [Decidable p] (hp : ¬ p) (h : B) : Br (decide p) A B := ⟨fun h => absurd (of_decide_eq_true h) hp, fun _ => h⟩
theorem Br_eq {x y : Int} (h1 : x = y → A) (h2 : x ≠ y → B) : Br (x == y) A B := ⟨fun h => h1 (by simpa using h), fun h => h2 (by simpa using h)⟩
theorem Br_eq_yes {x y : Int} (hp : x = y) (h : A) : Br (x == y) A B := ⟨fun _ => h, fun h => absurd hp (by simpa using h)⟩
theorem Br_eq_no {x y : Int} (hp : x ≠ y) (h : B) : Br (x == y) A B := ⟨fun h => absurd (by simpa using h) hp, fun _ => h⟩
theorem Br_ne {x y : Int} (h1 : x ≠ y → A) (h2 : x = y → B) : Br (x != y) A B := ⟨fun h => h1 (by simpa using h), fun h => h2 (by simpa using h)⟩
theorem Br_ne_yes {x y : Int} (hp : x ≠ y) (h : A) : Br (x != y) A B := ⟨fun _ => h, fun h => absurd (by simpa using h) hp⟩
theorem Br_ne_no {x y : Int} (hp : x = y) (h : B) : Br (x != y) A B := ⟨fun h => absurd hp (by simpa using h), fun _ => h⟩
theorem Br_not {b : Bool} (h : Br b B A) : Br (!b) A B := ⟨fun hb => h.2 (by simpa using hb), fun hb => h.1 (by simpa using hb)⟩

theorem wrap_i64 {n : Int} (h1 : -9223372036854775808 ≤ n) (h2 : n ≤ 9223372036854775807) : IntKind.i64.wrap n = n := by
  simp only [IntKind.wrap, IntKind.bits, IntKind.signed, Bool.true_and]
  split <;> rename_i h <;> simp at h <;> omega
theorem wrap_i32 {n : Int} (h1 : -2147483648 ≤ n) (h2 : n ≤ 2147483647) : IntKind.i32.wrap n = n := by
  simp only [IntKind.wrap, IntKind.bits, IntKind.signed, Bool.true_and]
  split <;> rename_i h <;> simp at h <;> omega
theorem wrap_u64 {n : Int} (h1 : 0 ≤ n) (h2 : n ≤ 18446744073709551615) : IntKind.u64.wrap n = n := by
  simp only [IntKind.wrap, IntKind.bits, IntKind.signed, Bool.false_and]
  split <;> rename_i h <;> simp at h <;> omega
theorem wrap_u32 {n : Int} (h1 : 0 ≤ n) (h2 : n ≤ 4294967295) : IntKind.u32.wrap n = n := by
  simp only [IntKind.wrap, IntKind.bits, IntKind.signed, Bool.false_and]
  split <;> rename_i h <;> simp at h <;> omega
theorem wrap_u8 {n : Int} (h1 : 0 ≤ n) (h2 : n ≤ 255) : IntKind.u8.wrap n = n := by
  simp only [IntKind.wrap, IntKind.bits, IntKind.signed, Bool.false_and]
  split <;> rename_i h <;> simp at h <;> omega

theorem Ar_i64 {n : Int} (h1 : -9223372036854775808 ≤ n) (h2 : n ≤ 9223372036854775807) (h : K n) : Ar .i64 n K := by
  constructor; rw [wrap_i64 h1 h2]; exact h
theorem Ar_i32 {n : Int} (h1 : -2147483648 ≤ n) (h2 : n ≤ 2147483647) (h : K n) : Ar .i32 n K := by
  constructor; rw [wrap_i32 h1 h2]; exact h
theorem Ar_u64 {n : Int} (h1 : 0 ≤ n) (h2 : n ≤ 18446744073709551615) (h : K n) : Ar .u64 n K := by
  constructor; rw [wrap_u64 h1 h2]; exact h
theorem Ar_u32 {n : Int} (h1 : 0 ≤ n) (h2 : n ≤ 4294967295) (h : K n) : Ar .u32 n K := by
  constructor; rw [wrap_u32 h1 h2]; exact h
theorem Ar_u8 {n : Int} (h1 : 0 ≤ n) (h2 : n ≤ 255) (h : K n) : Ar .u8 n K := by
  constructor; rw [wrap_u8 h1 h2]; exact h
/-- The number by another name. -/
theorem Ar_is {k : IntKind} {n : Int} (r : Int) (hr : k.wrap n = r) (h : K r) : Ar k n K := by
  constructor; rw [hr]; exact h
theorem Ar_any {k : IntKind} {n : Int} (h : ∀ r, r = k.wrap n → K r) : Ar k n K := ⟨h _ rfl⟩
theorem Eqv_is {n : Int} (r : Int) (hr : n = r) (h : K r) : Eqv n K := by subst hr; exact ⟨h⟩
theorem Eqv_in {n : Int} (h : K n) : Eqv n K := ⟨h⟩
theorem Nz_in {n : Int} (hn : n ≠ 0) (h : A) : Nz n A := ⟨hn, h⟩
theorem Nn_in {n : Int} (hn : 0 ≤ n) (h : A) : Nn n A := ⟨hn, h⟩
theorem Ix_in {i : Int} {n : Nat} {K : Nat → Prop} (j : Nat) (hi : i = j) (hj : j < n) (h : K j) : Ix i n K := by
  subst hi; exact ⟨by omega, by omega, h⟩
theorem Ret_in {v : Value} {w : World} {R : Value → World → Prop} (h : R v w) : Ret v w R := ⟨h⟩
theorem Call_of {P : Program} {f : FuncId} {args : Array Value} {w : World} {K R : Value → World → Prop} (h : Does P f args w R) (hk : ∀ v w', R v w' → K v w') : Call P f args w K :=
  ⟨.inl ⟨h.1, h.2.mono fun _ _ ⟨v, he, hr⟩ => ⟨v, he, hk _ _ hr⟩⟩⟩
theorem Call_ext {P : Program} {f : FuncId} {args : Array Value} {w w' : World} {v : Value} {K : Value → World → Prop} (h : (callFunc f args).run P w = .ok (.value v) w') (hk : K v w') : Call P f args w K :=
  ⟨.inr ⟨v, w', h, hk⟩⟩
theorem Does.mono {P : Program} {f : FuncId} {args : Array Value} {w : World} {K R : Value → World → Prop} (h : Does P f args w R) (hk : ∀ v w', R v w' → K v w') : Does P f args w K :=
  ⟨h.1, h.2.mono fun _ _ ⟨v, he, hr⟩ => ⟨v, he, hk _ _ hr⟩⟩
theorem Ld_of {w : World} {a : Addr} {v : Value} {K : Value → Prop} (h : w.cell? a = some v) (hk : K v) : Ld w a K := ⟨v, h, hk⟩
end

/-! Memory. -/

/-- Block b holds just these cells. -/
structure At (w : World) (b : Nat) (t : TypeId) (cs : List Value) : Prop where
  out : w.heap[b]? = some (.cells cs.toArray t (0, 0))

/-- From w to w' nothing that was there has changed, but for the blocks of S. -/
structure Fr (S : Nat → Prop) (w w' : World) : Prop where
  os : w'.os = w.os
  out : w'.output = w.output
  size : w.heap.size ≤ w'.heap.size
  old : ∀ b, b < w.heap.size → ¬ S b → w'.heap[b]? = w.heap[b]?
  frz : ∀ a, a.block < w.heap.size → w'.frozen? a = w.frozen? a

theorem Fr.refl (S : Nat → Prop) (w : World) : Fr S w w := ⟨rfl, rfl, Nat.le_refl _, fun _ _ _ => rfl, fun _ _ => rfl⟩
theorem Fr.trans {S : Nat → Prop} {w w' w'' : World} (h : Fr S w w') (h' : Fr S w' w'') : Fr S w w'' :=
  ⟨h'.os.trans h.os, h'.out.trans h.out, Nat.le_trans h.size h'.size, fun b hb hs => (h'.old b (Nat.lt_of_lt_of_le hb h.size) hs).trans (h.old b hb hs), fun a ha => (h'.frz a (Nat.lt_of_lt_of_le ha h.size)).trans (h.frz a ha)⟩
theorem Fr.mono {S S' : Nat → Prop} {w w' : World} (h : Fr S w w') (hs : ∀ b, b < w.heap.size → S b → S' b) : Fr S' w w' :=
  ⟨h.os, h.out, h.size, fun b hb hn => h.old b hb (fun hS => hn (hs b hb hS)), h.frz⟩
/-- Two steps, the second of which may change what is new since the first. -/
theorem Fr.trans' {S S' : Nat → Prop} {w w' w'' : World} (h : Fr S w w') (h' : Fr S' w' w'') (hs : ∀ b, b < w.heap.size → S' b → S b) : Fr S w w'' :=
  ⟨h'.os.trans h.os, h'.out.trans h.out, Nat.le_trans h.size h'.size, fun b hb hn => (h'.old b (Nat.lt_of_lt_of_le hb h.size) (fun h => hn (hs b hb h))).trans (h.old b hb hn), fun a ha => (h'.frz a (Nat.lt_of_lt_of_le ha h.size)).trans (h.frz a ha)⟩

theorem At.heap {w w' : World} {b : Nat} {t : TypeId} {cs : List Value} (h : At w b t cs) (e : w'.heap = w.heap) : At w' b t cs := by
  exact ⟨by rw [e]; exact h.out⟩
theorem At.lt {w : World} {b : Nat} {t : TypeId} {cs : List Value} (h : At w b t cs) : b < w.heap.size := by
  rcases Nat.lt_or_ge b w.heap.size with h' | h'
  · exact h'
  · have h := h.out; rw [Array.getElem?_eq_none h'] at h; cases h
theorem At.fr {S : Nat → Prop} {w w' : World} {b : Nat} {t : TypeId} {cs : List Value} (h : At w b t cs) (hf : Fr S w w') (hn : ¬ S b) : At w' b t cs := by
  exact ⟨by rw [hf.old b h.lt hn]; exact h.out⟩
theorem At.cell {w : World} {b : Nat} {t : TypeId} {cs : List Value} (h : At w b t cs) (i : Nat) : w.cell? ⟨b, i, none⟩ = cs[i]? := by
  have h := h.out; unfold World.cell?; rw [h]; simp
theorem At.frozen {w : World} {b : Nat} {t : TypeId} {cs : List Value} (h : At w b t cs) (i : Nat) : w.frozen? ⟨b, i, none⟩ = false := by
  have h := h.out; unfold World.frozen?; rw [h]; simp

theorem Ld_at {w : World} {b i : Nat} {t : TypeId} {cs : List Value} {v : Value} {K : Value → Prop} (h : At w b t cs) (hv : cs[i]? = some v) (hk : K v) : Ld w ⟨b, i, none⟩ K :=
  ⟨v, by rw [h.cell]; exact hv, hk⟩

theorem Fr.setCell (w : World) (a : Addr) (v : Value) : Fr (fun b => b = a.block) w (w.setCell a v) where
  os := rfl
  out := rfl
  size := by simp [World.setCell]
  old := fun b _ hn => by rw [heap_setCell, if_neg (fun h => hn h.symm)]
  frz := fun _ _ => setCell_frozen

theorem At.set {w : World} {b i : Nat} {t : TypeId} {cs : List Value} (h : At w b t cs) (v : Value) : At (w.setCell ⟨b, i, none⟩ v) b t (cs.set i v) := by
  have h := h.out
  refine ⟨?_⟩
  rw [heap_setCell, if_pos rfl, h]
  simp

theorem St_at {w : World} {b i : Nat} {t : TypeId} {cs cs' : List Value} {v : Value} {K : World → Prop} (h : At w b t cs) (hv : oneCell v = true) (hi : i < cs.length) (hc : cs.set i v = cs')
    (hk : ∀ w', At w' b t cs' → Fr (fun x => x = b) w w' → w'.heap.size = w.heap.size → K w') : St w ⟨b, i, none⟩ v K :=
  ⟨hv, ⟨cs[i], by rw [h.cell]; simp [hi]⟩, h.frozen i, hk _ (hc ▸ h.set v) (Fr.setCell w ⟨b, i, none⟩ v) (by simp [World.setCell])⟩

theorem heap_alloc (w : World) (o : Obj) (b : Nat) : (w.alloc o).heap[b]? = if b = w.heap.size then some o else w.heap[b]? := by
  show (w.heap.push o)[b]? = _
  rw [Array.getElem?_push]

theorem size_alloc (w : World) (o : Obj) : (w.alloc o).heap.size = w.heap.size + 1 := Array.size_push _

theorem Fr.alloc (w : World) {o : Obj} (ho : ∀ c t f, o = .cells c t f → f = (0, 0)) : Fr (fun _ => False) w (w.alloc o) where
  os := rfl
  out := rfl
  size := by rw [size_alloc]; omega
  old := fun b hb _ => by rw [heap_alloc, if_neg (Nat.ne_of_lt hb)]
  frz := fun a _ => by
    unfold World.frozen?
    rw [heap_alloc]
    by_cases h : a.block = w.heap.size
    · rw [if_pos h, h, Array.getElem?_eq_none (Nat.le_refl _)]
      cases o <;> try rfl
      rename_i c t f
      rw [ho c t f rfl]; simp
    · rw [if_neg h]

theorem Nw_cells {w : World} {cs : Array Value} {t : TypeId} {K : Nat → World → Prop}
    (hk : ∀ b w', b = w.heap.size → At w' b t cs.toList → Fr (fun _ => False) w w' → w'.heap.size = w.heap.size + 1 → K b w') : Nw w (.cells cs t) K :=
  ⟨hk _ _ rfl ⟨by rw [heap_alloc, if_pos rfl]⟩ (Fr.alloc w (by intro c t f h; cases h; rfl)) (size_alloc _ _)⟩

theorem Fr.kept {w w' : World} (h : Fr (fun _ => False) w w') (may : MemPlace → Prop) : w.keptBut w' may := by
  refine World.keptBut_mono (fun _ (f : False) => f.elim) ⟨h.os, h.out, fun i hi => ?_⟩
  rw [h.old i hi (fun x => x)]
  cases w.heap[i]? with
  | none => rfl
  | some o =>
    cases o <;> try rfl
    · exact ⟨rfl, rfl, rfl, fun _ _ => rfl⟩
    · exact .inr ⟨rfl, rfl⟩


/-! A region that draws its order: one walk of one order, in which what only reads goes ahead of what writes; what was read and does not stand ahead of a write must read the same behind it. -/
section drawn
variable {P : Program} {ops : Array Oper} {Q : Exit → Act → World → Prop}

structure Pd where
  B : Nat → Bool
  J : World → Prop

def TT (P : Program) (ops : Array Oper) (Q : Exit → Act → World → Prop) : Nat → List Pd → Array Bool → Act → World → Prop
  | 0, _, listed, a, w => Region.ready .any ops listed = [] ∧ Q .normal a w
  | f + 1, R, listed, a, w => (Region.ready .any ops listed = [] → Q .normal a w) ∧
    ∀ j ∈ Region.ready .any ops listed, wpOp P ops Q j (fun a' w' => (∀ r ∈ R, r.B j = true → r.J w') ∧ TT P ops Q f (R.filter (·.B j)) (listed.setIfInBounds j true) a' w') a w

theorem TT.any : ∀ {f : Nat} {R : List Pd} {listed : Array Bool} {a : Act} {w : World}, TT P ops Q f R listed a w → wpAny P .any ops Q f listed a w
  | 0, _, _, _, _, h => h
  | _ + 1, _, _, _, _, h => ⟨h.1, fun j hj => wpOp_mono (fun _ _ h' => TT.any h'.2) (h.2 j hj)⟩

theorem TT.weak : ∀ {f : Nat} {R R' : List Pd} {listed : Array Bool} {a : Act} {w : World}, (∀ r ∈ R', r ∈ R) → TT P ops Q f R listed a w → TT P ops Q f R' listed a w
  | 0, _, _, _, _, _, _, h => h
  | _ + 1, _, _, _, _, _, hR, h => ⟨h.1, fun j hj => wpOp_mono (fun _ _ h' => ⟨fun r hr => h'.1 r (hR r hr), TT.weak (fun r hr => by
      simp only [List.mem_filter] at hr ⊢
      exact ⟨hR r hr.1, hr.2⟩) h'.2⟩) (h.2 j hj)⟩

/-- What an operation leaves of the frame. -/
theorem wpOp_frame {j : Nat} {oj : Oper} {K : Act → World → Prop} {a : Act} {w : World} (hj : ops[j]? = some oj) (h : wpOp P ops Q j K a w) :
    wpOp P ops Q j (fun a' w' => K a' w' ∧ ∃ u ds, a' = ({ a with defers := ds } : Act).put oj.dst u) a w := by
  unfold wpOp at h ⊢
  simp only [hj] at h ⊢
  by_cases hw : Region.wanted oj (yielded ops a.tmps) = true
  · rw [if_pos hw] at h ⊢
    refine h.imp (fun h => ?_) id
    unfold Oper.wp at h ⊢
    generalize (execOp a.eval oj).run P w = r at h ⊢
    cases r with
    | ok n w' =>
      cases n <;> simp only [Oper.upon] at h ⊢
      case value u => exact ⟨h, u, a.defers, rfl⟩
      case skip => exact ⟨h, undef, a.defers, rfl⟩
      case defer d => exact ⟨h, undef, d :: a.defers, rfl⟩
      case enter f args =>
        refine Calls.mono h fun e w'' he => ?_
        cases e with
        | returned u => exact ⟨he, u, a.defers, rfl⟩
        | panicked c => exact he
        | outgrown => exact he
      case row row args => exact Rows.mono h fun u w'' he => ⟨he, u, a.defers, rfl⟩
    | halt x w' => cases x <;> exact h
  · rw [if_neg hw] at h ⊢
    exact ⟨h, undef, a.defers, rfl⟩

def YJ (P : Program) (ops : Array Oper) (o : Oper) (v : Value) (J : World → Prop) (a : Act) : Prop :=
  (Region.wanted o (yielded ops a.tmps) = true ∧ ∀ w, J w → (execOp a.eval o).run P w = .ok (.value v) w) ∨
  (Region.wanted o (yielded ops a.tmps) = false ∧ v = undef)

theorem YJ.wpOp {i : Nat} {o : Oper} {v : Value} {J : World → Prop} {a : Act} (hi : ops[i]? = some o) (hy : YJ P ops o v J a)
    {K : Act → World → Prop} {w : World} (hJ : J w) (h : K (a.put o.dst v) w) : wpOp P ops Q i K a w := by
  unfold Go.wpOp
  simp only [hi]
  rcases hy with ⟨hw, hv⟩ | ⟨hw, rfl⟩
  · rw [if_pos hw]; left; simp only [Oper.wp, hv w hJ, Oper.upon]; exact h
  · rw [if_neg (by simp [hw])]; exact h

/-- No edge leads from j to i. -/
def freeOf (ops : Array Oper) (i j : Nat) : Bool :=
  match ops[j]? with
  | some o => !(o.after.any fun e => Region.binds .any e && e.on == i)
  | none => false

theorem first_TT {i : Nat} {oi : Oper} {v : Value} {J : World → Prop} (hi : ops[i]? = some oi)
    (hsel : ∀ (j : Nat) (o : Oper) cs b, ops[j]? = some o → o.op ≠ .select cs b) (hQ : ∀ c a a' w, Q (.panic c) a w → Q (.panic c) a' w) :
    ∀ (f : Nat) (R : List Pd) (listed : Array Bool) (a : Act) (w : World),
      (∀ j oj, ops[j]? = some oj → j ≠ i → listed.getD j true = false → (∀ e ∈ oj.after, Region.binds .any e = true → e.on ≠ i) → oi.apart ops oj = true) →
      i ∈ Region.ready .any ops listed → YJ P ops oi v J a → J w → (∀ r ∈ R, r.J w) →
      TT P ops Q f (⟨freeOf ops i, J⟩ :: R) (listed.setIfInBounds i true) (a.put oi.dst v) w → TT P ops Q (f + 1) R listed a w := by
  intro f
  induction f with
  | zero =>
    intro R listed a w _ hr hy hJ hR H
    refine ⟨fun h => (by rw [h] at hr; cases hr), fun j hj => ?_⟩
    by_cases hji : j = i
    · subst hji
      exact hy.wpOp hi hJ ⟨fun r hr _ => hR r hr, TT.weak (fun r hr => List.mem_cons_of_mem _ (List.mem_filter.1 hr).1) H⟩
    · have := ready_mono hj hji
      rw [H.1] at this
      cases this
  | succ f ih =>
    intro R listed a w hfree hr hy hJ hR H
    refine ⟨fun h => (by rw [h] at hr; cases hr), fun j hj => ?_⟩
    by_cases hji : j = i
    · subst hji
      exact hy.wpOp hi hJ ⟨fun r hr _ => hR r hr, TT.weak (fun r hr => List.mem_cons_of_mem _ (List.mem_filter.1 hr).1) H⟩
    · obtain ⟨hjun, oj, hoj, hall⟩ := mem_ready.1 hj
      have hnot : ∀ e ∈ oj.after, Region.binds .any e = true → e.on ≠ i := fun e he hb heq => by
        have h1 := hall e he hb
        have h0 := (mem_ready.1 hr).1
        rw [heq] at h1
        rcases Nat.lt_or_ge i listed.size with h' | h'
        · simp [h'] at h0 h1; rw [h0] at h1; cases h1
        · simp [Array.getElem?_eq_none h'] at h1
      have hB : freeOf ops i j = true := by
        unfold freeOf
        rw [hoj]
        simp only
        cases hany : oj.after.any (fun e => Region.binds .any e && e.on == i) with
        | false => rfl
        | true =>
          obtain ⟨e, he, hb⟩ := Array.any_eq_true'.1 hany
          simp only [Bool.and_eq_true, beq_iff_eq] at hb
          exact (hnot e he hb.1 hb.2).elim
      have hap := hfree j oj hoj hji hjun hnot
      obtain ⟨ha1, ha2, ha3⟩ := Oper.apart_spec hap
      -- a stand-in that yields v whatever the frame
      let oi' : Oper := { dst := oi.dst, op := .move (.const v), type := 0, pos := "", after := #[], guard := none }
      have hap' : oi'.apart ops oj = true := by
        have h1 : oi'.looksAt ops = [] := by simp [oi', Oper.looksAt, Op.operands]
        unfold Oper.apart at hap ⊢
        rw [h1]
        simp only [Bool.and_eq_true] at hap ⊢
        refine ⟨hap.1, ?_⟩
        cases oj.dst <;> simp
      have hy' : Yields P ops oi' v a := .inl ⟨rfl, fun w => by simp [oi', execOp, Act.eval]⟩
      have h1 := H.2 j (ready_mono hj hji)
      have h2 := wpOp_put (oi := oi') hoj hap' (by intro cs b h; cases h) (fun cs b => hsel j oj cs b hoj) (fun c a w h => hQ _ _ _ _ h) hy' h1
      have h3 := wpOp_frame hoj h2
      refine wpOp_mono ?_ h3
      rintro a' w' ⟨⟨_, hinv, hT⟩, u, ds, rfl⟩
      have hy2 : YJ P ops oi v J (({ a with defers := ds } : Act).put oj.dst u) := by
        have e1 : execOp (({ a with defers := ds } : Act).put oj.dst u).eval oi = execOp a.eval oi := by
          rw [execOp_put oi (fun cs b => hsel i oi cs b hi) _ oj.dst u ha3]; rfl
        have e2 : Region.wanted oi (yielded ops (({ a with defers := ds } : Act).put oj.dst u).tmps) = Region.wanted oi (yielded ops a.tmps) := by
          rw [wanted_put oi _ oj.dst u ha3]
        unfold YJ at hy ⊢
        rw [e1, e2]
        exact hy
      have hfree' : ∀ k ok, ops[k]? = some ok → k ≠ i → (listed.setIfInBounds j true).getD k true = false →
          (∀ e ∈ ok.after, Region.binds .any e = true → e.on ≠ i) → oi.apart ops ok = true := fun k ok hk hki hun hno => by
        refine hfree k ok hk hki ?_ hno
        by_cases hjk : j = k
        · subst hjk; exact hjun
        · rw [getD_set_ne true hjk] at hun; exact hun
      refine ⟨fun r hr hb => hinv r (List.mem_cons_of_mem _ hr) hb, ih _ _ _ _ hfree' (ready_mono hr (Ne.symm hji)) hy2 (hinv _ List.mem_cons_self hB) ?_ ?_⟩
      · intro r hr
        obtain ⟨hr, hb⟩ := List.mem_filter.1 hr
        exact hinv r (List.mem_cons_of_mem _ hr) hb
      · rw [List.filter_cons_of_pos (by simpa using hB)] at hT
        rw [Array.setIfInBounds_comm _ _ (Ne.symm hji)] at hT
        exact hT

/-! The walk. -/
theorem fieldR_all {T : Tab} (hT : TabOk P T) {s : TypeId} {x : Value} {f : Nat} {K : Value → Prop} (h : fieldR T s x f K) :
    ∃ v, (∀ w, (Instr.fieldAt s x f).run P w = .ok v w) ∧ K v := by
  unfold fieldR at h
  split at h
  · rename_i fs a hd
    split at h
    · rename_i fd hf
      split at h
      · rename_i n hs
        obtain ⟨_, h⟩ := addAt_elim h
        refine ⟨_, fun w => ?_, h⟩
        have hf' : fs[f]? = some fd := by simpa using hf
        simp [Instr.fieldAt, hT.und hd, hf', Instr.sureAddr, fieldPlace, hT.siz hs]
      · exact h.elim
    · exact h.elim
  · exact h.elim

theorem indexR_all {T : Tab} (hT : TabOk P T) {t : TypeId} {x : Value} {k : IntKind} {i : Int} {K : Value → Prop} (h : indexR T t x i K) :
    ∃ v, (∀ w, (Instr.indexAt t x (.int k i)).run P w = .ok v w) ∧ K v := by
  unfold indexR at h
  split at h
  · rename_i el a len c hd
    split at h
    · rename_i hs
      obtain ⟨h0, h1, h⟩ := h
      obtain ⟨_, h⟩ := addAt_elim h
      exact ⟨_, fun w => by simp [Instr.indexAt, asIntOf, hT.und hd, hT.siz hs, h0, h1], h⟩
    · rename_i n hn hs
      obtain ⟨h0, h1, h⟩ := h
      obtain ⟨_, h⟩ := addAt_elim h
      exact ⟨_, fun w => by simp [Instr.indexAt, asIntOf, hT.und hd, hT.siz hs, h0, h1], h⟩
    · exact h.elim
  · rename_i len el a hd
    split at h
    · rename_i hs
      obtain ⟨h0, h1, h⟩ := h
      obtain ⟨_, h⟩ := addAt_elim h
      exact ⟨_, fun w => by simp [Instr.indexAt, asIntOf, hT.und hd, hT.siz hs, h0, h1, Instr.sureAddr], h⟩
    · rename_i n hn hs
      obtain ⟨h0, h1, h⟩ := h
      obtain ⟨_, h⟩ := addAt_elim h
      exact ⟨_, fun w => by simp [Instr.indexAt, asIntOf, hT.und hd, hT.siz hs, h0, h1, Instr.sureAddr], h⟩
    · exact h.elim
  · exact h.elim

theorem binR_all {op : BinOp} {t : TypeId} {xo yo : Operand} {k k' : IntKind} {m n : Int} {w : World} {K : Value → World → Prop}
    (h : binR P op t xo yo (.int k m) (.int k' n) w K) : ∃ v, (∀ w, (do eqGuard op t xo yo (.int k m) (.int k' n); binOp op t (.int k m) (.int k' n) : Sem Value).run P w = .ok v w) ∧ K v w := by
  unfold binR at h
  cases op <;> simp only at h
  case shl => obtain ⟨h0, h⟩ := h; exact ⟨_, fun w => by rw [eqGuard_int']; simp [binOp, Op.shift, Int.not_lt.2 h0], h.out⟩
  case shr => obtain ⟨h0, h⟩ := h; exact ⟨_, fun w => by rw [eqGuard_int']; simp [binOp, Op.shift, Int.not_lt.2 h0], h.out⟩
  case quo => obtain ⟨hk, h0, h2⟩ := sameK_elim h; subst hk; exact ⟨_, fun w => by rw [eqGuard_int']; simp [binOp, Op.intDiv, h0], h2.out⟩
  case rem => obtain ⟨hk, h0, h2⟩ := sameK_elim h; subst hk; exact ⟨_, fun w => by rw [eqGuard_int']; simp [binOp, Op.intDiv, h0], h2.out⟩
  all_goals
    obtain ⟨hk, h2⟩ := sameK_elim h
    subst hk
    first | refine ⟨_, fun w => ?_, h2.out⟩ | refine ⟨_, fun w => ?_, h2⟩
    rw [eqGuard_int']
    simp [binOp, Op.intArith, Op.intBits, Op.intCmp]

structure DoS (P : Program) (s : Sem Value) (w : World) (K : Value → Option (World → Prop) → Prop) : Prop where
  out : ∃ v, s.run P w = .ok v w ∧ K v (some fun w => s.run P w = .ok v w)

def Jof : Option (World → Prop) → World → Prop
  | none, _ => True
  | some J, w => J w

def isStable : Op → Bool
  | .move _ => true
  | .assign _ => true
  | .pick _ _ _ => true
  | .nilCheck _ => true
  | .fieldAddr _ _ _ => true
  | .indexAddr _ _ _ => true
  | .extract _ _ => true
  | .binOp _ _ _ _ _ => true
  | .unOp _ _ _ => true
  | .convert _ _ _ => true
  | .load _ _ => true
  | .slice _ _ _ _ _ => true
  | .index _ _ _ => true
  | .lookup _ _ _ _ => true
  | .build _ _ => true
  | .field _ _ _ => true
  | .call ⟨.builtin .len, _, _⟩ => true
  | .call ⟨.builtin .min, _, _⟩ => true
  | .call ⟨.builtin .max, _, _⟩ => true
  | _ => false

def stR (P : Program) (T : Tab) (o : Oper) (e : (List (Nat × Value))) (w : World) (K : Value → Option (World → Prop) → Prop) : Prop :=
  match o.op with
  | .move x => opt (ev e x) fun v => K v none
  | .assign x => opt (ev e x) fun v => K v none
  | .pick c a b => opt (ev e c) fun vc => match vc with
    | .bool t => Br t (opt (ev e a) fun v => K v none) (opt (ev e b) fun v => K v none)
    | _ => False
  | .nilCheck x => opt (ev e x) fun v => match v with
    | .pointer (some p) => K (.pointer (some p)) none
    | .iface t x => K (.iface t x) none
    | _ => False
  | .fieldAddr s x f => opt (ev e x) fun x => fieldR T s x f fun v => K v none
  | .indexAddr t x i => opt (ev e x) fun x => opt (ev e i) fun i => match i with
    | .int _ n => indexR T t x n fun v => K v none
    | _ => False
  | .extract t i => opt (ev e t) fun t => match t with
    | .tuple vs => opt vs.toList[i]? fun v => K v none
    | _ => False
  | .binOp op t x y _ => opt (ev e x) fun a => opt (ev e y) fun b => match a, b with
    | .int k m, .int k' n => binR P op t x y (.int k m) (.int k' n) w fun v _ => K v none
    | a, b => DoS P (do eqGuard op t x y a b; binOp op t a b) w K
  | .unOp op _ x => opt (ev e x) fun a => match op, a with
    | .neg, .int k n => Ar k (0 - n) fun r => K (.int k r) none
    | .not, .bool b => K (.bool !b) none
    | op, a => DoS P (Op.unary op a) w K
  | .convert s d x => opt (ev e x) fun a => match T.d d, a with
    | some (.int k), .int _ n => match T.d s with
      | some _ => Ar k n fun r => K (.int k r) none
      | none => False
    | _, a => DoS P (convert s d a) w K
  | .load t a => opt (ev e a) fun v => match T.d t, v with
    | some (.struct _), .pointer (some a) => opt (T.s t) fun n => LdN w a n fun vs => K (.agg vs.toArray) (some fun w => ∀ i, i < n → w.cell? (a.add i) = vs[i]?)
    | some (.array _ _), .pointer (some a) => opt (T.s t) fun n => LdN w a n fun vs => K (.agg vs.toArray) (some fun w => ∀ i, i < n → w.cell? (a.add i) = vs[i]?)
    | some _, .pointer (some a) => Ld w a fun v => K v (some fun w => w.cell? a = some v)
    | _, _ => False
  | .slice t x lo hi mx => opt (ev e x) fun x => evO e lo fun lo => evO e hi fun hi => evO e mx fun mx => DoS P (Instr.sliceAt t x lo hi mx) w K
  | .index t x i => opt (ev e x) fun x => opt (ev e i) fun i => DoS P (Instr.index t x i) w K
  | .lookup t m k ok => opt (ev e m) fun m => opt (ev e k) fun k => DoS P (Instr.lookup t m k ok) w K
  | .build t ps => evP e ps.toList fun l => buildK T t l fun v => K v none
  | .field t x f => opt (ev e x) fun x => DoS P (Instr.field t x f) w K
  | .call ⟨.builtin b, args, tys⟩ => evL e args.toList fun vs => match b, vs, tys.toList with
    | .len, [.slice _ n _], t :: _ => match T.d t with
      | some (.slice _) => K (.int .i64 n) none
      | _ => False
    | .min, [.int k m, .int _ n], _ => Eqv (min m n) fun r => K (.int k r) none
    | .max, [.int k m, .int _ n], _ => Eqv (max m n) fun r => K (.int k r) none
    | _, _, _ => False
  | _ => False

theorem yv {o : Oper} {a : Act} {v : Value} {w : World} {s : Sem Value} (h : execOp a.eval o = (do pure (Next.value (← s)))) (hs : s.run P w = .ok v w) :
    (execOp a.eval o).run P w = .ok (.value v) w := by rw [h]; simp [hs]

theorem stR_elim {T : Tab} (hT : TabOk P T) {o : Oper} {e : (List (Nat × Value))} {w : World} {K : Value → Option (World → Prop) → Prop} (h : stR P T o e w K) :
    ∃ v J, K v J ∧ Jof J w ∧ ∀ a : Act, (∀ x ∈ o.op.operands, ∀ v, ev e x = some v → a.eval x = v) → ∀ w2, Jof J w2 → (execOp a.eval o).run P w2 = .ok (.value v) w2 := by
  obtain ⟨dst, op, type, pos, after, guard⟩ := o
  unfold stR at h
  cases op <;> simp only at h
  case move x =>
    obtain ⟨v, hv, h⟩ := opt_elim h
    exact ⟨v, none, h, trivial, fun a hx w2 _ => by simp [execOp, hx x (by simp [Op.operands]) v hv]⟩
  case assign x =>
    obtain ⟨v, hv, h⟩ := opt_elim h
    exact ⟨v, none, h, trivial, fun a hx w2 _ => by simp [execOp, hx x (by simp [Op.operands]) v hv]⟩
  case pick c x y =>
    obtain ⟨vc, hc, h⟩ := opt_elim h
    split at h
    · rename_i t
      obtain ⟨h1, h2⟩ := h
      cases t with
      | true =>
        obtain ⟨v, hv, h⟩ := opt_elim (h1 rfl)
        exact ⟨v, none, h, trivial, fun a hx w2 _ => by simp [execOp, hx c (by simp [Op.operands]) _ hc, asBool, hx x (by simp [Op.operands]) v hv]⟩
      | false =>
        obtain ⟨v, hv, h⟩ := opt_elim (h2 rfl)
        exact ⟨v, none, h, trivial, fun a hx w2 _ => by simp [execOp, hx c (by simp [Op.operands]) _ hc, asBool, hx y (by simp [Op.operands]) v hv]⟩
    · exact h.elim
  case nilCheck x =>
    obtain ⟨v, hv, h⟩ := opt_elim h
    split at h
    · exact ⟨_, none, h, trivial, fun a hx w2 _ => by simp [execOp, hx x (by simp [Op.operands]) _ hv]⟩
    · exact ⟨_, none, h, trivial, fun a hx w2 _ => by simp [execOp, hx x (by simp [Op.operands]) _ hv]⟩
    · exact h.elim
  case fieldAddr s x f =>
    obtain ⟨v, hv, h⟩ := opt_elim h
    obtain ⟨v2, hr, h⟩ := fieldR_all hT h
    exact ⟨_, none, h, trivial, fun a hx w2 _ => yv (s := Instr.fieldAt s v f) (by simp [execOp, hx x (by simp [Op.operands]) _ hv]) (hr w2)⟩
  case indexAddr t x i =>
    obtain ⟨v, hv, h⟩ := opt_elim h
    obtain ⟨v2, hv2, h⟩ := opt_elim h
    split at h
    · rename_i k n
      obtain ⟨v3, hr, h⟩ := indexR_all (k := k) hT h
      exact ⟨_, none, h, trivial, fun a hx w2 _ => yv (s := Instr.indexAt t v (.int k n)) (by simp [execOp, hx x (by simp [Op.operands]) _ hv, hx i (by simp [Op.operands]) _ hv2]) (hr w2)⟩
    · exact h.elim
  case extract x i =>
    obtain ⟨v, hv, h⟩ := opt_elim h
    split at h
    · rename_i vs
      obtain ⟨v2, hi, h⟩ := opt_elim h
      have hi' : vs[i]? = some v2 := by simpa using hi
      exact ⟨_, none, h, trivial, fun a hx w2 _ => by simp [execOp, hx x (by simp [Op.operands]) _ hv, Instr.extract, hi']⟩
    · exact h.elim
  case binOp op t x y yt =>
    obtain ⟨v, hv, h⟩ := opt_elim h
    obtain ⟨v2, hv2, h⟩ := opt_elim h
    split at h
    · obtain ⟨v3, hr, h⟩ := binR_all h
      exact ⟨_, none, h, trivial, fun a hx w2 _ => yv (s := do eqGuard op t x y _ _; binOp op t _ _) (by simp [execOp, hx x (by simp [Op.operands]) _ hv, hx y (by simp [Op.operands]) _ hv2]) (hr w2)⟩
    · obtain ⟨v3, hr, h⟩ := h.out
      exact ⟨_, _, h, hr, fun a hx w2 hj => yv (s := do eqGuard op t x y _ _; binOp op t _ _) (by simp [execOp, hx x (by simp [Op.operands]) _ hv, hx y (by simp [Op.operands]) _ hv2]) hj⟩
  case unOp op t x =>
    obtain ⟨v, hv, h⟩ := opt_elim h
    split at h
    · rename_i k n _
      exact ⟨_, none, h.out, trivial, fun a hx w2 _ => yv (s := Op.unary .neg (.int k n)) (by simp [execOp, hx x (by simp [Op.operands]) _ hv]) (by simp [Op.unary, Op.intArith])⟩
    · rename_i b _
      exact ⟨_, none, h, trivial, fun a hx w2 _ => yv (s := Op.unary .not (.bool b)) (by simp [execOp, hx x (by simp [Op.operands]) _ hv]) (by simp [Op.unary])⟩
    · obtain ⟨v3, hr, h⟩ := h.out
      exact ⟨_, _, h, hr, fun a hx w2 hj => yv (s := Op.unary _ _) (by simp [execOp, hx x (by simp [Op.operands]) _ hv]) hj⟩
  case convert s d x =>
    obtain ⟨v, hv, h⟩ := opt_elim h
    split at h
    · rename_i k k' n hd
      split at h
      · rename_i ds hs
        exact ⟨_, none, h.out, trivial, fun a hx w2 _ => yv (s := convert s d (.int k' n)) (by simp [execOp, hx x (by simp [Op.operands]) _ hv]) (by simp [convert, hT.und hd, hT.und hs, Conv.intToInt])⟩
      · exact h.elim
    · obtain ⟨v3, hr, h⟩ := h.out
      exact ⟨_, _, h, hr, fun a hx w2 hj => yv (s := convert s d _) (by simp [execOp, hx x (by simp [Op.operands]) _ hv]) hj⟩
  case load t x =>
    obtain ⟨v, hv, h⟩ := opt_elim h
    have key : ∀ w2 u, loadR T t v w2 (fun v' => v' = u) → (Instr.loadAt t v).run P w2 = .ok u w2 := by
      intro w2 u h
      obtain ⟨u', hr, rfl⟩ := loadR_elim (P := P) hT h
      exact hr
    have fin : ∀ (u : Value) (J : World → Prop), (∀ w2, J w2 → loadR T t v w2 (fun v' => v' = u)) → ∀ a : Act, (∀ y ∈ (Op.load t x).operands, ∀ v, ev e y = some v → a.eval y = v) → ∀ w2, J w2 →
        (execOp a.eval { dst := dst, op := Op.load t x, type := type, pos := pos, after := after, guard := guard }).run P w2 = .ok (.value u) w2 :=
      fun u J hJ a hx w2 hj => yv (s := Instr.loadAt t v) (by simp [execOp, hx x (by simp [Op.operands]) _ hv]) (key w2 u (hJ w2 hj))
    have agg : ∀ {d : TypeDesc} {a : Addr}, T.d t = some d → aggD d = true → v = .pointer (some a) →
        (opt (T.s t) fun n => LdN w a n fun vs => K (.agg vs.toArray) (some fun w => ∀ i, i < n → w.cell? (a.add i) = vs[i]?)) →
        ∃ v J, K v J ∧ Jof J w ∧ ∀ b : Act, (∀ y ∈ (Op.load t x).operands, ∀ v, ev e y = some v → b.eval y = v) → ∀ w2, Jof J w2 →
          (execOp b.eval { dst := dst, op := Op.load t x, type := type, pos := pos, after := after, guard := guard }).run P w2 = .ok (.value v) w2 := by
      intro d a hd hagg hva h
      obtain ⟨n, hn, vs, hl, hc, hk⟩ := opt_elim h
      refine ⟨_, _, hk, hc, fin _ _ fun w2 hj => ?_⟩
      subst hva
      unfold loadR
      rw [hd]
      cases d <;> simp only [aggD] at hagg <;> first
        | (simp only [hn, opt]; exact ⟨vs, hl, hj, rfl⟩)
        | cases hagg
    split at h
    · rename_i fs a hd; exact agg hd rfl rfl h
    · rename_i n el a hd; exact agg hd rfl rfl h
    · rename_i d a hn1 hn2 hd
      obtain ⟨u, hu, hk⟩ := h
      refine ⟨u, _, hk, hu, fin _ _ fun w2 hj => ?_⟩
      unfold loadR
      rw [hd]
      cases d <;> first
        | exact ⟨u, hj, rfl⟩
        | exact (hn1 _ rfl).elim
        | exact (hn2 _ _ rfl).elim
    · exact h.elim
  case slice t x lo hi mx =>
    obtain ⟨v, hv, h⟩ := opt_elim h
    obtain ⟨v1, h, h1⟩ := evO_elim h
    obtain ⟨v2, h, h2⟩ := evO_elim h
    obtain ⟨v3, h, h3⟩ := evO_elim h
    obtain ⟨v4, hr, h⟩ := h.out
    refine ⟨_, _, h, hr, fun a hx w2 hj => yv (s := Instr.sliceAt t v v1 v2 v3) ?_ hj⟩
    have e1 := h1 a.eval (fun y hm v hv => hx y (by cases lo <;> simp [Op.operands] at hm ⊢; simp [hm]) v hv)
    have e2 := h2 a.eval (fun y hm v hv => hx y (by cases hi <;> simp [Op.operands] at hm ⊢; simp [hm]) v hv)
    have e3 := h3 a.eval (fun y hm v hv => hx y (by cases mx <;> simp [Op.operands] at hm ⊢; simp [hm]) v hv)
    simp [execOp, hx x (by simp [Op.operands]) v hv, e1, e2, e3]
  case index t x i =>
    obtain ⟨v, hv, h⟩ := opt_elim h
    obtain ⟨v2, hv2, h⟩ := opt_elim h
    obtain ⟨v3, hr, h⟩ := h.out
    exact ⟨_, _, h, hr, fun a hx w2 hj => yv (s := Instr.index t _ _) (by simp [execOp, hx x (by simp [Op.operands]) _ hv, hx i (by simp [Op.operands]) _ hv2]) hj⟩
  case lookup t m k ok =>
    obtain ⟨v, hv, h⟩ := opt_elim h
    obtain ⟨v2, hv2, h⟩ := opt_elim h
    obtain ⟨v3, hr, h⟩ := h.out
    exact ⟨_, _, h, hr, fun a hx w2 hj => yv (s := Instr.lookup t _ _ ok) (by simp [execOp, hx m (by simp [Op.operands]) _ hv, hx k (by simp [Op.operands]) _ hv2]) hj⟩
  case build t ps =>
    obtain ⟨vs, h, hm⟩ := evP_elim h
    obtain ⟨v3, hr, h⟩ := buildK_elim (P := P) hT h
    refine ⟨_, none, h, trivial, fun a hx w2 hj => yv (s := Instr.build t vs.toArray) ?_ (hr w2)⟩
    have := hm a.eval (fun x hm v hv => hx x (by simpa [Op.operands] using hm) v hv)
    have e2 : (ps.map fun (i, x) => (i, a.eval x)) = vs.toArray := by rw [← this]; apply Array.toList_inj.1; simp
    simp only [execOp]; rw [e2]
  case field t x f =>
    obtain ⟨v, hv, h⟩ := opt_elim h
    obtain ⟨v3, hr, h⟩ := h.out
    exact ⟨_, _, h, hr, fun a hx w2 hj => yv (s := Instr.field t _ f) (by simp [execOp, hx x (by simp [Op.operands]) _ hv]) hj⟩
  case call c =>
    obtain ⟨callee, args, tys⟩ := c
    cases callee with
    | value f => exact h.elim
    | invoke r n => exact h.elim
    | builtin b =>
      simp only at h
      obtain ⟨vs, h, hm⟩ := evL_elim h
      have hex : ∀ a : Act, (∀ x ∈ (Op.call ⟨.builtin b, args, tys⟩).operands, ∀ v, ev e x = some v → a.eval x = v) →
          execOp a.eval { dst := dst, op := Op.call { callee := Callee.builtin b, args := args, argTypes := tys }, type := type, pos := pos, after := after, guard := guard } = builtin b tys type (args.map isConst) vs.toArray := by
        intro a hx
        have := hm a.eval (fun x hmem v hv => hx x (by simp [Op.operands, Call.operands]; simpa using hmem) v hv)
        have hargs : args.map a.eval = vs.toArray := by rw [← this]; apply Array.toList_inj.1; simp
        simp only [execOp, resolve, hargs, pure_bind, invoke]; rfl
      split at h
      · rename_i x n c t r ht _
        split at h
        · rename_i el hd
          refine ⟨_, none, h, trivial, fun a hx w2 _ => ?_⟩
          have ht' : tys[0]? = some t := by rw [← Array.getElem?_toList, ht]; rfl
          rw [hex a hx]
          simp [builtin, Builtin.len_, ht', hT.und hd, goInt]
        · exact h.elim
      · refine ⟨_, none, h.out, trivial, fun a hx w2 _ => ?_⟩
        rw [hex a hx]
        simp only [builtin, Builtin.min_]
        simp [Builtin.min2]
        split <;> omega
      · refine ⟨_, none, h.out, trivial, fun a hx w2 _ => ?_⟩
        rw [hex a hx]
        simp only [builtin, Builtin.max_]
        simp [Builtin.max2]
        split <;> omega
      · exact h.elim

structure Kept (J : Prop) (A : Prop) : Prop where
  kept : J
  out : A

def freeL (ops : List Oper) (i j : Nat) : Bool :=
  match ops[j]? with
  | some o => !(o.after.toList.any fun e => Region.binds .any e && Nat.beq e.on i)
  | none => false

/-- What was read and does not stand ahead of operation j. -/
def heldL (ops : List Oper) (j : Nat) : List (Nat × (World → Prop)) → List (World → Prop)
  | [] => []
  | (i, J) :: r => match freeL ops i j with
    | true => J :: heldL ops j r
    | false => heldL ops j r

def restL (ops : List Oper) (j : Nat) : List (Nat × (World → Prop)) → List (Nat × (World → Prop))
  | [] => []
  | (i, J) :: r => match freeL ops i j with
    | true => (i, J) :: restL ops j r
    | false => restL ops j r

def keptK (ops : List Oper) (j : Nat) (w : World) : List (Nat × (World → Prop)) → (List (Nat × (World → Prop)) → Prop) → Prop
  | [], K => K []
  | (i, J) :: r, K => match freeL ops i j with
    | true => Kept (J w) (keptK ops j w r fun R => K ((i, J) :: R))
    | false => keptK ops j w r K

theorem keptK_elim {ops : List Oper} {j : Nat} {w : World} : ∀ {R : List (Nat × (World → Prop))} {K : List (Nat × (World → Prop)) → Prop}, keptK ops j w R K → (∀ J ∈ heldL ops j R, J w) ∧ K (restL ops j R)
  | [], K, h => ⟨fun J hJ => (nomatch hJ), h⟩
  | (i, J) :: r, K, h => by
    unfold keptK at h
    unfold heldL restL
    cases hf : freeL ops i j with
    | true =>
      rw [hf] at h
      obtain ⟨h1, h2⟩ := keptK_elim h.out
      refine ⟨fun J' hJ' => ?_, h2⟩
      rcases List.mem_cons.1 hJ' with rfl | hJ'
      · exact h.kept
      · exact h1 J' hJ'
    | false =>
      rw [hf] at h
      exact keptK_elim h

def addJ (i : Nat) (J : Option (World → Prop)) (R : List (Nat × (World → Prop))) : List (Nat × (World → Prop)) :=
  match J with
  | none => R
  | some J => (i, J) :: R


def dStep (P : Program) (T : Tab) (N : Nat) (B : (List (Nat × Value))) (ops : List Oper) (i : Nat) (ih : (List (Nat × (World → Prop)) → (List (Nat × Value)) → World → ((List (Nat × Value)) → World → Prop) → Prop)) : (List (Nat × (World → Prop)) → (List (Nat × Value)) → World → ((List (Nat × Value)) → World → Prop) → Prop) := fun R e w K =>
  match ops[i]? with
  | some o => guardR ops o.guard e
      (fun e => match isStable o.op with
        | true => stR P T o e w fun v J => putR N B e o.dst v fun e => ih (addJ i J R) e w K
        | false => vcOp P T o e w fun v w' => putR N B e o.dst v fun e => keptK ops i w' R fun R => ih R e w' K)
      (fun e => putR N B e o.dst undef fun e => match isStable o.op with
        | true => ih R e w K
        | false => ih (restL ops i R) e w K)
  | none => False

def dGo (P : Program) (T : Tab) (N : Nat) (B : (List (Nat × Value))) (ops : List Oper) (l : List Nat) : (List (Nat × (World → Prop)) → (List (Nat × Value)) → World → ((List (Nat × Value)) → World → Prop) → Prop) :=
  List.rec (motive := fun _ => (List (Nat × (World → Prop)) → (List (Nat × Value)) → World → ((List (Nat × Value)) → World → Prop) → Prop)) (fun _ e w K => K e w) (fun i _ ih => dStep P T N B ops i ih) l

def okGo (ops : Array Oper) : List Nat → Array Bool → Bool
  | [], listed => (Region.ready .any ops listed).isEmpty
  | i :: r, listed => (match ops[i]? with
    | some o => match isStable o.op with
      | true => (Region.ready .any ops listed).contains i && Region.free .any ops listed i
      | false => Region.ready .any ops listed == [i]
    | none => false) && okGo ops r (listed.setIfInBounds i true)

def okDraw (ops : Array Oper) (l : List Nat) : Bool :=
  noDefer ops.toList && (Region.noSelect ops && Nat.beq l.length ops.size && okGo ops l (Array.replicate ops.size false))

theorem freeL_eq {i j : Nat} : freeL ops.toList i j = freeOf ops i j := by
  unfold freeL freeOf
  rw [Array.getElem?_toList]
  cases ops[j]? with
  | none => rfl
  | some o =>
    simp only [Array.any_toList]
    have : ∀ m n : Nat, Nat.beq m n = (m == n) := fun m n => by rw [Bool.eq_iff_iff]; simp [Nat.beq_eq]
    simp only [this]

theorem TT.addTrue : ∀ {f : Nat} {R : List Pd} {p : Pd} {listed : Array Bool} {a : Act} {w : World}, (∀ w, p.J w) → TT P ops Q f R listed a w → TT P ops Q f (p :: R) listed a w
  | 0, _, _, _, _, _, _, h => h
  | f + 1, R, p, _, _, _, hp, h => ⟨h.1, fun j hj => wpOp_mono (fun a' w' h' => ⟨fun r hr hb => by
      cases hr with
      | head => exact hp _
      | tail _ hr => exact h'.1 r hr hb, by
      cases hB : p.B j with
      | true => rw [List.filter_cons_of_pos (by simpa using hB)]; exact TT.addTrue hp h'.2
      | false => rw [List.filter_cons_of_neg (by simp [hB])]; exact h'.2⟩) (h.2 j hj)⟩

def toPd (ops : Array Oper) (R : List (Nat × (World → Prop))) : List Pd := R.map fun x => ⟨freeOf ops x.1, x.2⟩

theorem heldL_spec {j : Nat} {w : World} : ∀ {R : List (Nat × (World → Prop))}, (∀ J ∈ heldL ops.toList j R, J w) → ∀ r ∈ toPd ops R, r.B j = true → r.J w
  | [], _, r, hr, _ => by simp [toPd] at hr
  | (i, J) :: R, h, r, hr, hb => by
    simp only [toPd, List.map_cons, List.mem_cons] at hr
    unfold heldL at h
    rcases hr with rfl | hr
    · have : freeL ops.toList i j = true := by rw [freeL_eq]; exact hb
      rw [this] at h
      exact h J (by simp)
    · refine heldL_spec (R := R) ?_ r hr hb
      intro J' hJ'
      cases hf : freeL ops.toList i j with
      | true => rw [hf] at h; exact h J' (by simp [hJ'])
      | false => rw [hf] at h; exact h J' hJ'

theorem restL_spec {j : Nat} : ∀ {R : List (Nat × (World → Prop))}, (toPd ops R).filter (·.B j) = toPd ops (restL ops.toList j R)
  | [] => rfl
  | (i, J) :: R => by
    unfold restL
    simp only [toPd, List.map_cons]
    have ih := restL_spec (j := j) (R := R)
    unfold toPd at ih
    cases hf : freeL ops.toList i j with
    | true => rw [List.filter_cons_of_pos (by simp only; rw [← freeL_eq]; exact hf), ih]; rfl
    | false => rw [List.filter_cons_of_neg (by simp only; rw [← freeL_eq, hf]; simp), ih]

theorem dGo_sound {T : Tab} (hT : TabOk P T) {N : Nat} {ds : List Deferred} {B : (List (Nat × Value))} (hs : Region.noSelect ops = true) (hQ : ∀ c a a' w, Q (.panic c) a w → Q (.panic c) a' w) :
    ∀ (l : List Nat) {R : List (Nat × (World → Prop))} {e : (List (Nat × Value))} {w : World} {a : Act} {listed : Array Bool} {K : (List (Nat × Value)) → World → Prop},
      okGo ops l listed = true → dGo P T N B ops.toList l R e w K → Fits N ds B e a → (∀ r ∈ toPd ops R, r.J w) → (∀ a' e' w', Fits N ds B e' a' → K e' w' → Q .normal a' w') →
      TT P ops Q l.length (toPd ops R) listed a w
  | [], R, e, w, a, listed, K, hok, h, hf, hR, hk => ⟨by simpa [okGo] using hok, hk _ _ _ hf h⟩
  | i :: l, R, e, w, a, listed, K, hok, h, hf, hR, hk => by
    simp only [okGo, Bool.and_eq_true] at hok
    obtain ⟨hok, hok'⟩ := hok
    change dStep P T N B ops.toList i (dGo P T N B ops.toList l) R e w K at h
    unfold dStep at h
    rw [Array.getElem?_toList] at h
    cases ho : ops[i]? with
    | none => rw [ho] at h; exact h.elim
    | some o =>
      rw [ho] at h hok
      simp only at h hok
      cases hst : isStable o.op with
      | true =>
        rw [hst] at h hok
        simp only [Bool.and_eq_true] at h hok
        have hr : i ∈ Region.ready .any ops listed := by simpa using hok.1
        have hfree := Region.free_spec ho hok.2
        rcases guardR_elim rfl h hf with ⟨hw, e', h, hf'⟩ | ⟨hw, e', h, hf'⟩
        · obtain ⟨v, J, h, hJ, hrun⟩ := stR_elim hT h
          obtain ⟨e2, h, hf2⟩ := putR_elim h hf'
          have ih := dGo_sound hT hs hQ l hok' h hf2 (by
            intro r hr
            cases J with
            | none => exact hR r hr
            | some J =>
              simp only [toPd, addJ, List.map_cons, List.mem_cons] at hr
              rcases hr with rfl | hr
              · exact hJ
              · exact hR r hr) hk
          refine first_TT ho (Region.noSelect_spec hs) hQ l.length (toPd ops R) listed a w hfree hr (v := v) (J := Jof J) (.inl ⟨hw, hrun a (fun x _ v hv => hf'.eval x v hv)⟩) hJ hR ?_
          cases J with
          | none => exact TT.addTrue (fun _ => trivial) ih
          | some J => exact ih
        · obtain ⟨e2, h, hf2⟩ := putR_elim h hf'
          have ih := dGo_sound hT hs hQ l hok' h hf2 hR hk
          exact first_TT ho (Region.noSelect_spec hs) hQ l.length (toPd ops R) listed a w hfree hr (v := undef) (J := fun _ => True) (.inr ⟨hw, rfl⟩) trivial hR (TT.addTrue (fun _ => trivial) ih)
      | false =>
        rw [hst] at h hok
        simp only at h hok
        have hr : Region.ready .any ops listed = [i] := by simpa using hok
        refine ⟨fun h0 => (by rw [hr] at h0; cases h0), fun j hj => ?_⟩
        rw [hr] at hj
        obtain rfl : j = i := by simpa using hj
        unfold wpOp
        rw [ho]
        simp only
        rcases guardR_elim rfl h hf with ⟨hw, e', h, hf'⟩ | ⟨hw, e', h, hf'⟩
        · rw [if_pos hw]
          left
          have := vcOp_sound (Q := Q) hT h (fun x _ v hv => hf'.eval x v hv)
          refine Oper.wp_mono ?_ this
          rintro a' w' ⟨v, rfl, h⟩
          obtain ⟨e2, h, hf2⟩ := putR_elim h hf'
          have h2 := keptK_elim h
          have hinv := heldL_spec h2.1
          refine ⟨hinv, ?_⟩
          rw [restL_spec]
          refine dGo_sound hT hs hQ l hok' h2.2 hf2 ?_ hk
          intro r hr
          rw [← restL_spec] at hr
          obtain ⟨hr, hb⟩ := List.mem_filter.1 hr
          exact hinv r hr hb
        · rw [if_neg (by simp [hw])]
          obtain ⟨e2, h, hf2⟩ := putR_elim h hf'
          refine ⟨fun r hr _ => hR r hr, ?_⟩
          rw [restL_spec]
          refine dGo_sound hT hs hQ l hok' h hf2 ?_ hk
          intro r hr
          rw [← restL_spec] at hr
          exact hR r (List.mem_filter.1 hr).1

/-- The orders of a region in which more than one operation that writes is ready at a time: each order is gone through. -/
inductive Tr where
  | done : Tr
  | step : Nat → Tr → Tr
  | alt : Tr → Tr → Tr

def Tr.row : List Nat → Tr → Tr
  | [], t => t
  | i :: r, t => .step i (Tr.row r t)

def Tr.heads : Tr → List Nat
  | .done => []
  | .step i _ => [i]
  | .alt a b => Tr.heads a ++ Tr.heads b

def Tr.depth : Tr → Nat
  | .done => 0
  | .step _ t => Tr.depth t + 1
  | .alt a b => max (Tr.depth a) (Tr.depth b)

structure Both (A B : Prop) : Prop where
  l : A
  r : B

theorem Both_in {A B : Prop} (h : A) (k : B) : Both A B := ⟨h, k⟩

def tGo (P : Program) (T : Tab) (N : Nat) (B : (List (Nat × Value))) (ops : List Oper) (t : Tr) : (List (Nat × (World → Prop)) → (List (Nat × Value)) → World → ((List (Nat × Value)) → World → Prop) → Prop) :=
  Tr.rec (motive := fun _ => (List (Nat × (World → Prop)) → (List (Nat × Value)) → World → ((List (Nat × Value)) → World → Prop) → Prop)) (fun _ e w K => K e w) (fun i _ ih => dStep P T N B ops i ih) (fun _ _ x y R e w K => Both (x R e w K) (y R e w K)) t

def okT (ops : Array Oper) : Tr → Array Bool → Bool → Bool
  | .done, listed, cov => !cov && (Region.ready .any ops listed).isEmpty
  | .step i t, listed, cov => (match ops[i]? with
    | some o => match isStable o.op with
      | true => !cov && (Region.ready .any ops listed).contains i && Region.free .any ops listed i
      | false => cov || Region.ready .any ops listed == [i]
    | none => false) && okT ops t (listed.setIfInBounds i true) false
  | .alt a b, listed, cov => (cov || (!(Region.ready .any ops listed).isEmpty && (Region.ready .any ops listed).all fun j => (Tr.heads a ++ Tr.heads b).contains j)) && okT ops a listed true && okT ops b listed true

def okTree (ops : Array Oper) (t : Tr) : Bool :=
  noDefer ops.toList && (Region.noSelect ops && Nat.ble (Tr.depth t) ops.size && okT ops t (Array.replicate ops.size false) false)

theorem TT.of_done {f : Nat} {R : List Pd} {listed : Array Bool} {a : Act} {w : World} (h : Region.ready .any ops listed = []) (hq : Q .normal a w) : TT P ops Q f R listed a w := by
  cases f with
  | zero => exact ⟨h, hq⟩
  | succ f => exact ⟨fun _ => hq, fun j hj => by rw [h] at hj; cases hj⟩

theorem tGo_sound {T : Tab} (hT : TabOk P T) {N : Nat} {ds : List Deferred} {B : (List (Nat × Value))} (hs : Region.noSelect ops = true) (hQ : ∀ c a a' w, Q (.panic c) a w → Q (.panic c) a' w) :
    ∀ (t : Tr) {f : Nat} {R : List (Nat × (World → Prop))} {e : (List (Nat × Value))} {w : World} {a : Act} {listed : Array Bool} {cov : Bool} {K : (List (Nat × Value)) → World → Prop},
      okT ops t listed cov = true → Tr.depth t ≤ f → tGo P T N B ops.toList t R e w K → Fits N ds B e a → (∀ r ∈ toPd ops R, r.J w) → (∀ a' e' w', Fits N ds B e' a' → K e' w' → Q .normal a' w') →
      (cov = false → TT P ops Q f (toPd ops R) listed a w) ∧
      (cov = true → ∀ f', f = f' + 1 → ∀ j ∈ Tr.heads t, wpOp P ops Q j (fun a' w' => (∀ r ∈ toPd ops R, r.B j = true → r.J w') ∧ TT P ops Q f' ((toPd ops R).filter (·.B j)) (listed.setIfInBounds j true) a' w') a w)
  | .done, f, R, e, w, a, listed, cov, K, hok, hd, h, hf, hR, hk => by
    simp only [okT, Bool.and_eq_true] at hok
    refine ⟨fun _ => TT.of_done (by simpa using hok.2) (hk _ _ _ hf h), fun hc => ?_⟩
    rw [hc] at hok
    exact absurd hok.1 (by simp)
  | .alt x y, f, R, e, w, a, listed, cov, K, hok, hd, h, hf, hR, hk => by
    simp only [okT, Bool.and_eq_true] at hok
    obtain ⟨⟨hc, hx⟩, hy⟩ := hok
    simp only [Tr.depth] at hd
    have hb : Both (tGo P T N B ops.toList x R e w K) (tGo P T N B ops.toList y R e w K) := h
    have kx := (tGo_sound hT hs hQ x (f := f) hx (by omega) hb.l hf hR hk).2 rfl
    have ky := (tGo_sound hT hs hQ y (f := f) hy (by omega) hb.r hf hR hk).2 rfl
    have all : ∀ f', f = f' + 1 → ∀ j ∈ Tr.heads (.alt x y), wpOp P ops Q j (fun a' w' => (∀ r ∈ toPd ops R, r.B j = true → r.J w') ∧ TT P ops Q f' ((toPd ops R).filter (·.B j)) (listed.setIfInBounds j true) a' w') a w := by
      intro f' hf' j hj
      rcases List.mem_append.1 hj with hj | hj
      · exact kx f' hf' j hj
      · exact ky f' hf' j hj
    refine ⟨fun hcov => ?_, fun _ => all⟩
    subst hcov
    simp only [Bool.false_or, Bool.and_eq_true] at hc
    obtain ⟨hne, hc⟩ := hc
    have hcov : ∀ j ∈ Region.ready .any ops listed, j ∈ Tr.heads (.alt x y) := by
      intro j hj
      have := List.all_eq_true.1 hc j hj
      simpa [Tr.heads] using this
    have h0 : Region.ready .any ops listed ≠ [] := by
      intro h
      rw [h] at hne; simp at hne
    cases f with
    | zero =>
      have hno : ∀ t : Tr, Tr.depth t = 0 → okT ops t listed true = false := by
        intro t
        induction t with
        | done => intro _; simp [okT]
        | step i t _ => intro h; simp [Tr.depth] at h
        | alt p q ip iq => intro h; simp only [Tr.depth] at h; simp [okT, ip (by omega)]
      rw [hno x (by omega)] at hx
      cases hx
    | succ f => exact ⟨fun h => absurd h h0, fun j hj => all f rfl j (hcov j hj)⟩
  | .step i t, 0, R, e, w, a, listed, cov, K, hok, hd, h, hf, hR, hk => by
    simp [Tr.depth] at hd
  | .step i t, f + 1, R, e, w, a, listed, cov, K, hok, hd, h, hf, hR, hk => by
    simp only [okT, Bool.and_eq_true] at hok
    obtain ⟨hok, hok'⟩ := hok
    have hd' : Tr.depth t ≤ f := by simp only [Tr.depth] at hd; omega
    change dStep P T N B ops.toList i (tGo P T N B ops.toList t) R e w K at h
    unfold dStep at h
    rw [Array.getElem?_toList] at h
    cases ho : ops[i]? with
    | none => rw [ho] at h; exact h.elim
    | some o =>
      rw [ho] at h hok
      simp only at h hok
      cases hst : isStable o.op with
      | true =>
        rw [hst] at h hok
        simp only [Bool.and_eq_true] at h hok
        obtain ⟨⟨hcv, hrd⟩, hfr⟩ := hok
        have hcv : cov = false := by simpa using hcv
        subst hcv
        refine ⟨fun _ => ?_, fun h => by cases h⟩
        have hr : i ∈ Region.ready .any ops listed := by simpa using hrd
        have hfree := Region.free_spec ho hfr
        rcases guardR_elim rfl h hf with ⟨hw, e', h, hf'⟩ | ⟨hw, e', h, hf'⟩
        · obtain ⟨v, J, h, hJ, hrun⟩ := stR_elim hT h
          obtain ⟨e2, h, hf2⟩ := putR_elim h hf'
          have ih := (tGo_sound hT hs hQ t (f := f) hok' hd' h hf2 (by
            intro r hr
            cases J with
            | none => exact hR r hr
            | some J =>
              simp only [toPd, addJ, List.map_cons, List.mem_cons] at hr
              rcases hr with rfl | hr
              · exact hJ
              · exact hR r hr) hk).1 rfl
          refine first_TT ho (Region.noSelect_spec hs) hQ f (toPd ops R) listed a w hfree hr (v := v) (J := Jof J) (.inl ⟨hw, hrun a (fun x _ v hv => hf'.eval x v hv)⟩) hJ hR ?_
          cases J with
          | none => exact TT.addTrue (fun _ => trivial) ih
          | some J => exact ih
        · obtain ⟨e2, h, hf2⟩ := putR_elim h hf'
          have ih := (tGo_sound hT hs hQ t (f := f) hok' hd' h hf2 hR hk).1 rfl
          exact first_TT ho (Region.noSelect_spec hs) hQ f (toPd ops R) listed a w hfree hr (v := undef) (J := fun _ => True) (.inr ⟨hw, rfl⟩) trivial hR (TT.addTrue (fun _ => trivial) ih)
      | false =>
        rw [hst] at h hok
        simp only at h hok
        have key : wpOp P ops Q i (fun a' w' => (∀ r ∈ toPd ops R, r.B i = true → r.J w') ∧ TT P ops Q f ((toPd ops R).filter (·.B i)) (listed.setIfInBounds i true) a' w') a w := by
          unfold wpOp
          rw [ho]
          simp only
          rcases guardR_elim rfl h hf with ⟨hw, e', h, hf'⟩ | ⟨hw, e', h, hf'⟩
          · rw [if_pos hw]
            left
            have := vcOp_sound (Q := Q) hT h (fun x _ v hv => hf'.eval x v hv)
            refine Oper.wp_mono ?_ this
            rintro a' w' ⟨v, rfl, h⟩
            obtain ⟨e2, h, hf2⟩ := putR_elim h hf'
            have h2 := keptK_elim h
            have hinv := heldL_spec h2.1
            refine ⟨hinv, ?_⟩
            rw [restL_spec]
            refine (tGo_sound hT hs hQ t (f := f) hok' hd' h2.2 hf2 ?_ hk).1 rfl
            intro r hr
            rw [← restL_spec] at hr
            obtain ⟨hr, hb⟩ := List.mem_filter.1 hr
            exact hinv r hr hb
          · rw [if_neg (by simp [hw])]
            obtain ⟨e2, h, hf2⟩ := putR_elim h hf'
            refine ⟨fun r hr _ => hR r hr, ?_⟩
            rw [restL_spec]
            refine (tGo_sound hT hs hQ t (f := f) hok' hd' h hf2 ?_ hk).1 rfl
            intro r hr
            rw [← restL_spec] at hr
            exact hR r (List.mem_filter.1 hr).1
        refine ⟨fun hcov => ?_, fun _ f' hf' j hj => ?_⟩
        · subst hcov
          have hr : Region.ready .any ops listed = [i] := by simpa using hok
          refine ⟨fun h0 => (by rw [hr] at h0; cases h0), fun j hj => ?_⟩
          rw [hr] at hj
          obtain rfl : j = i := by simpa using hj
          exact key
        · obtain rfl : f = f' := by omega
          obtain rfl : j = i := by simpa [Tr.heads] using hj
          exact key


theorem Kept_in {J A : Prop} (h : J) (hk : A) : Kept J A := ⟨h, hk⟩

theorem Fr.ofHeap {w w' : World} (hh : w'.heap = w.heap) (ho : w'.os = w.os) (hu : w'.output = w.output) : Fr (fun _ => False) w w' :=
  ⟨ho, hu, by rw [hh]; exact Nat.le_refl _, fun _ _ _ => by rw [hh], fun a _ => by unfold World.frozen?; rw [hh]⟩

theorem Draw_intro {T : Tab} {N : Nat} {B e : (List (Nat × Value))} {id : Nat} {ops : Array Oper} {w : World} {K : (List (Nat × Value)) → World → Prop} (hm : P.follows .mixedOrders = true) (l : List Nat) (hok : okDraw ops l = true)
    (h : ∀ w', w'.heap = w.heap → Fr (fun _ => False) w w' → dGo P T N B ops.toList l [] e w' K) : DrawR P T N B (.region id ops true) e w K := by
  constructor
  intro ds a Q hT hf hk
  simp only [okDraw, Bool.and_eq_true] at hok
  obtain ⟨hnd, ⟨hs, hlen⟩, hok⟩ := hok
  refine wpW_mono (Q := fun x a w => match x with | .normal => Q .normal a w | _ => False) (wpW_region_any hm hnd (by rintro ⟨_, _, h⟩; exact h) ?_) ?_
  · have := dGo_sound (Q := fun x a w => match x with | .normal => Q .normal a w | _ => False) hT hs (fun _ _ _ _ h => h) l hok (h { w with drawn := w.drawn + 1 } rfl (Fr.ofHeap rfl rfl rfl)) hf (by intro r hr; simp [toPd] at hr) (fun a' e' w' hf' hK => hk a' e' w' hf' hK)
    rw [Nat.eq_of_beq_eq_true hlen] at this
    exact this.any
  · intro x a w h
    cases x <;> first | exact h | exact h.elim

theorem Draw_tree {T : Tab} {N : Nat} {B e : (List (Nat × Value))} {id : Nat} {ops : Array Oper} {w : World} {K : (List (Nat × Value)) → World → Prop} (hm : P.follows .mixedOrders = true) (t : Tr) (hok : okTree ops t = true)
    (h : ∀ w', w'.heap = w.heap → Fr (fun _ => False) w w' → tGo P T N B ops.toList t [] e w' K) : DrawR P T N B (.region id ops true) e w K := by
  constructor
  intro ds a Q hT hf hk
  simp only [okTree, Bool.and_eq_true] at hok
  obtain ⟨hnd, ⟨hs, hlen⟩, hok⟩ := hok
  refine wpW_mono (Q := fun x a w => match x with | .normal => Q .normal a w | _ => False) (wpW_region_any hm hnd (by rintro ⟨_, _, h⟩; exact h) ?_) ?_
  · have := (tGo_sound (Q := fun x a w => match x with | .normal => Q .normal a w | _ => False) hT hs (fun _ _ _ _ h => h) t (f := ops.size) hok (Nat.le_of_ble_eq_true hlen) (h { w with drawn := w.drawn + 1 } rfl (Fr.ofHeap rfl rfl rfl)) hf (by intro r hr; simp [toPd] at hr) (fun a' e' w' hf' hK => hk a' e' w' hf' hK)).1 rfl
    exact this.any
  · intro x a w h
    cases x <;> first | exact h | exact h.elim
end drawn
end Go.Vc
