/- Expressions, in plain words: of no program. -/
import Derived.Test.YthpekiohalejmaaGreatDoorSep
set_option linter.unusedVariables false
set_option linter.unusedSimpArgs false
namespace Go.Tree
/-- An expression as it lies in memory: also the address and the room of its parts. -/
inductive Ex where
  | mk (op num : Int) (name : ByteArray) (a : Option Addr) (c : Nat) (line col : Int) (kids : List Ex)
namespace Ex
def op : Ex → Int | .mk o _ _ _ _ _ _ _ => o
def num : Ex → Int | .mk _ n _ _ _ _ _ _ => n
def name : Ex → ByteArray | .mk _ _ s _ _ _ _ _ => s
def at_ : Ex → Option Addr | .mk _ _ _ a _ _ _ _ => a
def cap : Ex → Nat | .mk _ _ _ _ c _ _ _ => c
def line : Ex → Int | .mk _ _ _ _ _ i _ _ => i
def col : Ex → Int | .mk _ _ _ _ _ _ j _ => j
def kids : Ex → List Ex | .mk _ _ _ _ _ _ _ k => k
theorem ind {P : Ex → Prop} (h : ∀ x : Ex, (∀ k ∈ x.kids, P k) → P x) : ∀ x, P x :=
  Ex.rec (motive_1 := P) (motive_2 := fun l => ∀ k ∈ l, P k) (fun o n s a c i j ks ih => h (.mk o n s a c i j ks) ih) (fun k hk => by cases hk)
    (fun x l hx hl k hk => by
      rcases List.mem_cons.1 hk with rfl | hk
      · exact hx
      · exact hl k hk)
def fold {α : Type} (f : Ex → List α → α) : Ex → α
  | .mk o n s a c i j ks => f (.mk o n s a c i j ks) (ks.map (fold f))
theorem fold_eq {α : Type} (f : Ex → List α → α) (x : Ex) : fold f x = f x (x.kids.map (fold f)) := by
  cases x
  rw [fold]
  rfl
end Ex
def str (l : List UInt8) : ByteArray := ⟨l.toArray⟩
def nk (op : Int) : Nat := if 5 ≤ op ∧ op ≤ 13 then 1 else if 14 ≤ op ∧ op < 31 then 2 else 0
def letterB (b : UInt8) : Bool := decide (97 ≤ b.toNat ∧ b.toNat ≤ 122) || decide (65 ≤ b.toNat ∧ b.toNat ≤ 90)
def digitB (b : UInt8) : Bool := decide (48 ≤ b.toNat ∧ b.toNat ≤ 57)
def innerB (b : UInt8) : Bool := letterB b || digitB b || decide (b.toNat = 95)
def keptL : List ByteArray := [str [101, 110, 117, 109], str [118, 97, 114], str [98, 111, 111, 108], str [112, 114, 111, 99, 101, 115, 115], str [119, 104, 101, 110], str [100, 111], str [116, 114, 117, 101], str [102, 97, 108, 115, 101], str [88], str [70], str [71], str [85], str [82], str [89], str [90], str [79], str [72], str [83], str [84]]
def keptB (s : ByteArray) : Bool := keptL.any fun k => decide (s = k)
/-- Can it be a name? -/
def nameB (s : ByteArray) : Bool := decide (s.size ≠ 0) && decide (s.size ≤ 32) && (match s.data.toList[0]? with | some b => letterB b | none => false) && !keptB s && s.data.toList.all innerB
def emptyB (s : ByteArray) : Bool := decide (s = str [])
def leafB (op num : Int) (name : ByteArray) : Bool :=
  if op = 1 then decide (0 ≤ num) && decide (num ≤ 1000000) && emptyB name
  else if op = 2 then (decide (num = 0) || decide (num = 1)) && emptyB name
  else if op = 3 then decide (num = 0) && nameB name
  else if op = 4 then emptyB name
  else decide (num = 0) && emptyB name
def oneB (x : Ex) : Bool := decide (1 ≤ x.op ∧ x.op < 31) && decide (x.kids.length = nk x.op) && leafB x.op x.num x.name
def size : Ex → Nat := Ex.fold fun _ r => 1 + r.sum
def most : List Nat → Nat := fun r => r.foldr max 0
def depth : Ex → Nat := Ex.fold fun _ r => most r + 1
def shapeB : Ex → Bool := Ex.fold fun x r => oneB x && r.all id
def rightB : Ex → Int → Bool := Ex.fold fun x r d => decide (1 ≤ d) && oneB x && r.all fun g => g (d - 1)
def allZ {β : Type} : List (β → Bool) → List β → Bool
  | f :: fs, y :: ys => f y && allZ fs ys
  | [], [] => true
  | _, _ => false
def sameB : Ex → Ex → Bool := Ex.fold fun x r y => decide (x.op = y.op) && decide (x.num = y.num) && decide (x.name = y.name) && allZ r y.kids
def varB : Ex → Bool := Ex.fold fun x r => decide (x.op = 4) || r.any id
def writB (x : Ex) : Bool := rightB x 60 && !varB x
def bulk : Ex → Nat := Ex.fold fun x r => 7 + x.name.size + r.sum
def signL : List ByteArray := [str [45], str [33], str [88], str [70], str [71], str [89], str [90], str [79], str [72], str [42], str [43], str [45], str [61], str [33, 61], str [60], str [60, 61], str [62], str [62, 61], str [85], str [82], str [83], str [84], str [38], str [124], str [45, 62], str [60, 45, 62]]
def signB (op : Int) : ByteArray := if op < 5 ∨ 31 ≤ op then str [] else (signL[(op - 5).toNat]?).getD (str [])
def inn (k : Ex) (t : ByteArray) : ByteArray := if k.kids.length = 0 then t else str [40] ++ t ++ str [41]
def wordB (num : Int) (name : ByteArray) (itoa : Int → ByteArray) (op : Int) : ByteArray :=
  if op = 1 then itoa num else if op = 2 then (if num = 1 then str [116, 114, 117, 101] else str [102, 97, 108, 115, 101]) else name
def textF (itoa : Int → ByteArray) (x : Ex) (r : List ByteArray) : ByteArray :=
  match x.kids, r with
  | [k], [t] => (if 7 ≤ x.op then signB x.op ++ str [32] else signB x.op) ++ inn k t
  | [k1, k2], [t1, t2] => inn k1 t1 ++ str [32] ++ signB x.op ++ str [32] ++ inn k2 t2
  | _, _ => wordB x.num x.name itoa x.op
def textB (itoa : Int → ByteArray) : Ex → ByteArray := Ex.fold (textF itoa)
theorem size_eq (x : Ex) : size x = 1 + (x.kids.map size).sum := Ex.fold_eq _ x
theorem depth_eq (x : Ex) : depth x = most (x.kids.map depth) + 1 := Ex.fold_eq _ x
theorem shape_eq (x : Ex) : shapeB x = (oneB x && x.kids.all shapeB) := by
  have h : shapeB x = (oneB x && (x.kids.map shapeB).all id) := Ex.fold_eq _ x
  rw [h, List.all_map]; rfl
theorem right_eq (x : Ex) (d : Int) : rightB x d = (decide (1 ≤ d) && oneB x && x.kids.all fun k => rightB k (d - 1)) := by
  have h : rightB x d = (decide (1 ≤ d) && oneB x && (x.kids.map rightB).all fun g => g (d - 1)) := congrFun (Ex.fold_eq _ x) d
  rw [h, List.all_map]; rfl
theorem same_eq (x y : Ex) : sameB x y = (decide (x.op = y.op) && decide (x.num = y.num) && decide (x.name = y.name) && allZ (x.kids.map sameB) y.kids) := congrFun (Ex.fold_eq _ x) y
theorem var_eq (x : Ex) : varB x = (decide (x.op = 4) || x.kids.any varB) := by
  have h : varB x = (decide (x.op = 4) || (x.kids.map varB).any id) := Ex.fold_eq _ x
  rw [h, List.any_map]; rfl
theorem bulk_eq (x : Ex) : bulk x = 7 + x.name.size + (x.kids.map bulk).sum := Ex.fold_eq _ x
theorem text_eq (itoa : Int → ByteArray) (x : Ex) : textB itoa x = textF itoa x (x.kids.map (textB itoa)) := Ex.fold_eq _ x
theorem sum_le {f g : Ex → Nat} {l : List Ex} (h : ∀ k ∈ l, f k ≤ g k) : (l.map f).sum ≤ (l.map g).sum := by
  induction l with
  | nil => exact Nat.le_refl _
  | cons x l ih =>
    have := h x (.head _)
    have := ih fun k hk => h k (.tail _ hk)
    simp only [List.map_cons, List.sum_cons]; omega
theorem mem_sum {f : Ex → Nat} {l : List Ex} {k : Ex} (h : k ∈ l) : f k ≤ (l.map f).sum := by
  induction l with
  | nil => cases h
  | cons x l ih =>
    simp only [List.map_cons, List.sum_cons]
    rcases List.mem_cons.1 h with rfl | h
    · omega
    · have := ih h; omega
theorem len_sum {f : Ex → Nat} {l : List Ex} (h : ∀ k ∈ l, 1 ≤ f k) : l.length ≤ (l.map f).sum := by
  induction l with
  | nil => exact Nat.le_refl _
  | cons x l ih =>
    have := h x (.head _)
    have := ih fun k hk => h k (.tail _ hk)
    simp only [List.map_cons, List.sum_cons, List.length_cons]; omega
theorem size_pos (x : Ex) : 1 ≤ size x := by rw [size_eq]; omega
theorem bulk_pos (x : Ex) : 7 ≤ bulk x := by rw [bulk_eq]; omega
theorem size_bulk (x : Ex) : size x ≤ bulk x := by
  induction x using Ex.ind with
  | h x ih =>
    rw [size_eq, bulk_eq]
    have := sum_le ih
    omega
theorem bulk_kid {x k : Ex} (h : k ∈ x.kids) : bulk k < bulk x := by
  rw [bulk_eq x]
  have := mem_sum (f := bulk) h
  omega
theorem kids_bulk (x : Ex) : x.kids.length ≤ bulk x := by
  rw [bulk_eq]
  have := len_sum (f := bulk) (l := x.kids) fun k _ => by have := bulk_pos k; omega
  omega
theorem size_kid {x k : Ex} (h : k ∈ x.kids) : size k < size x := by
  rw [size_eq x]
  have := mem_sum (f := size) h
  omega
theorem le_most {l : List Nat} {n : Nat} (h : n ∈ l) : n ≤ most l := by
  unfold most
  induction l with
  | nil => cases h
  | cons x l ih =>
    rw [List.foldr_cons]
    rcases List.mem_cons.1 h with rfl | h
    · omega
    · have := ih h; omega
theorem most_le {l : List Nat} {n : Nat} (h : ∀ m ∈ l, m ≤ n) : most l ≤ n := by
  unfold most
  induction l with
  | nil => exact Nat.zero_le _
  | cons x l ih =>
    rw [List.foldr_cons]
    have := h x (.head _)
    have := ih fun m hm => h m (.tail _ hm)
    omega
theorem right_iff (x : Ex) : ∀ d : Int, rightB x d = true ↔ shapeB x = true ∧ (depth x : Int) ≤ d := by
  induction x using Ex.ind with
  | h x ih =>
    intro d
    rw [right_eq, shape_eq, depth_eq]
    simp only [Bool.and_eq_true, decide_eq_true_eq, List.all_eq_true]
    constructor
    · rintro ⟨⟨h1, h2⟩, h3⟩
      refine ⟨⟨h2, fun k hk => ((ih k hk _).1 (h3 k hk)).1⟩, ?_⟩
      have : most (x.kids.map depth) ≤ (d - 1).toNat := most_le fun m hm => by
        obtain ⟨k, hk, rfl⟩ := List.mem_map.1 hm
        have := ((ih k hk _).1 (h3 k hk)).2
        omega
      omega
    · rintro ⟨⟨h2, h3⟩, h4⟩
      refine ⟨⟨by omega, h2⟩, fun k hk => (ih k hk _).2 ⟨h3 k hk, ?_⟩⟩
      have := le_most (List.mem_map.2 ⟨k, hk, rfl⟩ : depth k ∈ x.kids.map depth)
      omega
theorem allZ_iff {β γ : Type} {f : β → γ → Bool} : ∀ {l : List β} {m : List γ}, allZ (l.map f) m = true ↔ l.length = m.length ∧ ∀ (i : Nat) x y, l[i]? = some x → m[i]? = some y → f x y = true
  | [], [] => by simp [allZ]
  | [], _ :: _ => by simp [allZ]
  | _ :: _, [] => by simp [allZ]
  | x :: l, y :: m => by
    simp only [List.map_cons, allZ, Bool.and_eq_true, allZ_iff (l := l) (m := m), List.length_cons, Nat.add_right_cancel_iff]
    constructor
    · rintro ⟨h1, h2, h3⟩
      refine ⟨h2, fun i a b ha hb => ?_⟩
      cases i with
      | zero => simp at ha hb; subst ha hb; exact h1
      | succ i => exact h3 i a b (by simpa using ha) (by simpa using hb)
    · rintro ⟨h1, h2⟩
      exact ⟨h2 0 x y rfl rfl, h1, fun i a b ha hb => h2 (i + 1) a b (by simpa using ha) (by simpa using hb)⟩
theorem allZ_refl {l : List Ex} (h : ∀ k ∈ l, sameB k k = true) : allZ (l.map sameB) l = true :=
  allZ_iff.2 ⟨rfl, fun i x y hx hy => by rw [hx] at hy; cases hy; exact h x (List.mem_of_getElem? hx)⟩
theorem same_refl (x : Ex) : sameB x x = true := by
  induction x using Ex.ind with
  | h x ih =>
    rw [same_eq, allZ_refl ih]
    simp
theorem same_size (x : Ex) : ∀ y, sameB x y = true → size x = size y := by
  induction x using Ex.ind with
  | h x ih =>
    intro y h
    rw [same_eq] at h
    simp only [Bool.and_eq_true] at h
    obtain ⟨_, h⟩ := h
    rw [allZ_iff] at h
    rw [size_eq, size_eq y]
    have key : ∀ (l m : List Ex), (∀ k ∈ l, ∀ y, sameB k y = true → size k = size y) → l.length = m.length → (∀ (i : Nat) x y, l[i]? = some x → m[i]? = some y → sameB x y = true) → (l.map size).sum = (m.map size).sum := by
      intro l
      induction l with
      | nil => intro m _ h1 _; cases m with
        | nil => rfl
        | cons _ _ => cases h1
      | cons a l ihl =>
        intro m hk h1 h2
        cases m with
        | nil => cases h1
        | cons b m =>
          have e := hk a (.head _) b (h2 0 a b rfl rfl)
          have := ihl m (fun k hk' => hk k (.tail _ hk')) (by simpa using h1) fun i x y hx hy => h2 (i + 1) x y (by simpa using hx) (by simpa using hy)
          simp only [List.map_cons, List.sum_cons]; omega
    rw [key x.kids y.kids ih h.1 h.2]
section
variable {itoa : Int → ByteArray}
theorem str_size (l : List UInt8) : (str l).size = l.length := by simp [str, ByteArray.size]
theorem sign_size (op : Int) : (signB op).size ≤ 3 := by
  unfold signB
  split
  · decide
  · cases h : signL[(op - 5).toNat]? with
    | none => decide
    | some s =>
      have := List.mem_of_getElem? h
      have key : ∀ s ∈ signL, s.size ≤ 3 := by decide
      exact key s this
theorem sign_pos {op : Int} (h1 : 5 ≤ op) (h2 : op < 31) : 1 ≤ (signB op).size := by
  unfold signB
  rw [if_neg (by omega)]
  have hl : signL.length = 26 := rfl
  have h : signL[(op - 5).toNat]? = some (signL[(op - 5).toNat]'(by omega)) := List.getElem?_eq_getElem _
  rw [h]
  have key : ∀ s ∈ signL, 1 ≤ s.size := by decide
  exact key _ (List.getElem_mem _)
theorem inn_size (k : Ex) (t : ByteArray) : (inn k t).size ≤ t.size + 2 := by
  unfold inn
  split
  · omega
  · rw [ByteArray.size_append, ByteArray.size_append, str_size, str_size]; simp; omega
theorem text_bulk (hi : ∀ n, (itoa n).size ≤ 21) (x : Ex) : (textB itoa x).size ≤ 20 * bulk x := by
  induction x using Ex.ind with
  | h x ih =>
    rw [text_eq, bulk_eq]
    unfold textF
    split
    · rename_i k t hk ht
      rw [hk] at ht ih ⊢
      simp at ht
      subst ht
      have h1 := ih k (.head _)
      have h2 := inn_size k (textB itoa k)
      have h3 := sign_size x.op
      rw [ByteArray.size_append]
      have h4 : (if 7 ≤ x.op then signB x.op ++ str [32] else signB x.op).size ≤ 4 := by
        split
        · rw [ByteArray.size_append, str_size]; simp; omega
        · omega
      simp; omega
    · rename_i k1 k2 t1 t2 hk ht
      rw [hk] at ht ih ⊢
      simp at ht
      obtain ⟨rfl, rfl⟩ := ht
      have h1 := ih k1 (.head _)
      have h1' := ih k2 (.tail _ (.head _))
      have h2 := inn_size k1 (textB itoa k1)
      have h2' := inn_size k2 (textB itoa k2)
      have h3 := sign_size x.op
      rw [ByteArray.size_append, ByteArray.size_append, ByteArray.size_append, ByteArray.size_append, str_size]
      simp; omega
    · unfold wordB
      have := hi x.num
      split
      · omega
      · split
        · split <;> rw [str_size] <;> simp <;> omega
        · omega
end
end Go.Tree
