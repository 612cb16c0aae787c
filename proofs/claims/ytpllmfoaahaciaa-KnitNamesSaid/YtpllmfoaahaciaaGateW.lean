/- The graph in memory; its smaller methods. -/
import Derived.Test.YtpllmfoaahaciaaGateM
namespace Go.Proofs.Ytpllmfoaahaciaa
open Go Go.Vc Go.Gate
set_option linter.unusedVariables false
set_option linter.unusedSimpArgs false
set_option maxHeartbeats 4000000
set_option maxRecDepth 100000

theorem mixed : Try.prog.follows .mixedOrders = true := by kernel_rfl

theorem Ar_half {k : IntKind} {a : Nat} {K : Int → Prop} (h : a ≤ 4294967295) (hk : k = .u32) (h1 : K ((a / 2 : Nat) : Int)) : Ar k ((a : Int).tdiv 2) K := by
  subst hk
  have e : (a : Int).tdiv 2 = ((a / 2 : Nat) : Int) := by rw [Int.tdiv_eq_ediv_of_nonneg (by omega)]; omega
  rw [e]
  exact Ar_u32 (by omega) (by omega) h1

abbrev eV (a : Nat) : Value := .int .u32 (a : Int)
def pV (p : Nat × Nat) : List Value := [eV p.1, eV p.2]
def pK (p : Nat × Nat) : Value := .agg #[eV p.1, eV p.2]
def knownV (ps : List (Nat × Nat)) (p : Nat × Nat) : Option Value := (known ps p).map fun k => eV (2 * k)

theorem pK_inj : ∀ a b, pK a = pK b → a = b := by
  rintro ⟨a, b⟩ ⟨c, d⟩ h
  simp only [pK, eV] at h
  simp at h
  obtain ⟨h1, h2⟩ := h
  rw [Prod.mk.injEq]; omega

def graphParts (b : Nat) (ps : List (Nat × Nat)) (ins : List Nat) (kn : Nat × Nat → Option Value) (s : Option Addr × Nat × Option Addr × Nat × Nat) : List Res :=
  [cellsR b 64 [.slice s.1 ps.length s.2.1, .slice s.2.2.1 ins.length s.2.2.2.1, .map (some s.2.2.2.2)],
    ownR s.1 ps.length s.2.1 67 2 (ps.flatMap pV), ownR s.2.2.1 ins.length s.2.2.2.1 25 1 (ins.map eV), mapR s.2.2.2.2 pK kn]
structure GraphOk (ps : List (Nat × Nat)) (ins : List Nat) : Prop where
  g : GOk ps
  max : ps.length ≤ 1048576
  inps : ∀ a ∈ ins, a / 2 < ps.length
  few : ins.length < ps.length
def graphR (b : Nat) (ps : List (Nat × Nat)) (ins : List Nat) (kn : Nat × Nat → Option Value) : Res := exR fun s : Option Addr × Nat × Option Addr × Nat × Nat => sepR (pureR (GraphOk ps ins) :: graphParts b ps ins kn s)

section
variable {w0 w : World} {l : List Res} {b : Nat} {ps : List (Nat × Nat)} {ins : List Nat} {kn : Nat × Nat → Option Value}

theorem graphOpen (H : Sep w0 w l) (hm : graphR b ps ins kn ∈ l) : GraphOk ps ins ∧ ∃ ap cp ai ci mb r, l.Perm (graphR b ps ins kn :: r) ∧ Sep w0 w (cellsR b 64 [.slice ap ps.length cp, .slice ai ins.length ci, .map (some mb)] ::
    ownR ap ps.length cp 67 2 (ps.flatMap pV) :: ownR ai ins.length ci 25 1 (ins.map eV) :: mapR mb pK kn :: r) := by
  obtain ⟨r, hp⟩ := mem_cut hm
  obtain ⟨⟨ap, cp, ai, ci, mb⟩, h1⟩ := (H.perm hp).ex
  obtain ⟨h2, h3⟩ := Sep.prop h1.flat
  exact ⟨h2, ap, cp, ai, ci, mb, r, hp, h3⟩

theorem graphClose {r : List Res} {ap : Option Addr} {cp : Nat} {ai : Option Addr} {ci mb : Nat} (hok : GraphOk ps ins) (H : Sep w0 w (cellsR b 64 [.slice ap ps.length cp, .slice ai ins.length ci, .map (some mb)] ::
    ownR ap ps.length cp 67 2 (ps.flatMap pV) :: ownR ai ins.length ci 25 1 (ins.map eV) :: mapR mb pK kn :: r)) : Sep w0 w (graphR b ps ins kn :: r) :=
  Sep.mk_ex (f := fun s : Option Addr × Nat × Option Addr × Nat × Nat => sepR (pureR (GraphOk ps ins) :: graphParts b ps ins kn s)) (ap, cp, ai, ci, mb) (Sep.app (l := pureR (GraphOk ps ins) :: graphParts b ps ins kn (ap, cp, ai, ci, mb)) (Sep.mk_prop hok H))

theorem graphOk (H : Sep w0 w l) (hm : graphR b ps ins kn ∈ l) : GraphOk ps ins := (graphOpen H hm).1

theorem gLen (H : Sep w0 w l) (hm : graphR b ps ins kn ∈ l) : Does Try.prog 16 #[.pointer (some ⟨b, 0, none⟩)] w fun v w' => v = .int .i64 ps.length ∧ w = w' := by
  obtain ⟨hok, ap, cp, ai, ci, mb, r, hp, H⟩ := graphOpen H hm
  refine Does_intro tok (Try.call16 _ _) Try.func16 rfl (by rfl) ?_
  (repeat ((try conv => whnf); first | refine Join_dup ?_ | (refine Br_gate ?_; first | with_reducible refine Br_not ?_ | refine xB ?_ | refine xC ?_) | (refine Ld_gate ?_; refine xL ?_) | (refine LdN_gate ?_; refine xM ?_) | (refine St_gate ?_; refine xS ?_; clear H; intro w H) | (refine StN_gate ?_; refine xN ?_; clear H; intro w H) | (refine Kept_gate ?_; refine xK ?_) | (refine Ar_gate ?_; first | (fail_if_success skip) | refine xA ?_) | (refine Eqv_in ?_) | refine Do_ptr_eq_nil tok rfl ?_ | refine Do_ptr_ne_nil tok rfl ?_ | refine Do_nil_eq_nil tok rfl ?_ | refine Nn_in (by omega) ?_ | refine Nz_in (by omega) ?_))
  exact Ret_in ⟨rfl, rfl⟩

/-! Are all of these edges there? -/
theorem gThere1 {gb : Nat} (H : Sep w0 w l) (hm : graphR b ps ins kn ∈ l) (hg : cellsR gb 22 [.pointer (some ⟨b, 0, none⟩)] ∈ l) {a : Nat} (ha : a ≤ 4294967295) : Does Try.prog 38 #[eV a, .pointer (some ⟨gb, 0, none⟩)] w fun v w' => v = .bool (decide (ps.length ≤ a / 2)) ∧ w = w' := by
  refine Does_intro tok (Try.call38 _ _) Try.func38 rfl (by rfl) ?_
  (repeat ((try conv => whnf); first | refine Join_dup ?_ | (refine Br_gate ?_; first | with_reducible refine Br_not ?_ | refine xB ?_ | refine xC ?_) | (refine Ld_gate ?_; refine xL ?_) | (refine LdN_gate ?_; refine xM ?_) | (refine St_gate ?_; refine xS ?_; clear H; intro w H) | (refine StN_gate ?_; refine xN ?_; clear H; intro w H) | (refine Kept_gate ?_; refine xK ?_) | (refine Ar_gate ?_; first | (fail_if_success skip) | refine xA ?_) | (refine Eqv_in ?_) | refine Do_ptr_eq_nil tok rfl ?_ | refine Do_ptr_ne_nil tok rfl ?_ | refine Do_nil_eq_nil tok rfl ?_ | refine Nn_in (by omega) ?_ | refine Nz_in (by omega) ?_))
  refine Ar_half ha rfl ?_
  (repeat ((try conv => whnf); first | refine Join_dup ?_ | (refine Br_gate ?_; first | with_reducible refine Br_not ?_ | refine xB ?_ | refine xC ?_) | (refine Ld_gate ?_; refine xL ?_) | (refine LdN_gate ?_; refine xM ?_) | (refine St_gate ?_; refine xS ?_; clear H; intro w H) | (refine StN_gate ?_; refine xN ?_; clear H; intro w H) | (refine Kept_gate ?_; refine xK ?_) | (refine Ar_gate ?_; first | (fail_if_success skip) | refine xA ?_) | (refine Eqv_in ?_) | refine Do_ptr_eq_nil tok rfl ?_ | refine Do_ptr_ne_nil tok rfl ?_ | refine Do_nil_eq_nil tok rfl ?_ | refine Nn_in (by omega) ?_ | refine Nz_in (by omega) ?_))
  refine Ld_m H hg (by rfl) ?_
  obtain ⟨hok, ap, cp, ai, ci, mb, r, hp, H⟩ := graphOpen H hm
  (repeat ((try conv => whnf); first | refine Join_dup ?_ | (refine Br_gate ?_; first | with_reducible refine Br_not ?_ | refine xB ?_ | refine xC ?_) | (refine Ld_gate ?_; refine xL ?_) | (refine LdN_gate ?_; refine xM ?_) | (refine St_gate ?_; refine xS ?_; clear H; intro w H) | (refine StN_gate ?_; refine xN ?_; clear H; intro w H) | (refine Kept_gate ?_; refine xK ?_) | (refine Ar_gate ?_; first | (fail_if_success skip) | refine xA ?_) | (refine Eqv_in ?_) | refine Do_ptr_eq_nil tok rfl ?_ | refine Do_ptr_ne_nil tok rfl ?_ | refine Do_nil_eq_nil tok rfl ?_ | refine Nn_in (by omega) ?_ | refine Nz_in (by omega) ?_))
  exact Ret_in ⟨vbool (by rw [decide_eq_decide]; omega), rfl⟩

theorem gIndexFunc {xs : List Nat} {a : Option Addr} {c : Nat} (hs : Src w a xs.length 1 (xs.map eV)) {k : FuncId} {cap : Value} {p : Nat → Bool} (hm : xs.length ≤ maxLen)
    (hf : ∀ x ∈ xs, Does Try.prog k #[eV x, cap] w fun v w' => v = .bool (p x) ∧ w = w') :
    Does Try.prog 42 #[.slice a xs.length c, .func (.func k) #[] #[cap]] w fun v w' => v = .int .i64 (match xs.findIdx? p with | some i => (i : Int) | none => -1) ∧ w = w' := by
  refine Does_intro tok (Try.call42 _ _) Try.func42 rfl (by rfl) ?_
  refine Loop_intro (fun i : Nat => [(8, .int .i64 (i : Int))]) (fun i w' => w = w' ∧ i ≤ xs.length ∧ ∀ j x, j < i → xs[j]? = some x → p x = false) (fun i => xs.length - i) 0 ⟨rfl, trivial⟩ ⟨rfl, Nat.zero_le _, fun j x h => by omega⟩ ?_
  rintro i _ ⟨rfl, hi, hno⟩
  simp only [] at hi hno ⊢
  unfold maxLen at hm
  refine Br_dec (fun k1 => ?_) (fun k1 => ?_)
  · have hlt : i < xs.length := by omega
    obtain ⟨b, o, rfl⟩ := hs.addr (by rw [List.length_map]; omega)
    refine Ix_in i rfl hlt ?_
    have hx : xs[i]? = some xs[i] := List.getElem?_eq_getElem hlt
    refine Ld_src (j := i) hs (v := eV xs[i]) (by rw [List.getElem?_map, hx]; rfl) ?_
    (repeat ((try conv => whnf); first | refine Join_dup ?_ | (refine Br_gate ?_; first | with_reducible refine Br_not ?_ | refine xB ?_ | refine xC ?_) | (refine Ld_gate ?_; refine xL ?_) | (refine LdN_gate ?_; refine xM ?_) | (refine St_gate ?_; refine xS ?_; clear H; intro w H) | (refine StN_gate ?_; refine xN ?_; clear H; intro w H) | (refine Kept_gate ?_; refine xK ?_) | (refine Ar_gate ?_; first | (fail_if_success skip) | refine xA ?_) | (refine Eqv_in ?_) | refine Do_ptr_eq_nil tok rfl ?_ | refine Do_ptr_ne_nil tok rfl ?_ | refine Do_nil_eq_nil tok rfl ?_ | refine Nn_in (by omega) ?_ | refine Nz_in (by omega) ?_))
    refine Call_of (hf xs[i] (List.getElem_mem hlt)) ?_
    rintro _ _ ⟨rfl, rfl⟩
    refine Br_if (fun hp => ?_) (fun hp => ?_)
    · refine Ret_in ⟨vint ?_, rfl⟩
      have : xs.findIdx? p = some i := by
        rw [List.findIdx?_eq_some_iff_getElem]
        exact ⟨hlt, hp, fun j hj => by rw [hno j xs[j] hj (List.getElem?_eq_getElem (by omega))]; exact Bool.false_ne_true⟩
      rw [this]
    · (repeat ((try conv => whnf); first | refine Join_dup ?_ | (refine Br_gate ?_; first | with_reducible refine Br_not ?_ | refine xB ?_ | refine xC ?_) | (refine Ld_gate ?_; refine xL ?_) | (refine LdN_gate ?_; refine xM ?_) | (refine St_gate ?_; refine xS ?_; clear H; intro w H) | (refine StN_gate ?_; refine xN ?_; clear H; intro w H) | (refine Kept_gate ?_; refine xK ?_) | (refine Ar_gate ?_; first | (fail_if_success skip) | refine xA ?_) | (refine Eqv_in ?_) | refine Do_ptr_eq_nil tok rfl ?_ | refine Do_ptr_ne_nil tok rfl ?_ | refine Do_nil_eq_nil tok rfl ?_ | refine Nn_in (by omega) ?_ | refine Nz_in (by omega) ?_))
      refine ⟨i + 1, ⟨congrArg some (vint (by omega)), trivial⟩, ⟨rfl, by omega, fun j x hj hjx => ?_⟩, by omega⟩
      rcases Nat.lt_or_ge j i with h | h
      · exact hno j x h hjx
      · obtain rfl : j = i := by omega
        rw [hx] at hjx; cases hjx; simpa using hp
  · refine Ret_in ⟨vint ?_, rfl⟩
    have : xs.findIdx? p = none := by
      rw [List.findIdx?_eq_none_iff]
      intro x hx
      obtain ⟨j, hj⟩ := List.getElem?_of_mem hx
      exact hno j x (by have := (List.getElem?_eq_some_iff.1 hj).1; omega) hj
    rw [this]

theorem gContainsFunc {xs : List Nat} {a : Option Addr} {c : Nat} (hs : Src w a xs.length 1 (xs.map eV)) {k : FuncId} {cap : Value} {p : Nat → Bool} (hm : xs.length ≤ maxLen)
    (hf : ∀ x ∈ xs, Does Try.prog k #[eV x, cap] w fun v w' => v = .bool (p x) ∧ w = w') :
    Does Try.prog 37 #[.slice a xs.length c, .func (.func k) #[] #[cap]] w fun v w' => v = .bool (xs.any p) ∧ w = w' := by
  refine Does_intro tok (Try.call37 _ _) Try.func37 rfl (by rfl) ?_
  (repeat ((try conv => whnf); first | refine Join_dup ?_ | (refine Br_gate ?_; first | with_reducible refine Br_not ?_ | refine xB ?_ | refine xC ?_) | (refine Ld_gate ?_; refine xL ?_) | (refine LdN_gate ?_; refine xM ?_) | (refine St_gate ?_; refine xS ?_; clear H; intro w H) | (refine StN_gate ?_; refine xN ?_; clear H; intro w H) | (refine Kept_gate ?_; refine xK ?_) | (refine Ar_gate ?_; first | (fail_if_success skip) | refine xA ?_) | (refine Eqv_in ?_) | refine Do_ptr_eq_nil tok rfl ?_ | refine Do_ptr_ne_nil tok rfl ?_ | refine Do_nil_eq_nil tok rfl ?_ | refine Nn_in (by omega) ?_ | refine Nz_in (by omega) ?_))
  refine Call_of (gIndexFunc hs hm hf) ?_
  rintro _ _ ⟨rfl, rfl⟩
  (repeat ((try conv => whnf); first | refine Join_dup ?_ | (refine Br_gate ?_; first | with_reducible refine Br_not ?_ | refine xB ?_ | refine xC ?_) | (refine Ld_gate ?_; refine xL ?_) | (refine LdN_gate ?_; refine xM ?_) | (refine St_gate ?_; refine xS ?_; clear H; intro w H) | (refine StN_gate ?_; refine xN ?_; clear H; intro w H) | (refine Kept_gate ?_; refine xK ?_) | (refine Ar_gate ?_; first | (fail_if_success skip) | refine xA ?_) | (refine Eqv_in ?_) | refine Do_ptr_eq_nil tok rfl ?_ | refine Do_ptr_ne_nil tok rfl ?_ | refine Do_nil_eq_nil tok rfl ?_ | refine Nn_in (by omega) ?_ | refine Nz_in (by omega) ?_))
  refine Ret_in ⟨vbool ?_, rfl⟩
  cases h : xs.findIdx? p with
  | none =>
    rw [List.findIdx?_eq_none_iff] at h
    have : xs.any p = false := by rw [List.any_eq_false]; intro x hx; rw [h x hx]; exact Bool.false_ne_true
    rw [this]; rfl
  | some i =>
    obtain ⟨hlt, h1, _⟩ := List.findIdx?_eq_some_iff_getElem.1 h
    have : xs.any p = true := List.any_eq_true.2 ⟨xs[i], List.getElem_mem hlt, h1⟩
    rw [this]
    exact decide_eq_true (show (i : Int) ≥ 0 by omega)

/-- Are all of them there? -/
def allIn (ps : List (Nat × Nat)) (xs : List Nat) : Bool := xs.all fun a => decide (a / 2 < ps.length)

theorem gThere (H : Sep w0 w l) (hm : graphR b ps ins kn ∈ l) {xs : List Nat} {a : Option Addr} {c : Nat} (hs : Src w a xs.length 1 (xs.map eV)) (hx : ∀ x ∈ xs, x ≤ 4294967295) (hlen : xs.length ≤ maxLen) :
    Does Try.prog 29 #[.pointer (some ⟨b, 0, none⟩), .slice a xs.length c] w fun v w' => v = .bool (allIn ps xs) ∧ Sep w w' [] := by
  have H0 := Sep.nil w
  refine Does_intro tok (Try.call29 _ _) Try.func29 rfl (by rfl) ?_
  refine Nw_sep H0 (cs := [.pointer (some ⟨b, 0, none⟩)]) fun gb w1 H1 => ?_
  have H2 := H.add H1
  simp only [List.cons_append, List.nil_append] at H2
  (repeat ((try conv => whnf); first | refine Join_dup ?_ | (refine Br_gate ?_; first | with_reducible refine Br_not ?_ | refine xB ?_ | refine xC ?_) | (refine Ld_gate ?_; refine xL ?_) | (refine LdN_gate ?_; refine xM ?_) | (refine St_gate ?_; refine xS ?_; clear H; intro w H) | (refine StN_gate ?_; refine xN ?_; clear H; intro w H) | (refine Kept_gate ?_; refine xK ?_) | (refine Ar_gate ?_; first | (fail_if_success skip) | refine xA ?_) | (refine Eqv_in ?_) | refine Do_ptr_eq_nil tok rfl ?_ | refine Do_ptr_ne_nil tok rfl ?_ | refine Do_nil_eq_nil tok rfl ?_ | refine Nn_in (by omega) ?_ | refine Nz_in (by omega) ?_))
  refine Call_of (gContainsFunc (p := fun a => decide (ps.length ≤ a / 2)) (H1.rd hs) hlen fun x hx' => gThere1 H2 (gb := gb) (.tail _ hm) (.head _) (hx x hx')) ?_
  rintro _ _ ⟨rfl, rfl⟩
  (repeat ((try conv => whnf); first | refine Join_dup ?_ | (refine Br_gate ?_; first | with_reducible refine Br_not ?_ | refine xB ?_ | refine xC ?_) | (refine Ld_gate ?_; refine xL ?_) | (refine LdN_gate ?_; refine xM ?_) | (refine St_gate ?_; refine xS ?_; clear H; intro w H) | (refine StN_gate ?_; refine xN ?_; clear H; intro w H) | (refine Kept_gate ?_; refine xK ?_) | (refine Ar_gate ?_; first | (fail_if_success skip) | refine xA ?_) | (refine Eqv_in ?_) | refine Do_ptr_eq_nil tok rfl ?_ | refine Do_ptr_ne_nil tok rfl ?_ | refine Do_nil_eq_nil tok rfl ?_ | refine Nn_in (by omega) ?_ | refine Nz_in (by omega) ?_))
  clear H
  have H := H1
  refine Ret_in ⟨vbool ?_, (H.sel [] (by decide) rfl)⟩
  unfold allIn
  rw [List.not_any_eq_all_not]
  congr 1
  funext x
  rw [← decide_not]
  rw [decide_eq_decide]; omega

theorem pV_len (x : Nat × Nat) : (pV x).length = 2 := rfl
theorem pV_ones (x : Nat × Nat) : ∀ u ∈ pV x, oneCell u = true := by
  intro u hu
  simp [pV] at hu
  rcases hu with rfl | rfl <;> rfl

/-- One gate more, of a pair. -/
theorem gMore (H : Sep w0 w l) (hm : graphR b ps ins kn ∈ l) {p : Nat × Nat} (hok' : GraphOk (ps ++ [p]) ins) :
    Does Try.prog 21 #[.pointer (some ⟨b, 0, none⟩), pK p] w fun v w' => v = .tuple #[eV (2 * ps.length), .int .i64 0] ∧ SepU w0 w' l (graphR b ps ins kn) (graphR b (ps ++ [p]) ins kn) := by
  obtain ⟨hok, ap, cp, ai, ci, mb, r, hp, H⟩ := graphOpen H hm
  have hmax := hok'.max
  rw [List.length_append, List.length_singleton] at hmax
  refine Does_intro tok (Try.call21 _ _) Try.func21 rfl (by rfl) ?_
  refine Nw_sep H (cs := [eV p.1, eV p.2]) fun pb w1 H => ?_
  (repeat ((try conv => whnf); first | refine Join_dup ?_ | (refine Br_gate ?_; first | with_reducible refine Br_not ?_ | refine xB ?_ | refine xC ?_) | (refine Ld_gate ?_; refine xL ?_) | (refine LdN_gate ?_; refine xM ?_) | (refine St_gate ?_; refine xS ?_; clear H; intro w H) | (refine StN_gate ?_; refine xN ?_; clear H; intro w H) | (refine Kept_gate ?_; refine xK ?_) | (refine Ar_gate ?_; first | (fail_if_success skip) | refine xA ?_) | (refine Eqv_in ?_) | refine Do_ptr_eq_nil tok rfl ?_ | refine Do_ptr_ne_nil tok rfl ?_ | refine Do_nil_eq_nil tok rfl ?_ | refine Nn_in (by omega) ?_ | refine Nz_in (by omega) ?_))
  refine Draw_intro mixed [0, 1, 2, 3, 4, 5, 6, 7, 8, 9, 10] (by decide +kernel) (fun w _ fd => ?_); replace H := H.fr fd; clear fd
  (repeat ((try conv => whnf); first | refine Join_dup ?_ | (refine Br_gate ?_; first | with_reducible refine Br_not ?_ | refine xB ?_ | refine xC ?_) | (refine Ld_gate ?_; refine xL ?_) | (refine LdN_gate ?_; refine xM ?_) | (refine St_gate ?_; refine xS ?_; clear H; intro w H) | (refine StN_gate ?_; refine xN ?_; clear H; intro w H) | (refine Kept_gate ?_; refine xK ?_) | (refine Ar_gate ?_; first | (fail_if_success skip) | refine xA ?_) | (refine Eqv_in ?_) | refine Do_ptr_eq_nil tok rfl ?_ | refine Do_ptr_ne_nil tok rfl ?_ | refine Do_nil_eq_nil tok rfl ?_ | refine Nn_in (by omega) ?_ | refine Nz_in (by omega) ?_))
  (refine Nw_sep H ?_; clear H; intro sb w H; (try simp only [Value.cells, List.toList_toArray, List.append_nil, List.cons_append, List.nil_append] at H))
  (repeat ((try conv => whnf); first | refine Join_dup ?_ | (refine Br_gate ?_; first | with_reducible refine Br_not ?_ | refine xB ?_ | refine xC ?_) | (refine Ld_gate ?_; refine xL ?_) | (refine LdN_gate ?_; refine xM ?_) | (refine St_gate ?_; refine xS ?_; clear H; intro w H) | (refine StN_gate ?_; refine xN ?_; clear H; intro w H) | (refine Kept_gate ?_; refine xK ?_) | (refine Ar_gate ?_; first | (fail_if_success skip) | refine xA ?_) | (refine Eqv_in ?_) | refine Do_ptr_eq_nil tok rfl ?_ | refine Do_ptr_ne_nil tok rfl ?_ | refine Do_nil_eq_nil tok rfl ?_ | refine Nn_in (by omega) ?_ | refine Nz_in (by omega) ?_))
  (refine DoN_gate ?_; refine append_one tok H rfl rfl rfl rfl rfl (by decide) (by repeat first | exact List.Mem.head _ | refine List.Mem.tail _ ?_) (m := 1) rfl (by simp [oneCell]) (by omega) (by unfold maxLen; omega) ?_; clear H; intro ap' cp' w H; replace H := H _ (by repeat first | exact Upd.head | apply Upd.tail))
  (repeat ((try conv => whnf); first | refine Join_dup ?_ | (refine Br_gate ?_; first | with_reducible refine Br_not ?_ | refine xB ?_ | refine xC ?_) | (refine Ld_gate ?_; refine xL ?_) | (refine LdN_gate ?_; refine xM ?_) | (refine St_gate ?_; refine xS ?_; clear H; intro w H) | (refine StN_gate ?_; refine xN ?_; clear H; intro w H) | (refine Kept_gate ?_; refine xK ?_) | (refine Ar_gate ?_; first | (fail_if_success skip) | refine xA ?_) | (refine Eqv_in ?_) | refine Do_ptr_eq_nil tok rfl ?_ | refine Do_ptr_ne_nil tok rfl ?_ | refine Do_nil_eq_nil tok rfl ?_ | refine Nn_in (by omega) ?_ | refine Nz_in (by omega) ?_))
  refine Ret_in ⟨?_, ?_⟩
  · show Value.tuple _ = _
    rw [show (2 * ((ps.length + 1 : Nat) : Int) - 2) = ((2 * ps.length : Nat) : Int) by omega]
  · refine SepU.mk hp (graphClose (ap := ap') (cp := cp') (ai := ai) (ci := ci) (mb := mb) hok' ?_)
    have e1 : (ps ++ [p]).length = ps.length + 1 := by simp
    rw [e1, ← rowAdd]
    exact H.tail

theorem gMoreFull (H : Sep w0 w l) (hm : graphR b ps ins kn ∈ l) {p : Nat × Nat} (hf : 1048576 ≤ ps.length) :
    Does Try.prog 21 #[.pointer (some ⟨b, 0, none⟩), pK p] w fun v w' => v = .tuple #[eV 0, .int .i64 101] ∧ Sep w w' [] := by
  obtain ⟨hok, ap, cp, ai, ci, mb, r, hp, H'⟩ := graphOpen H hm
  have H0 := Sep.nil w
  refine Does_intro tok (Try.call21 _ _) Try.func21 rfl (by rfl) ?_
  refine Nw_sep H0 (cs := [eV p.1, eV p.2]) fun pb w1 H1 => ?_
  clear H
  have H := H'.add H1
  simp only [List.cons_append, List.nil_append] at H
  (repeat ((try conv => whnf); first | refine Join_dup ?_ | (refine Br_gate ?_; first | with_reducible refine Br_not ?_ | refine xB ?_ | refine xC ?_) | (refine Ld_gate ?_; refine xL ?_) | (refine LdN_gate ?_; refine xM ?_) | (refine St_gate ?_; refine xS ?_; clear H; intro w H) | (refine StN_gate ?_; refine xN ?_; clear H; intro w H) | (refine Kept_gate ?_; refine xK ?_) | (refine Ar_gate ?_; first | (fail_if_success skip) | refine xA ?_) | (refine Eqv_in ?_) | refine Do_ptr_eq_nil tok rfl ?_ | refine Do_ptr_ne_nil tok rfl ?_ | refine Do_nil_eq_nil tok rfl ?_ | refine Nn_in (by omega) ?_ | refine Nz_in (by omega) ?_))
  replace H := H1
  refine Ret_in ⟨rfl, (H.sel [] (by decide) rfl)⟩

end
end Go.Proofs.Ytpllmfoaahaciaa
