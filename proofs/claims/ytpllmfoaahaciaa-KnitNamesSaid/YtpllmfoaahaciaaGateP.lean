/- Plain: what the laws on graphs keep beside a graph: edges, and a table of what each should say. -/
import Derived.Test.YtpllmfoaahaciaaGateE
set_option linter.unusedVariables false
set_option linter.unusedSimpArgs false
namespace Go.Gate

abbrev Tb := BitVec 64

/-- The inputs of a graph that begins with n of them. -/
def insN (n : Nat) : List Nat := (List.range n).map fun i => 2 * (i + 1)
def psN (n : Nat) : List (Nat × Nat) := List.replicate (n + 1) (0, 0)
/-- What these inputs say. -/
def inB (n : Nat) (vs : List Bool) (k : Nat) : Bool := decide (1 ≤ k ∧ k ≤ n) && vs.getD (k - 1) false

theorem baseTo_insN {N n : Nat} {vs : List Bool} (h : n < N) : ∀ {i}, i ≤ n → ∀ k, (baseTo N (insN n) vs i).getD k false = (decide (1 ≤ k ∧ k ≤ i) && vs.getD (k - 1) false)
  | 0, _, k => by
    have : decide (1 ≤ k ∧ k ≤ 0) = false := decide_eq_false (by omega)
    rw [this, Bool.false_and]
    simp only [baseTo, List.getD_eq_getElem?_getD, List.getElem?_replicate]
    split <;> rfl
  | i + 1, hi, k => by
    have e : ((insN n).getD i 0) / 2 = i + 1 := by
      unfold insN
      rw [List.getD_eq_getElem?_getD, List.getElem?_map, List.getElem?_range (by omega)]
      simp
    have ih := baseTo_insN (vs := vs) h (i := i) (by omega) k
    simp only [baseTo]
    rw [e]
    by_cases hk : k = i + 1
    · subst hk
      rw [List.getD_eq_getElem?_getD, List.getElem?_set_self (by rw [baseTo_len]; omega)]
      have : decide (1 ≤ i + 1 ∧ i + 1 ≤ i + 1) = true := decide_eq_true (by omega)
      rw [this, Bool.true_and, Nat.add_sub_cancel]; rfl
    · rw [List.getD_eq_getElem?_getD, List.getElem?_set_ne (by omega), ← List.getD_eq_getElem?_getD, ih]
      congr 1
      rw [decide_eq_decide]; omega
theorem baseOf_insN {N n : Nat} {vs : List Bool} (h : n < N) : baseOf N (insN n) vs = inB n vs := by
  funext k
  have := baseTo_insN (vs := vs) h (Nat.le_refl n) k
  unfold baseOf inB
  have hl : (insN n).length = n := by simp [insN]
  rw [hl]; exact this
theorem inB_zero {n : Nat} {vs : List Bool} : inB n vs 0 = false := by simp [inB]

theorem GOk_psN : ∀ n, GOk (psN n)
  | 0 => by
    refine ⟨by simp [psN], rfl, ?_, ?_⟩
    · intro k p hp
      have := List.mem_of_getElem? hp
      simp [psN] at this; exact .inl this
    · intro i k p hi hk hne
      have := List.mem_of_getElem? hi
      simp [psN] at this; exact (hne this).elim
  | n + 1 => by
    have h := (GOk_psN n).add (p := (0, 0)) (.inl rfl)
    have e : psN (n + 1) = psN n ++ [(0, 0)] := by
      unfold psN
      rw [List.replicate_succ' (n := n + 1)]
    rw [e]; exact h
theorem psN_next (n : Nat) : psN (n + 1) = psN n ++ [(0, 0)] := by unfold psN; rw [List.replicate_succ' (n := n + 1)]
theorem psN_len (n : Nat) : (psN n).length = n + 1 := by simp [psN]
theorem insN_next (n : Nat) : insN (n + 1) = insN n ++ [2 * (psN n).length] := by simp [insN, psN_len, List.range_succ]
theorem insN_len (n : Nat) : (insN n).length = n := by simp [insN]

/-- What the rows say of an input. -/
def rowV (r : Nat) : List Bool := (List.range 6).map fun i => decide ((r >>> i) % 2 = 1)
def inTb (i : Nat) : Nat → Nat
  | 0 => 0
  | r + 1 => if (r >>> i) % 2 = 1 then inTb i r + 2 ^ r else inTb i r
theorem inTb_lt (i : Nat) : ∀ r, inTb i r < 2 ^ r
  | 0 => Nat.one_pos
  | r + 1 => by
    have := inTb_lt i r
    simp only [inTb, Nat.pow_succ]
    split <;> omega
theorem inTb_bit (i : Nat) : ∀ {n r : Nat}, r < n → (inTb i n).testBit r = decide ((r >>> i) % 2 = 1)
  | 0, r, h => by omega
  | n + 1, r, h => by
    simp only [inTb]
    have hlt := inTb_lt i n
    by_cases hr : r = n
    · subst hr
      split
      · rename_i h1
        rw [Nat.add_comm, Nat.testBit_two_pow_add_eq, Nat.testBit_lt_two_pow hlt, decide_eq_true h1]; rfl
      · rename_i h1
        rw [Nat.testBit_lt_two_pow hlt, decide_eq_false h1]
    · have hrn : r < n := by omega
      split
      · rw [Nat.add_comm, Nat.testBit_two_pow_add_gt hrn]
        exact inTb_bit i hrn
      · exact inTb_bit i hrn
def inT (i : Nat) : Tb := BitVec.ofNat 64 (inTb i 64)
theorem inT_bit {i r : Nat} (h : r < 64) : (inT i).getLsbD r = decide ((r >>> i) % 2 = 1) := by
  unfold inT
  rw [BitVec.getLsbD_ofNat, inTb_bit i h]
  simp [h]

/-- What a maker holds: edges, tables; they agree. -/
structure MOk (n : Nat) (ps : List (Nat × Nat)) (es : List Nat) (ts : List Tb) : Prop where
  g : GOk ps
  more : n < ps.length
  len : ts.length = es.length
  there : ∀ e ∈ es, e / 2 < ps.length
  first : es[0]? = some 0 ∧ es[1]? = some 1 ∧ ts[1]? = some (BitVec.allOnes 64)
  says : ∀ (i : Nat) e t, es[i]? = some e → ts[i]? = some t → ∀ r, r < 64 → sv ps (inB n (rowV r)) e = t.getLsbD r

def startE (n : Nat) : List Nat := [0, 1] ++ insN n
def startT (n : Nat) : List Tb := [0, BitVec.allOnes 64] ++ (List.range n).map inT

theorem vals_psN (base : Nat → Bool) : ∀ n, vals (psN n) base = (List.range (n + 1)).map base
  | 0 => rfl
  | n + 1 => by
    rw [psN_next, vals_add, vals_psN base n, List.range_succ (n := n + 1), List.map_append]
    simp [step]
theorem sv_psN {base : Nat → Bool} {n a : Nat} (h : a / 2 ≤ n) : sv (psN n) base a = (base (a / 2) != decide (a % 2 = 1)) := by
  unfold sv says
  rw [vals_psN, List.getElem?_map, List.getElem?_range (by omega)]; rfl

theorem ones_bit {r : Nat} (h : r < 64) : (BitVec.allOnes 64).getLsbD r = true := by rw [BitVec.getLsbD_allOnes]; exact decide_eq_true h

theorem start_ok {n : Nat} (hn : n ≤ 6) : MOk n (psN n) (startE n) (startT n) := by
  refine ⟨GOk_psN n, by rw [psN_len]; omega, by simp [startE, startT, insN], ?_, ⟨rfl, rfl, rfl⟩, ?_⟩
  · intro e he
    rw [psN_len]
    simp only [startE, insN, List.mem_append, List.mem_cons, List.not_mem_nil, or_false, List.mem_map, List.mem_range] at he
    rcases he with (rfl | rfl) | ⟨i, hi, rfl⟩ <;> omega
  · intro i e t he ht r hr
    have hlen : (startE n).length = n + 2 := by simp [startE, insN]
    have hi : i < n + 2 := by rw [← hlen]; exact (List.getElem?_eq_some_iff.1 he).1
    match i, hi with
    | 0, _ =>
      simp [startE] at he; simp [startT] at ht
      subst he ht
      rw [sv_psN (by omega), inB_zero]; simp
    | 1, _ =>
      obtain rfl : 1 = e := Option.some.inj he
      obtain rfl : BitVec.allOnes 64 = t := Option.some.inj ht
      rw [sv_psN (by omega), inB_zero, ones_bit hr]; rfl
    | i + 2, hi =>
      have e1 : e = 2 * (i + 1) := by
        simp [startE, insN, List.getElem?_range (show i < n by omega)] at he
        exact he.symm
      have e2 : t = inT i := by
        simp [startT, List.getElem?_range (show i < n by omega)] at ht
        exact ht.symm
      subst e1 e2
      rw [sv_psN (by omega), inT_bit hr]
      have h1 : 2 * (i + 1) / 2 = i + 1 := by omega
      have h2 : 2 * (i + 1) % 2 = 0 := by omega
      rw [h1, h2]
      unfold inB rowV
      have h3 : decide (1 ≤ i + 1 ∧ i + 1 ≤ n) = true := decide_eq_true (by omega)
      rw [h3, Bool.true_and, Nat.add_sub_cancel, List.getD_eq_getElem?_getD, List.getElem?_map, List.getElem?_range (by omega)]
      simp

/-- A place in a list, whatever number is told. -/
def clamp (n : Nat) (p : Int) : Nat := (max 0 (min p ((n : Int) - 1))).toNat
theorem clamp_lt {n : Nat} {p : Int} (h : 0 < n) : clamp n p < n := by unfold clamp; omega

structure Deed where
  kind : Int
  a : Option Addr
  c : Nat
  parts : List Int

/-- What an act is done with. -/
def argE (es : List Nat) (parts : List Int) : List Nat := parts.map fun p => es.getD (clamp es.length p) 0
def argT (es : List Nat) (ts : List Tb) (parts : List Int) : List Tb := parts.map fun p => ts.getD (clamp es.length p) 0
def pad {α : Type} (xs : List α) (y : α) : List α := xs ++ List.replicate (3 - xs.length) y
def actE (es : List Nat) (parts : List Int) : List Nat := pad (argE es parts) 1
def actT (es : List Nat) (ts : List Tb) (parts : List Int) : List Tb := pad (argT es ts parts) (BitVec.allOnes 64)

def makeP (kind : Int) (ps : List (Nat × Nat)) (l : List Nat) : List (Nat × Nat) × Nat :=
  if kind = 0 then andP ps 1 l else if kind = 1 then orP ps l else if kind = 2 then sameP ps (l.getD 0 0) (l.getD 1 0)
  else if kind = 3 then ifP ps (l.getD 0 0) (l.getD 1 0) (l.getD 2 0) else (ps, flip (l.getD 0 0))
def makeT (kind : Int) (l : List Tb) : Tb :=
  if kind = 0 then l.foldl (fun a b => a &&& b) (BitVec.allOnes 64) else if kind = 1 then l.foldl (fun a b => a ||| b) 0 else if kind = 2 then ~~~ (l.getD 0 0 ^^^ l.getD 1 0)
  else if kind = 3 then (l.getD 0 0 &&& l.getD 1 0) ||| (~~~ l.getD 0 0 &&& l.getD 2 0) else ~~~ l.getD 0 0

/-- What a kind says of what its arguments say. -/
def kindF (kind : Int) (l : List Nat) (s : Nat → Bool) : Bool :=
  if kind = 0 then l.all s else if kind = 1 then l.any s else if kind = 2 then s (l.getD 0 0) == s (l.getD 1 0)
  else if kind = 3 then (if s (l.getD 0 0) then s (l.getD 1 0) else s (l.getD 2 0)) else !s (l.getD 0 0)

theorem Made.mono {ps : List (Nat × Nat)} {j k : Nat} {mk : List (Nat × Nat) → List (Nat × Nat) × Nat} {f : (Nat → Bool) → Bool} (h : Made ps j mk f) (hjk : j ≤ k) : Made ps k mk f := ⟨h.grows.mono hjk, h.there, h.says, h.again⟩

theorem make_made {kind : Int} {ps : List (Nat × Nat)} {l : List Nat} (h : GOk ps) (hl : 3 ≤ l.length) (hl2 : l.length ≤ 10) (hx : ∀ a ∈ l, a / 2 < ps.length) (hf : ps.length + 10 ≤ 1048576) :
    Made ps 10 (fun ps => makeP kind ps l) (kindF kind l) := by
  have hget : ∀ i, i < 3 → l.getD i 0 / 2 < ps.length := by
    intro i hi
    rw [List.getD_eq_getElem?_getD, List.getElem?_eq_getElem (by omega)]
    exact hx _ (List.getElem_mem _)
  unfold makeP kindF
  by_cases h0 : kind = 0
  · simp only [h0, if_true]; exact (and_made1 h hx (by omega)).mono (by omega)
  by_cases h1 : kind = 1
  · simp only [h1, if_true, if_neg (show ¬ (1 : Int) = 0 by decide)]; exact (or_made h hx (by omega)).mono (by omega)
  by_cases h2 : kind = 2
  · simp only [h2, if_true, if_neg (show ¬ (2 : Int) = 0 by decide), if_neg (show ¬ (2 : Int) = 1 by decide)]; exact (same_made h (hget 0 (by omega)) (hget 1 (by omega)) (by omega)).mono (by omega)
  by_cases h3 : kind = 3
  · simp only [h3, if_true, if_neg (show ¬ (3 : Int) = 0 by decide), if_neg (show ¬ (3 : Int) = 1 by decide), if_neg (show ¬ (3 : Int) = 2 by decide)]; exact (if_made h (hget 0 (by omega)) (hget 1 (by omega)) (hget 2 (by omega)) (by omega)).mono (by omega)
  · simp only [if_neg h0, if_neg h1, if_neg h2, if_neg h3]; exact (flip_made h (hget 0 (by omega))).mono (by omega)

theorem foldl_and {r : Nat} (hr : r < 64) : ∀ (l : List Tb) (a : Tb), (l.foldl (fun a b => a &&& b) a).getLsbD r = (a.getLsbD r && l.all fun t => t.getLsbD r)
  | [], a => by simp
  | t :: l, a => by rw [List.foldl_cons, foldl_and hr l, BitVec.getLsbD_and, List.all_cons, Bool.and_assoc]
theorem foldl_or {r : Nat} (hr : r < 64) : ∀ (l : List Tb) (a : Tb), (l.foldl (fun a b => a ||| b) a).getLsbD r = (a.getLsbD r || l.any fun t => t.getLsbD r)
  | [], a => by simp
  | t :: l, a => by rw [List.foldl_cons, foldl_or hr l, BitVec.getLsbD_or, List.any_cons, Bool.or_assoc]

/-- The tables of some edges say what the edges say. -/
def Agree (s : Nat → Bool) (r : Nat) : List Nat → List Tb → Prop
  | [], [] => True
  | e :: es, t :: ts => s e = t.getLsbD r ∧ Agree s r es ts
  | _, _ => False
theorem Agree.all {s : Nat → Bool} {r : Nat} : ∀ {l : List Nat} {t : List Tb}, Agree s r l t → l.all s = t.all fun t => t.getLsbD r
  | [], [], _ => rfl
  | e :: es, t :: ts, ⟨h, h2⟩ => by rw [List.all_cons, List.all_cons, h, h2.all]
  | [], _ :: _, h => h.elim
  | _ :: _, [], h => h.elim
theorem Agree.any {s : Nat → Bool} {r : Nat} : ∀ {l : List Nat} {t : List Tb}, Agree s r l t → l.any s = t.any fun t => t.getLsbD r
  | [], [], _ => rfl
  | e :: es, t :: ts, ⟨h, h2⟩ => by rw [List.any_cons, List.any_cons, h, h2.any]
  | [], _ :: _, h => h.elim
  | _ :: _, [], h => h.elim
theorem Agree.at {s : Nat → Bool} {r : Nat} : ∀ {l : List Nat} {t : List Tb}, Agree s r l t → ∀ i, i < l.length → s (l.getD i 0) = (t.getD i 0).getLsbD r
  | [], [], _, i, h => by simp at h
  | e :: es, t :: ts, ⟨h, h2⟩, 0, _ => h
  | e :: es, t :: ts, ⟨h, h2⟩, i + 1, hi => by
    have := h2.at i (by simpa using hi)
    simpa using this
  | [], _ :: _, h, _, _ => h.elim
  | _ :: _, [], h, _, _ => h.elim
theorem Agree.len {s : Nat → Bool} {r : Nat} : ∀ {l : List Nat} {t : List Tb}, Agree s r l t → l.length = t.length
  | [], [], _ => rfl
  | e :: es, t :: ts, ⟨h, h2⟩ => by simp [h2.len]
  | [], _ :: _, h => h.elim
  | _ :: _, [], h => h.elim
theorem Agree.app {s : Nat → Bool} {r : Nat} : ∀ {l l' : List Nat} {t t' : List Tb}, Agree s r l t → Agree s r l' t' → Agree s r (l ++ l') (t ++ t')
  | [], _, [], _, _, h => h
  | e :: es, _, t :: ts, _, ⟨h, h2⟩, h' => ⟨h, h2.app h'⟩
  | [], _, _ :: _, _, h, _ => h.elim
  | _ :: _, _, [], _, h, _ => h.elim

theorem MOk.pos {n : Nat} {ps : List (Nat × Nat)} {es : List Nat} {ts : List Tb} (h : MOk n ps es ts) : 2 ≤ es.length := by
  have := (List.getElem?_eq_some_iff.1 h.first.2.1).1
  omega

theorem MOk.agree {n : Nat} {ps : List (Nat × Nat)} {es : List Nat} {ts : List Tb} (h : MOk n ps es ts) {r : Nat} (hr : r < 64) (parts : List Int) : Agree (sv ps (inB n (rowV r))) r (actE es parts) (actT es ts parts) := by
  have hpos := h.pos
  have h1 : ∀ parts : List Int, Agree (sv ps (inB n (rowV r))) r (argE es parts) (argT es ts parts) := by
    intro parts
    induction parts with
    | nil => trivial
    | cons p parts ih =>
      refine ⟨?_, ih⟩
      have hc := clamp_lt (n := es.length) (p := p) (by omega)
      have e1 := List.getElem?_eq_getElem hc
      have e2 := List.getElem?_eq_getElem (l := ts) (i := clamp es.length p) (by rw [h.len]; exact hc)
      show sv ps (inB n (rowV r)) (es.getD (clamp es.length p) 0) = (ts.getD (clamp es.length p) 0).getLsbD r
      rw [List.getD_eq_getElem?_getD, List.getD_eq_getElem?_getD, e1, e2]
      exact h.says _ _ _ e1 e2 r hr
  have h2 := (h1 parts).len
  unfold actE actT pad
  rw [h2]
  refine (h1 parts).app ?_
  generalize 3 - (argT es ts parts).length = k
  induction k with
  | zero => trivial
  | succ k ih => exact ⟨h.says 1 _ _ h.first.2.1 h.first.2.2 r hr, ih⟩

theorem actE_len {es : List Nat} {parts : List Int} (h : parts.length ≤ 10) : 3 ≤ (actE es parts).length ∧ (actE es parts).length ≤ 10 := by
  simp [actE, pad, argE]; omega
theorem actE_there {n : Nat} {ps : List (Nat × Nat)} {es : List Nat} {ts : List Tb} (h : MOk n ps es ts) {parts : List Int} : ∀ a ∈ actE es parts, a / 2 < ps.length := by
  have hpos := h.pos
  intro a ha
  unfold actE pad argE at ha
  rcases List.mem_append.1 ha with ha | ha
  · obtain ⟨p, _, rfl⟩ := List.mem_map.1 ha
    have hc := clamp_lt (n := es.length) (p := p) (by omega)
    rw [List.getD_eq_getElem?_getD, List.getElem?_eq_getElem hc]
    exact h.there _ (List.getElem_mem hc)
  · have := List.eq_of_mem_replicate ha
    subst this
    exact one_there h.g

theorem makeT_says {kind : Int} {s : Nat → Bool} {r : Nat} (hr : r < 64) {l : List Nat} {t : List Tb} (h : Agree s r l t) (hl : 3 ≤ l.length) : kindF kind l s = (makeT kind t).getLsbD r := by
  have h0 := h.at 0 (by omega)
  have h1 := h.at 1 (by omega)
  have h2 := h.at 2 (by omega)
  unfold kindF makeT
  split
  · rw [foldl_and hr, h.all, ones_bit hr, Bool.true_and]
  split
  · rw [foldl_or hr, h.any]; simp
  split
  · rw [h0, h1, BitVec.getLsbD_not, BitVec.getLsbD_xor, decide_eq_true hr]
    cases (t.getD 0 0).getLsbD r <;> cases (t.getD 1 0).getLsbD r <;> rfl
  split
  · rw [h0, h1, h2, BitVec.getLsbD_or, BitVec.getLsbD_and, BitVec.getLsbD_and, BitVec.getLsbD_not]
    simp only [hr, decide_true, Bool.true_and]
    cases (t.getD 0 0).getLsbD r <;> cases (t.getD 1 0).getLsbD r <;> cases (t.getD 2 0).getLsbD r <;> rfl
  · rw [h0, BitVec.getLsbD_not, decide_eq_true hr, Bool.true_and]

theorem MOk.next {n : Nat} {ps : List (Nat × Nat)} {es : List Nat} {ts : List Tb} (h : MOk n ps es ts) {kind : Int} {parts : List Int} (hp : parts.length ≤ 10) (hf : ps.length + 10 ≤ 1048576) :
    MOk n (makeP kind ps (actE es parts)).1 (es ++ [(makeP kind ps (actE es parts)).2]) (ts ++ [makeT kind (actT es ts parts)]) := by
  have hl := actE_len (es := es) hp
  have m := make_made (kind := kind) h.g hl.1 hl.2 (actE_there h) hf
  have hgl := m.grows.len
  have hpos := h.pos
  refine ⟨m.grows.g, by have := h.more; omega, by simp [h.len], ?_, ?_, ?_⟩
  · intro e he
    rcases List.mem_append.1 he with he | he
    · have := h.there e he
      omega
    · simp at he; subst he; exact m.there
  · have h1 := h.first
    have hlt := h.len
    exact ⟨by rw [List.getElem?_append_left (by omega)]; exact h1.1, by rw [List.getElem?_append_left (by omega)]; exact h1.2.1, by rw [List.getElem?_append_left (by omega)]; exact h1.2.2⟩
  · intro i e t he ht r hr
    have hlt := h.len
    by_cases hi : i < es.length
    · rw [List.getElem?_append_left hi] at he
      rw [List.getElem?_append_left (by omega)] at ht
      rw [m.grows.sv (h.there e (List.mem_of_getElem? he))]
      exact h.says i e t he ht r hr
    · rw [List.getElem?_append_right (by omega)] at he
      rw [List.getElem?_append_right (by omega)] at ht
      have hi0 : i - es.length = 0 := by
        have := (List.getElem?_eq_some_iff.1 he).1
        simp at this; omega
      rw [hi0] at he
      rw [hlt, hi0] at ht
      simp at he ht
      subst he ht
      rw [m.says _ inB_zero]
      exact makeT_says hr (h.agree hr parts) hl.1

end Go.Gate
