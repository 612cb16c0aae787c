/- What the functions of package trail hand back and leave in memory. -/
import Derived.Test.YtcibiidebknkgaaGreatMem
import Derived.Test.YtcibiidebknkgaaGreatTrailM
import Derived.KernelRfl
namespace Go.Proofs.YtcibiidebknkgaaGreat
open Go Go.Vc Go.Trail
set_option linter.unusedVariables false
set_option linter.unusedSimpArgs false


/-! Literals -/
theorem litOne (l : Int) (w : World) : Does Tryz.prog 69 #[.int .i32 l] w fun v w' => v = .bool (okLit l) ∧ w = w' := by
  refine Does_intro tok (Tryz.call69 _ _) Tryz.func69 rfl (by rfl) ?_
  refine Br_ne (fun h1 => ?_) (fun h1 => ?_)
  · (repeat (first | refine Br_true ?_ | refine Br_false ?_))
    refine Br_dec (fun h2 => ?_) (fun h2 => ?_)
    · (repeat (first | refine Br_true ?_ | refine Br_false ?_))
      refine Ret_in ⟨vbool ?_, rfl⟩
      rw [okLit, decide_eq_true h1, decide_eq_true h2]; rfl
    · (repeat (first | refine Br_true ?_ | refine Br_false ?_))
      refine Ret_in ⟨vbool ?_, rfl⟩
      rw [okLit, decide_eq_false h2]; simp
  · (repeat (first | refine Br_true ?_ | refine Br_false ?_))
    refine Ret_in ⟨vbool ?_, rfl⟩
    subst h1; rfl

theorem litVar (l : Int) (w : World) : Does Tryz.prog 42 #[.int .i32 l] w fun v w' => v = .int .i64 (var l) ∧ w = w' := by
  refine Does_intro tok (Tryz.call42 _ _) Tryz.func42 rfl (by rfl) ?_
  refine Call_of (litOne _ _) ?_
  rintro v w1 ⟨rfl, rfl⟩
  refine Br_not (Br_if (fun h => ?_) (fun h => ?_))
  · have h' := okLit_iff.1 h
    have hv := var_ok h
    refine Br_dec (fun h2 => ?_) (fun h2 => ?_)
    · (repeat (first | refine Br_true ?_ | refine Br_false ?_ | refine Ar_i64 (by omega) (by omega) ?_ | refine Eqv_in ?_ | refine Br_dec_yes (by omega) ?_ | refine Br_dec_no (by omega) ?_ | refine Br_eq_yes rfl ?_ | refine Br_ne_no rfl ?_ | refine Br_eq_yes (by omega) ?_ | refine Br_eq_no (by omega) ?_ | refine Br_ne_yes (by omega) ?_ | refine Br_ne_no (by omega) ?_ | refine Br_not ?_ | refine Join_dup (Br_dec_yes (by omega) ?_) | refine Join_dup (Br_dec_no (by omega) ?_) | refine Join_dup (Br_eq_yes (by omega) ?_) | refine Join_dup (Br_eq_no (by omega) ?_) | refine Join_dup (Br_ne_yes (by omega) ?_) | refine Join_dup (Br_ne_no (by omega) ?_) | refine Ar_i32 (by omega) (by omega) ?_ | refine Ar_u64 (by omega) (by omega) ?_ | refine Ar_u32 (by omega) (by omega) ?_ | refine Nn_in (by omega) ?_ | refine Nz_in (by omega) ?_))
      refine Ret_in ⟨vint ?_, rfl⟩
      omega
    · (repeat (first | refine Br_true ?_ | refine Br_false ?_ | refine Ar_i64 (by omega) (by omega) ?_ | refine Eqv_in ?_ | refine Br_dec_yes (by omega) ?_ | refine Br_dec_no (by omega) ?_ | refine Br_eq_yes rfl ?_ | refine Br_ne_no rfl ?_ | refine Br_eq_yes (by omega) ?_ | refine Br_eq_no (by omega) ?_ | refine Br_ne_yes (by omega) ?_ | refine Br_ne_no (by omega) ?_ | refine Br_not ?_ | refine Join_dup (Br_dec_yes (by omega) ?_) | refine Join_dup (Br_dec_no (by omega) ?_) | refine Join_dup (Br_eq_yes (by omega) ?_) | refine Join_dup (Br_eq_no (by omega) ?_) | refine Join_dup (Br_ne_yes (by omega) ?_) | refine Join_dup (Br_ne_no (by omega) ?_) | refine Ar_i32 (by omega) (by omega) ?_ | refine Ar_u64 (by omega) (by omega) ?_ | refine Ar_u32 (by omega) (by omega) ?_ | refine Nn_in (by omega) ?_ | refine Nz_in (by omega) ?_))
      refine Ret_in ⟨vint ?_, rfl⟩
      omega
  · refine Ret_in ⟨vint ?_, rfl⟩
    rw [var_no h]; rfl

/-! The trail in memory -/
structure Raw (w : World) (b n D : Nat) (E : List Ent) (bm cm : Nat) (al : Option Addr) (cl : Nat) (av : Option Addr) (cv : Nat) : Prop where
  inv : Inv n D E
  here : At w b 112 [.slice (some ⟨bm, 0, none⟩) (n + 1) cm, .slice al E.length cl, .slice av D cv]
  marks : Vc.Own w (some ⟨bm, 0, none⟩) (n + 1) cm 132 3 (rows (markOf E) (n + 1))
  list : Vc.Own w al E.length cl 29 1 (litsV E)
  levels : Vc.Own w av D cv 3 1 (levsV D E)
  bm_b : bm ≠ b
  al_b : ∀ x, Blk al x → x ≠ b ∧ x ≠ bm
  av_b : ∀ x, Blk av x → x ≠ b ∧ x ≠ bm ∧ ¬ Blk al x

/-- The blocks of a trail. -/
def Mine (b bm : Nat) (al av : Option Addr) (x : Nat) : Prop := x = b ∨ x = bm ∨ Blk al x ∨ Blk av x

theorem Raw.fr {S : Nat → Prop} {w w' : World} {b n D : Nat} {E : List Ent} {bm cm : Nat} {al : Option Addr} {cl : Nat} {av : Option Addr} {cv : Nat} (h : Raw w b n D E bm cm al cl av cv) (hf : Fr S w w') (hd : ∀ x, Mine b bm al av x → ¬ S x) :
    Raw w' b n D E bm cm al cl av cv :=
  ⟨h.inv, h.here.fr hf (hd _ (.inl rfl)), h.marks.fr hf (fun x hx => by cases hx; exact hd _ (.inr (.inl rfl))), h.list.fr hf (fun x hx => hd _ (.inr (.inr (.inl hx)))), h.levels.fr hf (fun x hx => hd _ (.inr (.inr (.inr hx)))), h.bm_b, h.al_b, h.av_b⟩

def TrailAt (w : World) (S : Nat → Prop) (b n D : Nat) (E : List Ent) : Prop :=
  ∃ bm cm al cl av cv, Raw w b n D E bm cm al cl av cv ∧ ∀ x, Mine b bm al av x → S x

theorem TrailAt.inv {w : World} {S : Nat → Prop} {b n D : Nat} {E : List Ent} (h : TrailAt w S b n D E) : Inv n D E := by
  obtain ⟨bm, cm, al, cl, av, cv, h, _⟩ := h; exact h.inv

theorem TrailAt.fr {S S' : Nat → Prop} {w w' : World} {b n D : Nat} {E : List Ent} (h : TrailAt w S b n D E) (hf : Fr S' w w') (hd : ∀ x, S x → ¬ S' x) : TrailAt w' S b n D E := by
  obtain ⟨bm, cm, al, cl, av, cv, h, hs⟩ := h
  exact ⟨bm, cm, al, cl, av, cv, h.fr hf (fun x hx => hd x (hs x hx)), hs⟩

section
variable {b n D : Nat} {E : List Ent} {bm cm : Nat} {al : Option Addr} {cl : Nat} {av : Option Addr} {cv : Nat} {w : World}

theorem trailVars (h : Raw w b n D E bm cm al cl av cv) : Does Tryz.prog 37 #[.pointer (some ⟨b, 0, none⟩)] w fun v w' => v = .int .i64 n ∧ w = w' := by
  have hn := h.inv.vars
  refine Does_intro tok (Tryz.call37 _ _) Tryz.func37 rfl (by rfl) ?_
  refine Ld_at h.here (by rfl) ?_
  (repeat (first | refine Br_true ?_ | refine Br_false ?_ | refine Ar_i64 (by omega) (by omega) ?_ | refine Eqv_in ?_ | refine Br_dec_yes (by omega) ?_ | refine Br_dec_no (by omega) ?_ | refine Br_eq_yes rfl ?_ | refine Br_ne_no rfl ?_ | refine Br_eq_yes (by omega) ?_ | refine Br_eq_no (by omega) ?_ | refine Br_ne_yes (by omega) ?_ | refine Br_ne_no (by omega) ?_ | refine Br_not ?_ | refine Join_dup (Br_dec_yes (by omega) ?_) | refine Join_dup (Br_dec_no (by omega) ?_) | refine Join_dup (Br_eq_yes (by omega) ?_) | refine Join_dup (Br_eq_no (by omega) ?_) | refine Join_dup (Br_ne_yes (by omega) ?_) | refine Join_dup (Br_ne_no (by omega) ?_) | refine Ar_i32 (by omega) (by omega) ?_ | refine Ar_u64 (by omega) (by omega) ?_ | refine Ar_u32 (by omega) (by omega) ?_ | refine Nn_in (by omega) ?_ | refine Nz_in (by omega) ?_))
  exact Ret_in ⟨vint (by omega), rfl⟩

theorem trailDepth (h : Raw w b n D E bm cm al cl av cv) : Does Tryz.prog 52 #[.pointer (some ⟨b, 0, none⟩)] w fun v w' => v = .int .i64 D ∧ w = w' := by
  refine Does_intro tok (Tryz.call52 _ _) Tryz.func52 rfl (by rfl) ?_
  refine Ld_at h.here (by rfl) ?_
  exact Ret_in ⟨rfl, rfl⟩

theorem trailLen (h : Raw w b n D E bm cm al cl av cv) : Does Tryz.prog 74 #[.pointer (some ⟨b, 0, none⟩)] w fun v w' => v = .int .i64 E.length ∧ w = w' := by
  refine Does_intro tok (Tryz.call74 _ _) Tryz.func74 rfl (by rfl) ?_
  refine Ld_at h.here (by rfl) ?_
  exact Ret_in ⟨rfl, rfl⟩

theorem trailVarsAt {x y : Value} (h : At w b 112 [.slice (some ⟨bm, 0, none⟩) (n + 1) cm, x, y]) (hn : n ≤ 262144) : Does Tryz.prog 37 #[.pointer (some ⟨b, 0, none⟩)] w fun v w' => v = .int .i64 n ∧ w = w' := by
  refine Does_intro tok (Tryz.call37 _ _) Tryz.func37 rfl (by rfl) ?_
  refine Ld_at h (by rfl) ?_
  (repeat (first | refine Br_true ?_ | refine Br_false ?_ | refine Ar_i64 (by omega) (by omega) ?_ | refine Eqv_in ?_ | refine Br_dec_yes (by omega) ?_ | refine Br_dec_no (by omega) ?_ | refine Br_eq_yes rfl ?_ | refine Br_ne_no rfl ?_ | refine Br_eq_yes (by omega) ?_ | refine Br_eq_no (by omega) ?_ | refine Br_ne_yes (by omega) ?_ | refine Br_ne_no (by omega) ?_ | refine Br_not ?_ | refine Join_dup (Br_dec_yes (by omega) ?_) | refine Join_dup (Br_dec_no (by omega) ?_) | refine Join_dup (Br_eq_yes (by omega) ?_) | refine Join_dup (Br_eq_no (by omega) ?_) | refine Join_dup (Br_ne_yes (by omega) ?_) | refine Join_dup (Br_ne_no (by omega) ?_) | refine Ar_i32 (by omega) (by omega) ?_ | refine Ar_u64 (by omega) (by omega) ?_ | refine Ar_u32 (by omega) (by omega) ?_ | refine Nn_in (by omega) ?_ | refine Nz_in (by omega) ?_))
  exact Ret_in ⟨vint (by omega), rfl⟩

theorem trailOfAt {x y : Value} (l : Int) (h : At w b 112 [.slice (some ⟨bm, 0, none⟩) (n + 1) cm, x, y]) (hn : n ≤ 262144) : Does Tryz.prog 111 #[.pointer (some ⟨b, 0, none⟩), .int .i32 l] w fun v w' => w = w' ∧
    v = .pointer (if 0 < var l ∧ var l ≤ n then some ⟨bm, 0 + var l * 3, none⟩ else none) := by
  refine Does_intro tok (Tryz.call111 _ _) Tryz.func111 rfl (by rfl) ?_
  refine Call_of (litVar _ _) ?_
  rintro v w1 ⟨rfl, rfl⟩
  refine Br_dec (fun k1 => ?_) (fun k1 => ?_)
  · (repeat (first | refine Br_true ?_ | refine Br_false ?_))
    refine Call_of (trailVarsAt h hn) ?_
    rintro v w2 ⟨rfl, rfl⟩
    (repeat (first | refine Br_true ?_ | refine Br_false ?_))
    refine Br_dec (fun k2 => ?_) (fun k2 => ?_)
    · refine Ld_at h (by rfl) ?_
      refine Ix_in (var l) (by omega) (by omega) ?_
      refine Ret_in ⟨rfl, ?_⟩
      rw [if_pos (by omega)]; rfl
    · refine Ret_in ⟨rfl, ?_⟩
      rw [if_neg (by omega)]; rfl
  · (repeat (first | refine Br_true ?_ | refine Br_false ?_))
    refine Ret_in ⟨rfl, ?_⟩
    rw [if_neg (by omega)]; rfl

/-- Which mark is a literal's. -/
theorem trailOf (l : Int) (h : Raw w b n D E bm cm al cl av cv) : Does Tryz.prog 111 #[.pointer (some ⟨b, 0, none⟩), .int .i32 l] w fun v w' => w = w' ∧
    v = .pointer (if 0 < var l ∧ var l ≤ n then some ⟨bm, 0 + var l * 3, none⟩ else none) := by
  refine Does_intro tok (Tryz.call111 _ _) Tryz.func111 rfl (by rfl) ?_
  refine Call_of (litVar _ _) ?_
  rintro v w1 ⟨rfl, rfl⟩
  have hn := h.inv.vars
  refine Br_dec (fun k1 => ?_) (fun k1 => ?_)
  · (repeat (first | refine Br_true ?_ | refine Br_false ?_))
    refine Call_of (trailVars h) ?_
    rintro v w2 ⟨rfl, rfl⟩
    (repeat (first | refine Br_true ?_ | refine Br_false ?_))
    refine Br_dec (fun k2 => ?_) (fun k2 => ?_)
    · refine Ld_at h.here (by rfl) ?_
      refine Ix_in (var l) (by omega) (by omega) ?_
      refine Ret_in ⟨rfl, ?_⟩
      rw [if_pos (by omega)]; rfl
    · refine Ret_in ⟨rfl, ?_⟩
      rw [if_neg (by omega)]; rfl
  · (repeat (first | refine Br_true ?_ | refine Br_false ?_))
    refine Ret_in ⟨rfl, ?_⟩
    rw [if_neg (by omega)]; rfl

theorem marks_get (h : Raw w b n D E bm cm al cl av cv) {v j : Nat} (hv : v ≤ n) (hj : j < 3) : (rows (markOf E) (n + 1))[v * 3 + j]? = (mk3 (markOf E v))[j]? := rows_get _ (by omega) hj

theorem trailValue (l : Int) (h : Raw w b n D E bm cm al cl av cv) : Does Tryz.prog 83 #[.pointer (some ⟨b, 0, none⟩), .int .i32 l] w fun v w' => v = .int .i64 (value E l) ∧ w = w' := by
  refine Does_intro tok (Tryz.call83 _ _) Tryz.func83 rfl (by rfl) ?_
  refine Call_of (trailOf l h) ?_
  rintro v w1 ⟨rfl, rfl⟩
  have hok : ∀ x ∈ E, okLit x.lit = true := fun x hx => (h.inv.ok x hx).1
  by_cases hl : 0 < var l ∧ var l ≤ n
  · rw [if_pos hl]
    have hlit := var_pos.1 hl.1
    have hv := value_mark h.inv l hlit
    have hm : (markOf E (var l)).1 = 0 ∨ (markOf E (var l)).1 = 1 ∨ (markOf E (var l)).1 = -1 := by
      unfold markOf sgn
      cases find E (var l) with
      | none => exact .inl rfl
      | some x => simp only; split <;> simp
    refine Do_ptr_eq_nil tok rfl ?_
    (repeat (first | refine Br_true ?_ | refine Br_false ?_))
    refine Br_dec (fun k => ?_) (fun k => ?_)
    · refine Ld_own h.marks (marks_get h hl.2 (j := 0) (by omega)) ?_
      refine Ar_i64 (by omega) (by omega) ?_
      refine Ret_in ⟨vint ?_, rfl⟩
      rw [hv, if_pos k]; omega
    · refine Ld_own h.marks (marks_get h hl.2 (j := 0) (by omega)) ?_
      refine Ret_in ⟨vint ?_, rfl⟩
      rw [hv, if_neg k]
  · rw [if_neg hl]
    refine Do_nil_eq_nil tok rfl ?_
    (repeat (first | refine Br_true ?_ | refine Br_false ?_))
    refine Ret_in ⟨vint ?_, rfl⟩
    cases hlit : okLit l with
    | false => exact (value_no hok hlit).symm
    | true =>
      have := var_pos.2 hlit
      exact (value_none h.inv hlit (h.inv.above (by omega))).symm

/-- May a literal be made true? -/
def freeNo (n : Nat) (E : List Ent) (l : Int) : Int := if 0 < var l ∧ var l ≤ n then (if find E (var l) = none then 0 else 42) else 41

theorem trailFree (l : Int) (h : Raw w b n D E bm cm al cl av cv) : Does Tryz.prog 114 #[.pointer (some ⟨b, 0, none⟩), .int .i32 l] w fun v w' => v = .int .i64 (freeNo n E l) ∧ w = w' := by
  refine Does_intro tok (Tryz.call114 _ _) Tryz.func114 rfl (by rfl) ?_
  refine Call_of (trailOf l h) ?_
  rintro v w1 ⟨rfl, rfl⟩
  unfold freeNo
  by_cases hl : 0 < var l ∧ var l ≤ n
  · rw [if_pos hl, if_pos hl]
    refine Do_ptr_eq_nil tok rfl ?_
    (repeat (first | refine Br_true ?_ | refine Br_false ?_))
    refine Ld_own h.marks (marks_get h hl.2 (j := 0) (by omega)) ?_
    refine Br_ne (fun k => ?_) (fun k => ?_)
    · refine Ret_in ⟨vint ?_, rfl⟩
      rw [if_neg (fun h => k (mark_zero.2 h))]
    · refine Ret_in ⟨vint ?_, rfl⟩
      rw [if_pos (mark_zero.1 k)]
  · rw [if_neg hl, if_neg hl]
    refine Do_nil_eq_nil tok rfl ?_
    (repeat (first | refine Br_true ?_ | refine Br_false ?_))
    exact Ret_in ⟨rfl, rfl⟩

/-- What is known of a variable. -/
def knownOf (E : List Ent) (v : Int) : Int × Int × Int :=
  match find E v with
  | none => (0, -1, -1)
  | some x => (sgn x.lit, x.lev, x.rea)

theorem trailKnown (v : Int) (h : Raw w b n D E bm cm al cl av cv) : Does Tryz.prog 89 #[.pointer (some ⟨b, 0, none⟩), .int .i64 v] w fun r w' => r = .agg (mk3 (knownOf E v)).toArray ∧ Fr (fun _ => False) w w' := by
  refine Does_intro tok (Tryz.call89 _ _) Tryz.func89 rfl (by rfl) ?_
  refine Nw_cells (fun bk w1 e1 hk f1 s1 => ?_)
  have h1 := h.fr f1 (fun _ _ h => h)
  have hlt := h.here.lt
  refine Br_dec (fun k1 => ?_) (fun k1 => ?_)
  · (repeat (first | refine Br_true ?_ | refine Br_false ?_))
    refine StN_at (o := 0) hk (by decide) (by decide) rfl (fun w2 h2 f2 s2 => ?_)
    refine LdN_all h2 rfl ?_
    refine Ret_in ⟨?_, f1.trans' f2 (fun x hx h => by omega)⟩
    rw [knownOf, find_low k1]; rfl
  · (repeat (first | refine Br_true ?_ | refine Br_false ?_))
    refine Call_of (trailVars h1) ?_
    rintro _ _ ⟨rfl, rfl⟩
    (repeat (first | refine Br_true ?_ | refine Br_false ?_))
    refine Br_dec (fun k2 => ?_) (fun k2 => ?_)
    · (repeat (first | refine Br_true ?_ | refine Br_false ?_))
      refine StN_at (o := 0) hk (by decide) (by decide) rfl (fun w2 h2 f2 s2 => ?_)
      refine LdN_all h2 rfl ?_
      refine Ret_in ⟨?_, f1.trans' f2 (fun x hx h => by omega)⟩
      rw [knownOf, h.inv.above k2]; rfl
    · (repeat (first | refine Br_true ?_ | refine Br_false ?_))
      obtain ⟨u, rfl⟩ : ∃ u : Nat, v = u := ⟨v.toNat, by omega⟩
      have hn := h.inv.vars
      refine Ld_at h1.here (by rfl) ?_
      (repeat (first | refine Br_true ?_ | refine Br_false ?_))
      refine Ix_in u rfl (by omega) ?_
      (repeat (first | refine Br_true ?_ | refine Br_false ?_))
      refine Ld_own h1.marks (marks_get h1 (v := u) (by omega) (j := 0) (by omega)) ?_
      (repeat (first | refine Br_true ?_ | refine Br_false ?_))
      refine Br_eq (fun k3 => ?_) (fun k3 => ?_)
      · refine StN_at (o := 0) hk (by decide) (by decide) rfl (fun w2 h2 f2 s2 => ?_)
        refine LdN_all h2 rfl ?_
        refine Ret_in ⟨?_, f1.trans' f2 (fun x hx h => by omega)⟩
        rw [knownOf, mark_zero.1 k3]; rfl
      · refine Ld_at h1.here (by rfl) ?_
        refine Ix_in u rfl (by omega) ?_
        refine LdN_own (j := u * 3) h1.marks (rows_part (by omega)) rfl ?_
        refine StN_at (o := 0) hk (by intro v hv; simp [mk3] at hv; rcases hv with rfl | rfl | rfl <;> rfl) (by simp [mk3]) rfl (fun w2 h2 f2 s2 => ?_)
        refine LdN_all h2 rfl ?_
        refine Ret_in ⟨?_, f1.trans' f2 (fun x hx h => by omega)⟩
        have : (markOf E u) = knownOf E u := by
          unfold markOf at k3 ⊢
          unfold knownOf
          cases hf : find E (u : Int) with
          | none => rw [hf] at k3; exact absurd rfl k3
          | some x => rfl
        rw [this]; rfl

theorem trailLevel (v : Int) (h : Raw w b n D E bm cm al cl av cv) : Does Tryz.prog 59 #[.pointer (some ⟨b, 0, none⟩), .int .i64 v] w fun r w' => r = .int .i64 (knownOf E v).2.1 ∧ Fr (fun _ => False) w w' := by
  refine Does_intro tok (Tryz.call59 _ _) Tryz.func59 rfl (by rfl) ?_
  refine Call_of (trailKnown v h) ?_
  rintro _ w1 ⟨rfl, f1⟩
  refine Do_field tok rfl rfl rfl rfl rfl ?_
  exact Ret_in ⟨rfl, f1⟩

theorem trailReason (v : Int) (h : Raw w b n D E bm cm al cl av cv) : Does Tryz.prog 86 #[.pointer (some ⟨b, 0, none⟩), .int .i64 v] w fun r w' => r = .int .i64 (knownOf E v).2.2 ∧ Fr (fun _ => False) w w' := by
  refine Does_intro tok (Tryz.call86 _ _) Tryz.func86 rfl (by rfl) ?_
  refine Call_of (trailKnown v h) ?_
  rintro _ w1 ⟨rfl, f1⟩
  refine Do_field tok rfl rfl rfl rfl rfl ?_
  exact Ret_in ⟨rfl, f1⟩

theorem trailAt (i : Int) (h : Raw w b n D E bm cm al cl av cv) : Does Tryz.prog 76 #[.pointer (some ⟨b, 0, none⟩), .int .i64 i] w fun r w' => r = .int .i32 (if 0 ≤ i then ((E[i.toNat]?).map Ent.lit).getD 0 else 0) ∧ w = w' := by
  refine Does_intro tok (Tryz.call76 _ _) Tryz.func76 rfl (by rfl) ?_
  refine Br_dec (fun k1 => ?_) (fun k1 => ?_)
  · (repeat (first | refine Br_true ?_ | refine Br_false ?_))
    refine Ret_in ⟨vint ?_, rfl⟩
    rw [if_neg (by omega)]
  · (repeat (first | refine Br_true ?_ | refine Br_false ?_))
    refine Ld_at h.here (by rfl) ?_
    (repeat (first | refine Br_true ?_ | refine Br_false ?_))
    obtain ⟨j, rfl⟩ : ∃ j : Nat, i = j := ⟨i.toNat, by omega⟩
    rw [if_pos (by omega), Int.toNat_natCast]
    refine Br_dec (fun k2 => ?_) (fun k2 => ?_)
    · refine Ret_in ⟨vint ?_, rfl⟩
      rw [List.getElem?_eq_none (by omega)]; rfl
    · refine Ld_at h.here (by rfl) ?_
      have hj : j < E.length := by omega
      obtain ⟨x, rfl⟩ := h.list.some (by omega)
      refine Ix_in j rfl hj ?_
      refine Ld_own h.list (lits_get (List.getElem?_eq_getElem hj)) ?_
      refine Ret_in ⟨vint ?_, rfl⟩
      rw [List.getElem?_eq_getElem hj]; rfl

/-! What changes a trail -/
/-- A trail that came of one before. -/
def After (w : World) (S : Nat → Prop) (w' : World) (b n D : Nat) (E : List Ent) : Prop := ∃ S', TrailAt w' S' b n D E ∧ Fr S w w' ∧ ∀ x, S' x → S x ∨ w.heap.size ≤ x

theorem trailGrow (h : Raw w b n D E bm cm al cl av cv) : Does Tryz.prog 62 #[.pointer (some ⟨b, 0, none⟩)] w fun r w' =>
    (262144 ≤ n ∧ r = .int .i64 0 ∧ w = w') ∨ (n < 262144 ∧ r = .int .i64 ((n + 1 : Nat) : Int) ∧ After w (Mine b bm al av) w' b (n + 1) D E) := by
  refine Does_intro tok (Tryz.call62 _ _) Tryz.func62 rfl (by rfl) ?_
  refine Call_of (trailVars h) ?_
  rintro _ _ ⟨rfl, rfl⟩
  refine Br_dec (fun k => ?_) (fun k => ?_)
  · exact Ret_in (.inl ⟨by omega, rfl, rfl⟩)
  · refine Ld_at h.here (by rfl) ?_
    refine Nw_cells (fun bn w1 e1 hn f1 s1 => ?_)
    have h1 := h.fr f1 (fun _ _ h => h)
    have hlt := h.here.lt
    have g1 : Vc.Own w1 (some ⟨bn, 0, none⟩) 1 1 132 3 [.int .i64 0, .int .i64 0, .int .i64 0] := Vc.Own.ofAt hn rfl (by unfold maxLen; omega)
    refine ⟨(append_own tok rfl rfl rfl rfl rfl (by decide) h1.marks g1.src (by decide) (by omega) (by unfold maxLen; omega) ?_).out⟩
    intro a2 c2 w2 g2 f2 k2
    have hmlt := h.marks.lt (b := bm) rfl
    have hmin : ∀ x, Blk (some ⟨bm, 0, none⟩) x → x = bm := fun x hx => by cases hx; rfl
    have here2 := h1.here.fr f2 (fun hx => h.bm_b (hmin _ hx).symm)
    refine St_at (i := 0) here2 rfl (by simp) (by simp only [List.set_cons_succ, List.set_cons_zero]; rfl) (fun w3 h3 f3 s3 => ?_)
    have hlo : ∀ x, Mine b bm al av x → x < w.heap.size := by
      rintro x (rfl | rfl | hx | hx)
      · exact hlt
      · exact hmlt
      · exact h.list.lt hx
      · exact h.levels.lt hx
    obtain ⟨b2, rfl⟩ := g2.some (by omega)
    have hb2 : b2 = bm ∨ w.heap.size ≤ b2 := by
      rcases k2 with hk | ⟨b', hk, hb'⟩
      · cases hk; exact .inl rfl
      · cases hk; right; omega
    have hb2' : b2 ≠ b := by
      rcases hb2 with rfl | hb2
      · exact h.bm_b
      · omega
    have hraw : Raw w3 b (n + 1) D E b2 c2 al cl av cv := by
      refine ⟨h.inv.grow (by omega), h3, ?_, ?_, ?_, hb2', ?_, ?_⟩
      · have := g2.fr f3 (fun x hx => by cases hx; exact hb2')
        have e : rows (markOf E) (n + 1) ++ [.int .i64 0, .int .i64 0, .int .i64 0] = rows (markOf E) (n + 1 + 1) := by
          rw [rows_succ (markOf E) (n + 1)]
          congr 1
          have : markOf E (n + 1) = (0, 0, 0) := by
            unfold markOf; rw [h.inv.above (by omega)]
          rw [this]; rfl
        rw [e] at this
        exact this
      · exact (h1.list.fr f2 (fun x hx hb => (h.al_b x hx).2 (hmin _ hb))).fr f3 (fun x hx hb => (h.al_b x hx).1 hb)
      · exact (h1.levels.fr f2 (fun x hx hb => (h.av_b x hx).2.1 (hmin _ hb))).fr f3 (fun x hx hb => (h.av_b x hx).1 hb)
      · intro x hx
        have := hlo x (.inr (.inr (.inl hx)))
        refine ⟨(h.al_b x hx).1, fun hb => ?_⟩
        rcases hb2 with rfl | hb2
        · exact (h.al_b x hx).2 hb
        · omega
      · intro x hx
        have := hlo x (.inr (.inr (.inr hx)))
        refine ⟨(h.av_b x hx).1, fun hb => ?_, (h.av_b x hx).2.2⟩
        rcases hb2 with rfl | hb2
        · exact (h.av_b x hx).2.1 hb
        · omega
    refine Call_of (trailVars hraw) ?_
    rintro _ _ ⟨rfl, rfl⟩
    refine Ret_in (.inr ⟨by omega, rfl, Mine b b2 al av, ⟨_, _, _, _, _, _, hraw, fun _ h => h⟩, ?_, ?_⟩)
    · exact (f1.none.trans' f2 (fun x _ hx => .inr (.inl (hmin _ hx)))).trans' f3 (fun x _ hx => .inl hx)
    · rintro x (rfl | rfl | hx | hx)
      · exact .inl (.inl rfl)
      · rcases hb2 with rfl | hb2
        · exact .inl (.inr (.inl rfl))
        · exact .inr hb2
      · exact .inl (.inr (.inr (.inl hx)))
      · exact .inl (.inr (.inr (.inr hx)))

theorem After.mono {S S2 : Nat → Prop} {w' : World} (h : After w S w' b n D E) (hs : ∀ x, S x → S2 x) : After w S2 w' b n D E := by
  obtain ⟨S', h1, h2, h3⟩ := h
  exact ⟨S', h1, h2.mono (fun x _ hx => hs x hx), fun x hx => (h3 x hx).imp (hs x) id⟩

theorem trailSet (l r : Int) (h : Raw w b n D E bm cm al cl av cv) : Does Tryz.prog 96 #[.pointer (some ⟨b, 0, none⟩), .int .i32 l, .int .i64 r] w fun v w' =>
    (freeNo n E l ≠ 0 ∧ v = .int .i64 (freeNo n E l) ∧ w = w') ∨ (freeNo n E l = 0 ∧ v = .int .i64 0 ∧ After w (Mine b bm al av) w' b n D (E ++ [⟨l, D, r⟩])) := by
  refine Does_intro tok (Tryz.call96 _ _) Tryz.func96 rfl (by rfl) ?_
  refine Call_of (trailFree l h) ?_
  rintro _ _ ⟨rfl, rfl⟩
  refine Br_ne (fun k => ?_) (fun k => ?_)
  · exact Ret_in (.inl ⟨k, rfl, rfl⟩)
  · have hfree : (0 < var l ∧ var l ≤ n) ∧ find E (var l) = none := by
      unfold freeNo at k
      split at k
      · rename_i h1
        split at k
        · rename_i h2; exact ⟨h1, h2⟩
        · omega
      · omega
    obtain ⟨hvl, hfn⟩ := hfree
    have hlit := var_pos.1 hvl.1
    have hn := h.inv.vars
    have hlen := h.inv.len
    refine Call_of (trailOf l h) ?_
    rintro _ _ ⟨rfl, rfl⟩
    rw [if_pos hvl]
    refine Call_of (trailDepth h) ?_
    rintro _ _ ⟨rfl, rfl⟩
    have hmin : ∀ x, Blk (some ⟨bm, 0, none⟩) x → x = bm := fun x hx => by cases hx; rfl
    have hlt := h.here.lt
    have hmlt := h.marks.lt (b := bm) rfl
    -- the mark
    refine StN_own (o := var l * 3) (xs' := rows (fun v => if v = var l then (1, (D : Int), r) else markOf E v) (n + 1)) h.marks (by intro v hv; simp at hv; rcases hv with rfl | rfl | rfl <;> rfl) (by rw [rows_len]; simp; omega) ?_ (fun w1 m1 f1 s1 => ?_)
    · have := rows_put (f := markOf E) (g := fun v => if v = var l then (1, (D : Int), r) else markOf E v) (n := n + 1) (v := var l) (by omega) (by intro u _ hu; simp [hu])
      simpa [mk3] using this
    have hend : ∀ w2, Vc.Own w2 (some ⟨bm, 0, none⟩) (n + 1) cm 132 3 (rows (markOf (E ++ [⟨l, D, r⟩])) (n + 1)) → Fr (fun x => x = bm) w w2 → ∀ v, ∀ w3 bl, bl = w2.heap.size → At w3 bl 29 [.int .i32 l] → Fr (fun _ => False) w2 w3 → ∀ a4 c4 w4, Vc.Own w4 a4 (E.length + 1) c4 29 1 (litsV E ++ [.int .i32 l]) → Fr (Blk al) w3 w4 → (a4 = al ∨ ∃ b, a4 = some ⟨b, 0, none⟩ ∧ w3.heap.size ≤ b) →
        ∀ w5, At w5 b 112 [.slice (some ⟨bm, 0, none⟩) (n + 1) cm, .slice a4 (E.length + 1) c4, .slice av D cv] → Fr (fun x => x = b) w4 w5 → v = Value.int .i64 0 →
        After w (Mine b bm al av) w5 b n D (E ++ [⟨l, D, r⟩]) := by
      intro w2 m2 f2 v w3 bl ebl hbl f3 a4 c4 w4 g4 f4 k4 w5 h5 f5 hv
      have hsz := f2.size
      have hsz3 := f3.size
      have hfresh : ∀ x, Blk a4 x → Blk al x ∨ w.heap.size ≤ x := by
        intro x hx
        rcases k4 with rfl | ⟨b', rfl, hb'⟩
        · exact .inl hx
        · cases hx; right; omega
      have hmm : ∀ x, Blk al x → x < w.heap.size := fun x hx => h.list.lt hx
      have hvv : ∀ x, Blk av x → x < w.heap.size := fun x hx => h.levels.lt hx
      have el : (E ++ [(⟨l, D, r⟩ : Ent)]).length = E.length + 1 := by simp
      refine ⟨Mine b bm a4 av, ⟨bm, cm, a4, c4, av, cv, ⟨h.inv.set hlit hvl.2 hfn, by rw [el]; exact h5, ?_, ?_, ?_, h.bm_b, ?_, ?_⟩, fun _ h => h⟩, ?_, ?_⟩
      · exact ((m2.fr f3 (fun _ _ h => h)).fr f4 (fun x hx hb => by rw [hmin x hx] at hb; exact (h.al_b _ hb).2 rfl)).fr f5 (fun x hx hb => by rw [hmin x hx] at hb; exact h.bm_b hb)
      · have := g4.fr f5 (fun x hx hb => by
          rcases hfresh x hx with hx' | hx'
          · exact (h.al_b x hx').1 hb
          · omega)
        rw [el]
        have e : litsV (E ++ [(⟨l, D, r⟩ : Ent)]) = litsV E ++ [.int .i32 l] := by simp [litsV]
        rw [e]; exact this
      · rw [levs_set]
        exact (((h.levels.fr f2 (fun x hx hb => (h.av_b x hx).2.1 hb)).fr f3 (fun _ _ h => h)).fr f4 (fun x hx hb => (h.av_b x hx).2.2 hb)).fr f5 (fun x hx hb => (h.av_b x hx).1 hb)
      · intro x hx
        rcases hfresh x hx with hx' | hx'
        · exact h.al_b x hx'
        · exact ⟨by omega, by omega⟩
      · intro x hx
        refine ⟨(h.av_b x hx).1, (h.av_b x hx).2.1, fun hb => ?_⟩
        have := hvv x hx
        rcases hfresh x hb with hx' | hx'
        · exact (h.av_b x hx).2.2 hx'
        · omega
      · have t1 : Fr (Mine b bm al av) w w2 := f2.mono (fun x _ hx => .inr (.inl hx))
        have t2 := t1.trans' f3 (fun x _ hx => hx.elim)
        have t3 := t2.trans' f4 (fun x _ hx => .inr (.inr (.inl hx)))
        exact t3.trans' f5 (fun x _ hx => .inl hx)
      · rintro x (hx | hx | hx | hx)
        · exact .inl (.inl hx)
        · exact .inl (.inr (.inl hx))
        · rcases hfresh x hx with hx' | hx'
          · exact .inl (.inr (.inr (.inl hx')))
          · exact .inr hx'
        · exact .inl (.inr (.inr (.inr hx)))
    refine Join_dup (Br_dec (fun k2 => ?_) (fun k2 => ?_))
    · refine St_own (j := var l * 3 + 0) (xs' := rows (markOf (E ++ [⟨l, D, r⟩])) (n + 1)) m1 rfl (by rw [rows_len]; omega) ?_ (fun w2 m2 f2 s2 => ?_)
      · refine rows_set (by omega) (fun u _ hu => ?_) ?_
        · rw [mark_set hlit hfn]; simp [hu]
        · rw [mark_set hlit hfn]; simp [sgn, k2]
      · have here2 := h.here.fr (f1.trans f2) (fun hb => h.bm_b hb.symm)
        have list2 := h.list.fr (f1.trans f2) (fun x hx hb => (h.al_b x hx).2 hb)
        refine Ld_at here2 (by rfl) ?_
        refine Nw_cells (fun bl w3 e3 h3 f3 s3 => ?_)
        have here3 := here2.fr f3 (fun hb => hb)
        have list3 := list2.fr f3 (fun _ _ hb => hb)
        have one3 : Vc.Own w3 (some ⟨bl, 0, none⟩) 1 1 29 1 [.int .i32 l] := Vc.Own.ofAt h3 rfl (by unfold maxLen; omega)
        refine ⟨(append_own tok rfl rfl rfl rfl rfl (by decide) list3 one3.src (by simp [oneCell]) (by omega) (by unfold maxLen; omega) ?_).out⟩
        intro a4 c4 w4 g4 f4 k4
        have here4 := here3.fr f4 (fun hb => (h.al_b b hb).1 rfl)
        refine St_at (i := 1) here4 rfl (by simp) (by simp only [List.set_cons_succ, List.set_cons_zero]; rfl) (fun w5 h5 f5 s5 => ?_)
        exact Ret_in (.inr ⟨k, rfl, hend w2 m2 (f1.trans f2) _ w3 bl e3 h3 f3 a4 c4 w4 g4 f4 k4 w5 h5 f5 rfl⟩)
    · have em : rows (fun v => if v = var l then (1, (D : Int), r) else markOf E v) (n + 1) = rows (markOf (E ++ [⟨l, D, r⟩])) (n + 1) := by
        refine rows_congr fun v hv => ?_
        rw [mark_set hlit hfn]
        by_cases hv : v = var l
        · simp [hv, sgn, k2]
        · simp [hv]
      rw [em] at m1
      have here2 := h.here.fr f1 (fun hb => h.bm_b hb.symm)
      have list2 := h.list.fr f1 (fun x hx hb => (h.al_b x hx).2 hb)
      refine Ld_at here2 (by rfl) ?_
      refine Nw_cells (fun bl w3 e3 h3 f3 s3 => ?_)
      have here3 := here2.fr f3 (fun hb => hb)
      have list3 := list2.fr f3 (fun _ _ hb => hb)
      have one3 : Vc.Own w3 (some ⟨bl, 0, none⟩) 1 1 29 1 [.int .i32 l] := Vc.Own.ofAt h3 rfl (by unfold maxLen; omega)
      refine ⟨(append_own tok rfl rfl rfl rfl rfl (by decide) list3 one3.src (by simp [oneCell]) (by omega) (by unfold maxLen; omega) ?_).out⟩
      intro a4 c4 w4 g4 f4 k4
      have here4 := here3.fr f4 (fun hb => (h.al_b b hb).1 rfl)
      refine St_at (i := 1) here4 rfl (by simp) (by simp only [List.set_cons_succ, List.set_cons_zero]; rfl) (fun w5 h5 f5 s5 => ?_)
      exact Ret_in (.inr ⟨k, rfl, hend w1 m1 f1 _ w3 bl e3 h3 f3 a4 c4 w4 g4 f4 k4 w5 h5 f5 rfl⟩)

/-- One level deeper. -/
theorem trailDecide (l : Int) (h : Raw w b n D E bm cm al cl av cv) (hD : D ≤ 1000000) : Does Tryz.prog 87 #[.pointer (some ⟨b, 0, none⟩), .int .i32 l] w fun v w' =>
    (freeNo n E l ≠ 0 ∧ v = .int .i64 (freeNo n E l) ∧ w = w') ∨ (freeNo n E l = 0 ∧ v = .int .i64 0 ∧ After w (Mine b bm al av) w' b n (D + 1) (E ++ [⟨l, D + 1, -1⟩])) := by
  refine Does_intro tok (Tryz.call87 _ _) Tryz.func87 rfl (by rfl) ?_
  refine Call_of (trailFree l h) ?_
  rintro _ _ ⟨rfl, rfl⟩
  refine Br_ne (fun k => ?_) (fun k => ?_)
  · exact Ret_in (.inl ⟨k, rfl, rfl⟩)
  · refine Draw_intro mixed [0, 1, 2, 3, 4, 5, 6, 7, 8, 9, 10, 11, 12, 13, 14] (by decide +kernel) (fun w1 eh f1 => ?_)
    have h1 := h.fr f1 (fun _ _ h => h)
    have hlt := h.here.lt
    have hlen := h.inv.len
    have hn := h.inv.vars
    refine Ld_at h1.here (by rfl) ?_
    refine Ld_at h1.here (by rfl) ?_
    refine Nw_cells (fun bl w3 e3 h3 f3 s3 => ?_)
    have here3 := h1.here.fr f3 (fun hb => hb)
    have lev3 := h1.levels.fr f3 (fun _ _ hb => hb)
    have hr3 := h1.fr f3 (fun _ _ h => h)
    have one3 : Vc.Own w3 (some ⟨bl, 0, none⟩) 1 1 3 1 [.int .i64 E.length] := Vc.Own.ofAt h3 rfl (by unfold maxLen; omega)
    repeat (first | refine Kept_in (here3.cell 2) ?_ | refine Kept_in (here3.cell 1) ?_)
    refine ⟨(append_own tok rfl rfl rfl rfl rfl (by decide) lev3 one3.src (by simp [oneCell]) (by omega) (by unfold maxLen; omega) ?_).out⟩
    intro a4 c4 w4 g4 f4 k4
    have hsz1 := f1.size
    have hsz3 := f3.size
    have here4 := here3.fr f4 (fun hb => (h.av_b b hb).1 rfl)
    repeat (first | refine Kept_in (here4.cell 2) ?_ | refine Kept_in (here4.cell 1) ?_)
    refine St_at (i := 2) here4 rfl (by simp) (by simp only [List.set_cons_succ, List.set_cons_zero]; rfl) (fun w5 h5 f5 s5 => ?_)
    have hfresh : ∀ x, Blk a4 x → Blk av x ∨ w.heap.size ≤ x := by
      intro x hx
      rcases k4 with rfl | ⟨b', rfl, hb'⟩
      · exact .inl hx
      · cases hx; right; omega
    have hlm := h.marks.lt (b := bm) rfl
    have hmm : ∀ x, Blk al x → x < w.heap.size := fun x hx => h.list.lt hx
    have hmin : ∀ x, Blk (some ⟨bm, 0, none⟩) x → x = bm := fun x hx => by cases hx; rfl
    have hraw : Raw w5 b n (D + 1) E bm cm al cl a4 c4 := by
      refine ⟨h.inv.deeper, h5, ?_, ?_, ?_, h.bm_b, h.al_b, ?_⟩
      · exact (hr3.marks.fr f4 (fun x hx hb => by rw [hmin x hx] at hb; exact (h.av_b _ hb).2.1 rfl)).fr f5 (fun x hx hb => by rw [hmin x hx] at hb; exact h.bm_b hb)
      · exact (hr3.list.fr f4 (fun x hx hb => (h.av_b _ hb).2.2 hx)).fr f5 (fun x hx hb => (h.al_b x hx).1 hb)
      · rw [levs_succ h.inv]
        refine g4.fr f5 (fun x hx hb => ?_)
        rcases hfresh x hx with hx' | hx'
        · exact (h.av_b x hx').1 hb
        · omega
      · intro x hx
        rcases hfresh x hx with hx' | hx'
        · exact h.av_b x hx'
        · exact ⟨by omega, by omega, fun hb => by have := hmm x hb; omega⟩
    have hfr : Fr (Mine b bm al av) w w5 := ((f1.trans f3).none.trans' f4 (fun x _ hx => .inr (.inr (.inr hx)))).trans' f5 (fun x _ hx => .inl hx)
    refine Call_of (trailSet l (-1) hraw) ?_
    rintro v w6 (⟨k6, rfl, rfl⟩ | ⟨k6, rfl, h6⟩)
    · exact absurd k k6
    · refine Ret_in (.inr ⟨k, rfl, ?_⟩)
      obtain ⟨S', t6, f6, hs6⟩ := h6
      refine ⟨S', t6, hfr.trans' f6 ?_, ?_⟩
      · rintro x hx (hm | hm | hm | hm)
        · exact .inl hm
        · exact .inr (.inl hm)
        · exact .inr (.inr (.inl hm))
        · rcases hfresh x hm with hm' | hm'
          · exact .inr (.inr (.inr hm'))
          · omega
      · intro x hx
        have hsz := hfr.size
        rcases hs6 x hx with (hm | hm | hm | hm) | hm
        · exact .inl (.inl hm)
        · exact .inl (.inr (.inl hm))
        · exact .inl (.inr (.inr (.inl hm)))
        · exact (hfresh x hm).imp (fun h => .inr (.inr (.inr h))) id
        · exact .inr (by omega)

theorem trailNew (m : Int) (w : World) : Does Tryz.prog 36 #[.int .i64 m] w fun v w' =>
    ∃ b S, v = .pointer (some ⟨b, 0, none⟩) ∧ TrailAt w' S b (max 0 (min m 262144)).toNat 0 [] ∧ Fr (fun _ => False) w w' ∧ ∀ x, S x → w.heap.size ≤ x := by
  refine Does_intro tok (Tryz.call36 _ _) Tryz.func36 rfl (by rfl) ?_
  refine Eqv_in (Eqv_in ?_)
  obtain ⟨n, hn⟩ : ∃ n : Nat, max 0 (min m 262144) = n := ⟨(max 0 (min m 262144)).toNat, by omega⟩
  rw [hn, Int.toNat_natCast]
  refine Ar_i64 (by omega) (by omega) ?_
  refine Do_make tok rfl rfl rfl rfl rfl (by decide) (n + 1) (n + 1) (by omega) (by omega) (by omega) (by omega) (by unfold maxLen; omega) (fun bm w1 e1 h1 f1 s1 => ?_)
  refine Nw_cells (fun b w2 e2 h2 f2 s2 => ?_)
  have hz : zcells [.int .i64 0, .int .i64 0, .int .i64 0] (n + 1) = rows (markOf []) (n + 1) := by
    have : ∀ k, zcells [.int .i64 0, .int .i64 0, .int .i64 0] k = rows (markOf []) k := by
      intro k
      induction k with
      | zero => rfl
      | succ k ih => rw [rows_succ, zcells, ih]; rfl
    exact this _
  have m2 := h1.fr f2 (fun _ _ h => h)
  refine Ret_in ⟨b, fun x => x = b ∨ x = bm, rfl, ⟨bm, n + 1, none, 0, none, 0, ⟨⟨by omega, by simp, .nil, .nil⟩, h2, ?_, Vc.Own.nil _ _ _, Vc.Own.nil _ _ _, by omega, (fun x hx => by cases hx), (fun x hx => by cases hx)⟩, ?_⟩, f1.trans f2, ?_⟩
  · rw [← hz]; exact m2
  · rintro x (h | h | h | h)
    · exact .inl h
    · exact .inr h
    · cases h
    · cases h
  · rintro x (rfl | rfl) <;> omega

theorem clone (a : Option Addr) (m c : Nat) (ys : List Value) (w : World) (h : Src w a m 1 ys) (h1 : ∀ u ∈ ys, oneCell u = true) (hm : m ≤ 1000000000) : Does Tryz.prog 32 #[.slice a m c] w fun v w' =>
    ∃ a' c', v = .slice a' m c' ∧ Vc.Own w' a' m c' 29 1 ys ∧ Fr (fun _ => False) w w' ∧ ∀ x, Blk a' x → w.heap.size ≤ x := by
  refine Does_intro tok (Tryz.call32 _ _) Tryz.func32 rfl (by rfl) ?_
  refine Do_slice_eq_nil tok rfl ?_
  cases a with
  | none =>
    refine Br_true ?_
    have hm0 : m = 0 := by
      have hl := h.1
      cases m with
      | zero => rfl
      | succ m =>
        have hlt : 0 < ys.length := by omega
        obtain ⟨p, hp, _⟩ := h.2 0 _ (List.getElem?_eq_getElem hlt)
        cases hp
    subst hm0
    have : ys = [] := List.length_eq_zero_iff.1 (by have := h.1; omega)
    subst this
    exact Ret_in ⟨none, 0, rfl, Vc.Own.nil _ _ _, Fr.refl _ _, fun x hx => by cases hx⟩
  | some p =>
    refine Br_false ?_
    refine Nw_cells (fun b1 w1 e1 h2 f1 s1 => ?_)
    have hp : ∀ q, some p = some q → q.block < w.heap.size ∨ m = 0 := by
      intro q hq
      cases hq
      cases m with
      | zero => exact .inr rfl
      | succ m =>
        have hlt : 0 < ys.length := by have := h.1; omega
        have hc := h.cell (List.getElem?_eq_getElem hlt)
        left
        rcases Nat.lt_or_ge p.block w.heap.size with h' | h'
        · exact h'
        · unfold World.cell? at hc
          have hb : (p.add 0).block = p.block := by unfold Addr.add; split <;> rfl
          rw [hb, Array.getElem?_eq_none h'] at hc; cases hc
    have src1 := h.fr f1 (fun _ _ h => h)
    have g1 : Vc.Own w1 (some ⟨b1, 0, none⟩) 0 0 29 1 [] := Vc.Own.ofAt h2 rfl (by unfold maxLen; omega)
    refine ⟨(append_own tok rfl rfl rfl rfl rfl (by decide) g1 src1 h1 (by omega) (by unfold maxLen; omega) ?_).out⟩
    intro a2 c2 w2 g2 f2 k2
    simp only [Nat.zero_add, List.nil_append] at g2 ⊢
    refine Ret_in ⟨a2, c2, rfl, g2, f1.trans' f2 (fun x hx hb => by cases hb; omega), ?_⟩
    intro x hx
    rcases k2 with rfl | ⟨b', rfl, hb'⟩
    · cases hx; omega
    · cases hx; omega

/-- A row turned round. -/
def swapped (zs : List Value) (i : Nat) : List Value := zs.reverse.take i ++ (zs.drop i).take (zs.length - 2 * i) ++ zs.reverse.drop (zs.length - i)

theorem swapped_len {zs : List Value} {i : Nat} (h : 2 * i ≤ zs.length) : (swapped zs i).length = zs.length := by simp [swapped]; omega

theorem swapped_get {zs : List Value} {i j : Nat} (h : 2 * i ≤ zs.length) (hj : j < zs.length) : (swapped zs i)[j]? = if j < i ∨ zs.length - i ≤ j then zs[zs.length - 1 - j]? else zs[j]? := by
  unfold swapped
  by_cases h1 : j < i
  · rw [if_pos (.inl h1), List.append_assoc, List.getElem?_append_left (by simp; omega), List.getElem?_take, if_pos h1, List.getElem?_reverse hj]
  · by_cases h2 : zs.length - i ≤ j
    · rw [if_pos (.inr h2), List.getElem?_append_right (by simp; omega), List.getElem?_drop]
      have : zs.length - i + (j - (zs.reverse.take i ++ (zs.drop i).take (zs.length - 2 * i)).length) = j := by simp; omega
      rw [this, List.getElem?_reverse hj]
    · rw [if_neg (by omega), List.getElem?_append_left (by simp; omega), List.getElem?_append_right (by simp; omega), List.getElem?_take, if_pos (by simp; omega), List.getElem?_drop]
      congr 1
      simp; omega

theorem swapped_next {zs : List Value} {i : Nat} {x y : Value} (h : 2 * i + 1 < zs.length) (hx : zs[i]? = some x) (hy : zs[zs.length - 1 - i]? = some y) :
    ((swapped zs i).set i y).set (zs.length - 1 - i) x = swapped zs (i + 1) := by
  apply List.ext_getElem?
  intro j
  by_cases hj : j < zs.length
  · rw [swapped_get (by omega) hj, List.getElem?_set, List.getElem?_set, List.length_set, swapped_len (by omega), swapped_get (by omega) hj]
    by_cases h1 : zs.length - 1 - i = j
    · rw [if_pos h1, if_pos (by omega), if_pos (by omega), ← hx]; congr 1; omega
    · rw [if_neg h1]
      by_cases h2 : i = j
      · rw [if_pos h2, if_pos (by omega), if_pos (by omega), ← hy]; congr 1; omega
      · rw [if_neg h2]
        by_cases h3 : j < i ∨ zs.length - i ≤ j
        · rw [if_pos h3, if_pos (by omega)]
        · rw [if_neg h3, if_neg (by omega)]
  · rw [List.getElem?_eq_none (by simp [swapped_len (show 2 * i ≤ zs.length by omega)]; omega), List.getElem?_eq_none (by rw [swapped_len (by omega)]; omega)]

theorem swapped_all {zs : List Value} {i : Nat} (h : 2 * i ≤ zs.length) (h2 : zs.length ≤ 2 * i + 1) : swapped zs i = zs.reverse := by
  apply List.ext_getElem?
  intro j
  by_cases hj : j < zs.length
  · rw [swapped_get h hj, List.getElem?_reverse hj]
    split
    · rfl
    · congr 1; omega
  · rw [List.getElem?_eq_none (by rw [swapped_len h]; omega), List.getElem?_eq_none (by simp; omega)]

theorem reverse (a : Option Addr) (m c : Nat) (zs : List Value) (w : World) (h : Vc.Own w a m c 29 1 zs) (hone : ∀ u ∈ zs, ∃ x, u = .int .i32 x) (hm : m ≤ 1000000000) : Does Tryz.prog 115 #[.slice a m c] w fun v w' =>
    Vc.Own w' a m c 29 1 zs.reverse ∧ Fr (Blk a) w w' := by
  have hl : zs.length = m := by have := h.1; omega
  refine Does_intro tok (Tryz.call115 _ _) Tryz.func115 rfl (by rfl) ?_
  (repeat (first | refine Br_true ?_ | refine Br_false ?_ | refine Ar_i64 (by omega) (by omega) ?_ | refine Eqv_in ?_ | refine Br_dec_yes (by omega) ?_ | refine Br_dec_no (by omega) ?_ | refine Br_eq_yes rfl ?_ | refine Br_ne_no rfl ?_ | refine Br_eq_yes (by omega) ?_ | refine Br_eq_no (by omega) ?_ | refine Br_ne_yes (by omega) ?_ | refine Br_ne_no (by omega) ?_ | refine Br_not ?_ | refine Join_dup (Br_dec_yes (by omega) ?_) | refine Join_dup (Br_dec_no (by omega) ?_) | refine Join_dup (Br_eq_yes (by omega) ?_) | refine Join_dup (Br_eq_no (by omega) ?_) | refine Join_dup (Br_ne_yes (by omega) ?_) | refine Join_dup (Br_ne_no (by omega) ?_) | refine Ar_i32 (by omega) (by omega) ?_ | refine Ar_u64 (by omega) (by omega) ?_ | refine Ar_u32 (by omega) (by omega) ?_ | refine Nn_in (by omega) ?_ | refine Nz_in (by omega) ?_))
  refine Loop_intro (fun i : Nat => [(2, .int .i64 i), (3, .int .i64 ((m : Int) - 1 - i))]) (fun i w' => Vc.Own w' a m c 29 1 (swapped zs i) ∧ Fr (Blk a) w w' ∧ 2 * i ≤ m) (fun i => m - i) 0 ⟨rfl, ?_, trivial⟩ ⟨?_, Fr.refl _ _, by omega⟩ ?_
  · exact congrArg some (vint (by omega))
  · have : swapped zs 0 = zs := by simp [swapped]
    rw [this]; exact h
  rintro i w1 ⟨h1, f1, hi⟩
  refine Br_dec (fun k => ?_) (fun k => ?_)
  · refine Draw_intro mixed [0, 1, 2, 3, 4, 5, 6, 7, 8, 9, 10, 11, 12, 13, 14, 15] (by decide +kernel) (fun w2 eh f2 => ?_)
    have h2 := h1.fr f2 (fun _ _ h => h)
    obtain ⟨b, rfl⟩ := h.some (by omega)
    have hgx : (swapped zs i)[i]? = zs[i]? := by rw [swapped_get (by omega) (by omega), if_neg (by omega)]
    have hgy : (swapped zs i)[m - 1 - i]? = zs[m - 1 - i]? := by rw [swapped_get (by omega) (by omega), if_neg (by omega)]
    obtain ⟨x, hx⟩ := hone (zs[i]'(by omega)) (List.getElem_mem _)
    obtain ⟨y, hy⟩ := hone (zs[m - 1 - i]'(by omega)) (List.getElem_mem _)
    have ex := List.getElem?_eq_getElem (l := zs) (i := i) (by omega)
    have ey := List.getElem?_eq_getElem (l := zs) (i := m - 1 - i) (by omega)
    rw [hx] at ex
    rw [hy] at ey
    refine Ix_in (m - 1 - i) (by omega) (by omega) ?_
    refine Ld_own h2 (hgy.trans ey) ?_
    refine Ix_in i rfl (by omega) ?_
    refine Ld_own h2 (hgx.trans ex) ?_
    refine Ix_in i rfl (by omega) ?_
    refine St_own (j := i) h2 rfl (by rw [swapped_len (show 2 * i ≤ zs.length by omega)]; omega) rfl (fun w3 h3 f3 s3 => ?_)
    refine Ix_in (m - 1 - i) (by omega) (by omega) ?_
    refine St_own (j := m - 1 - i) h3 rfl (by rw [List.length_set, swapped_len (show 2 * i ≤ zs.length by omega)]; omega) rfl (fun w4 h4 f4 s4 => ?_)
    have hsw : ((swapped zs i).set i (.int .i32 y)).set (m - 1 - i) (.int .i32 x) = swapped zs (i + 1) := by
      have := swapped_next (zs := zs) (i := i) (x := .int .i32 x) (y := .int .i32 y) (by omega) ex (by rw [hl]; exact ey)
      rw [hl] at this; exact this
    rw [hsw] at h4
    (repeat (first | refine Br_true ?_ | refine Br_false ?_ | refine Ar_i64 (by omega) (by omega) ?_ | refine Eqv_in ?_ | refine Br_dec_yes (by omega) ?_ | refine Br_dec_no (by omega) ?_ | refine Br_eq_yes rfl ?_ | refine Br_ne_no rfl ?_ | refine Br_eq_yes (by omega) ?_ | refine Br_eq_no (by omega) ?_ | refine Br_ne_yes (by omega) ?_ | refine Br_ne_no (by omega) ?_ | refine Br_not ?_ | refine Join_dup (Br_dec_yes (by omega) ?_) | refine Join_dup (Br_dec_no (by omega) ?_) | refine Join_dup (Br_eq_yes (by omega) ?_) | refine Join_dup (Br_eq_no (by omega) ?_) | refine Join_dup (Br_ne_yes (by omega) ?_) | refine Join_dup (Br_ne_no (by omega) ?_) | refine Ar_i32 (by omega) (by omega) ?_ | refine Ar_u64 (by omega) (by omega) ?_ | refine Ar_u32 (by omega) (by omega) ?_ | refine Nn_in (by omega) ?_ | refine Nz_in (by omega) ?_))
    exact ⟨i + 1, ⟨congrArg some (vint (by omega)), congrArg some (vint (by omega)), trivial⟩, ⟨h4, ((f1.trans' f2 (fun _ _ h => h.elim)).trans' f3 (fun x _ hx => by rw [hx]; rfl)).trans' f4 (fun x _ hx => by rw [hx]; rfl), by omega⟩, by omega⟩
  · rw [swapped_all (by omega) (by omega)] at h1
    exact Ret_in ⟨h1, f1⟩

/-- Back to a level. -/
theorem trailBack (k : Int) (h : Raw w b n D E bm cm al cl av cv) : Does Tryz.prog 91 #[.pointer (some ⟨b, 0, none⟩), .int .i64 k] w fun v w' =>
    ((k < 0 ∨ (D : Int) < k) ∧ v = .tuple #[.slice none 0 0, .int .i64 41] ∧ w = w') ∨ (k = D ∧ v = .tuple #[.slice none 0 0, .int .i64 0] ∧ w = w') ∨
    (0 ≤ k ∧ k < D ∧ ∃ a c, v = .tuple #[.slice a (E.length - cnt E k.toNat) c, .int .i64 0] ∧ Vc.Own w' a (E.length - cnt E k.toNat) c 29 1 (litsV (E.drop (cnt E k.toNat))).reverse ∧ (∀ x, Blk a x → w.heap.size ≤ x) ∧
      ∃ S', TrailAt w' S' b n k.toNat (upto E k.toNat) ∧ Fr (Mine b bm al av) w w' ∧ ∀ x, S' x → Mine b bm al av x) := by
  refine Does_intro tok (Tryz.call91 _ _) Tryz.func91 rfl (by rfl) ?_
  refine Br_dec (fun k1 => ?_) (fun k1 => ?_)
  · (repeat (first | refine Br_true ?_ | refine Br_false ?_))
    exact Ret_in (.inl ⟨by omega, rfl, rfl⟩)
  (repeat (first | refine Br_true ?_ | refine Br_false ?_))
  refine Call_of (trailDepth h) ?_
  rintro _ _ ⟨rfl, rfl⟩
  (repeat (first | refine Br_true ?_ | refine Br_false ?_))
  refine Br_dec (fun k2 => ?_) (fun k2 => ?_)
  · exact Ret_in (.inl ⟨by omega, rfl, rfl⟩)
  refine Call_of (trailDepth h) ?_
  rintro _ _ ⟨rfl, rfl⟩
  refine Br_eq (fun k3 => ?_) (fun k3 => ?_)
  · exact Ret_in (.inr (.inl ⟨k3, rfl, rfl⟩))
  obtain ⟨j, rfl⟩ : ∃ j : Nat, k = j := ⟨k.toNat, by omega⟩
  simp only [Int.toNat_natCast]
  have hlen := h.inv.len
  have hn := h.inv.vars
  have hcl := cnt_le E j
  obtain ⟨bv, rfl⟩ := h.levels.some (by omega)
  refine Ld_at h.here (by rfl) ?_
  refine Ix_in j rfl (by omega) ?_
  refine Ld_own h.levels (levs_get (by omega)) ?_
  refine Ld_at h.here (by rfl) ?_
  refine Do_slice tok rfl rfl (cnt E j) E.length (.inr ⟨_, rfl⟩) (.inl ⟨rfl, rfl⟩) hcl h.list.2.1 ?_
  have src := h.list.src.drop (cap := cl) hcl h.list.2.1
  refine Call_of (clone _ _ _ _ _ src ?_ (by omega)) ?_
  · intro u hu
    have := List.mem_of_mem_drop hu
    simp only [litsV, List.mem_map] at this
    obtain ⟨x, _, rfl⟩ := this; rfl
  rintro _ w1 ⟨a, c, rfl, g1, f1, hf1⟩
  rw [Nat.mul_one, lits_drop] at g1
  have hG : (litsV (E.drop (cnt E j))).reverse = litsV (E.drop (cnt E j)).reverse := by simp [litsV]
  refine Call_of (reverse _ _ _ _ _ g1 ?_ (by omega)) ?_
  · intro u hu
    simp only [litsV, List.mem_map] at hu
    obtain ⟨x, _, rfl⟩ := hu; exact ⟨_, rfl⟩
  rintro _ w2 ⟨g2, f2⟩
  have fall : Fr (fun _ => False) w w2 := f1.trans' f2 (fun x hx hb => by have := hf1 x hb; omega)
  have h2 := h.fr fall (fun _ _ h => h)
  have hlt := h.here.lt
  have hmlt := h.marks.lt (b := bm) rfl
  have hmin : ∀ x, Blk (some ⟨bm, 0, none⟩) x → x = bm := fun x hx => by cases hx; rfl
  generalize hGd : (E.drop (cnt E j)).reverse = G at *
  have hGl : G.length = E.length - cnt E j := by rw [← hGd]; simp
  have hGm : ∀ x ∈ G, x ∈ E := by
    intro x hx
    rw [← hGd] at hx
    exact List.mem_of_mem_drop (List.mem_reverse.1 hx)
  rw [hG] at g2
  have hal : ∀ x, Blk al x → x < w.heap.size := fun x hx => h.list.lt hx
  refine Loop_intro (fun i : Nat => [(40, .int .i64 i)]) (fun i w' => Vc.Own w' (some ⟨bm, 0, none⟩) (n + 1) cm 132 3 (rows (wiped E (G.take i)) (n + 1)) ∧ Fr (fun x => x = bm) w2 w' ∧ i ≤ G.length) (fun i => G.length - i) 0 ⟨rfl, trivial⟩ ⟨?_, Fr.refl _ _, by omega⟩ ?_
  · rw [List.take_zero, wiped_nil]; exact h2.marks
  rintro i w3 ⟨m3, f3, hi⟩
  have hbm2 : bm < w2.heap.size := by have := fall.size; omega
  have hne : ∀ x, Blk a x → x ≠ bm := fun x hx => by have := hf1 x hx; omega
  have here3 := h2.here.fr f3 (fun hb => h.bm_b hb.symm)
  have g3 := g2.fr f3 (fun x hx => hne x hx)
  refine Br_dec (fun k4 => ?_) (fun k4 => ?_)
  · have hig : i < G.length := by omega
    obtain ⟨ba, rfl⟩ := g2.some (by omega)
    refine Ix_in i rfl (by omega) ?_
    refine Ld_own g3 (lits_get (List.getElem?_eq_getElem hig)) ?_
    refine Call_of (trailOfAt _ here3 hn) ?_
    rintro _ _ ⟨rfl, rfl⟩
    have hx := h.inv.ok _ (hGm _ (List.getElem_mem hig))
    have hvp := var_pos.2 hx.1
    rw [if_pos (show 0 < var G[i].lit ∧ var G[i].lit ≤ n from ⟨hvp, hx.2.1⟩)]
    refine StN_own (o := var G[i].lit * 3) (xs' := rows (wiped E (G.take (i + 1))) (n + 1)) m3 (by intro v hv; simp at hv; rcases hv with rfl | rfl | rfl <;> rfl) (by rw [rows_len]; simp; omega) ?_ (fun w4 m4 f4 s4 => ?_)
    · have ht : G.take (i + 1) = G.take i ++ [G[i]] := by rw [List.take_add_one, List.getElem?_eq_getElem hig]; rfl
      have hw : wiped E (G.take (i + 1)) (var G[i].lit) = (0, 0, 0) := by rw [ht, wiped_next, if_pos rfl]
      have := rows_put (f := wiped E (G.take i)) (g := wiped E (G.take (i + 1))) (n := n + 1) (v := var G[i].lit) (by omega) (by
        intro u _ hu
        rw [ht, wiped_next, if_neg hu])
      rw [hw] at this
      exact this
    · (repeat (first | refine Br_true ?_ | refine Br_false ?_ | refine Ar_i64 (by omega) (by omega) ?_ | refine Eqv_in ?_ | refine Br_dec_yes (by omega) ?_ | refine Br_dec_no (by omega) ?_ | refine Br_eq_yes rfl ?_ | refine Br_ne_no rfl ?_ | refine Br_eq_yes (by omega) ?_ | refine Br_eq_no (by omega) ?_ | refine Br_ne_yes (by omega) ?_ | refine Br_ne_no (by omega) ?_ | refine Br_not ?_ | refine Join_dup (Br_dec_yes (by omega) ?_) | refine Join_dup (Br_dec_no (by omega) ?_) | refine Join_dup (Br_eq_yes (by omega) ?_) | refine Join_dup (Br_eq_no (by omega) ?_) | refine Join_dup (Br_ne_yes (by omega) ?_) | refine Join_dup (Br_ne_no (by omega) ?_) | refine Ar_i32 (by omega) (by omega) ?_ | refine Ar_u64 (by omega) (by omega) ?_ | refine Ar_u32 (by omega) (by omega) ?_ | refine Nn_in (by omega) ?_ | refine Nz_in (by omega) ?_))
      exact ⟨i + 1, ⟨congrArg some (vint (by omega)), trivial⟩, ⟨m4, f3.trans f4, by omega⟩, by omega⟩
  · obtain rfl : i = G.length := by omega
    have em : rows (wiped E (G.take G.length)) (n + 1) = rows (markOf (upto E j)) (n + 1) := by
      refine rows_congr fun v _ => ?_
      rw [List.take_length, ← hGd, wiped_all h.inv]
    rw [em] at m3
    refine Draw_intro mixed [0, 1, 2, 3, 4, 5, 6, 7, 8, 9, 10, 11, 12, 13, 14, 15, 16, 17, 18, 19] (by decide +kernel) (fun w4 eh f4 => ?_)
    have here4 := here3.fr f4 (fun h => h)
    refine Ld_at here4 (by rfl) ?_
    refine DoS_slice tok rfl rfl 0 (cnt E j) (.inl ⟨rfl, rfl⟩) (.inr ⟨_, rfl⟩) (by omega) (by have := h.list.2.1; omega) (fun J1 hJ1 => ?_)
    refine Ld_at here4 (by rfl) ?_
    refine DoS_slice tok rfl rfl 0 j (.inl ⟨rfl, rfl⟩) (.inr ⟨_, rfl⟩) (by omega) (by have := h.levels.2.1; omega) (fun J2 hJ2 => ?_)
    rw [add_zero_map, add_zero_map]
    refine St_at (i := 1) here4 rfl (by simp) (by simp only [List.set_cons_succ, List.set_cons_zero]; rfl) (fun w5 h5 f5 s5 => ?_)
    repeat (first | refine Kept_in (hJ1 _) ?_ | refine Kept_in (hJ2 _) ?_ | refine Kept_in (h5.cell 2) ?_)
    refine St_at (i := 2) h5 rfl (by simp) (by simp only [List.set_cons_succ, List.set_cons_zero]; rfl) (fun w6 h6 f6 s6 => ?_)
    repeat (first | refine Kept_in (hJ1 _) ?_ | refine Kept_in (hJ2 _) ?_)
    have hsz := fall.size
    have hbb : ∀ x, Blk a x → x ≠ b := fun x hx => by have := hf1 x hx; omega
    refine Ret_in (.inr (.inr ⟨by omega, by omega, a, c, rfl, ?_, hf1, Mine b bm al (some ⟨bv, 0, none⟩), ⟨bm, cm, al, cl, some ⟨bv, 0, none⟩, cv, ⟨h.inv.back j, h6, ?_, ?_, ?_, h.bm_b, h.al_b, h.av_b⟩, fun _ h => h⟩, ?_, fun _ h => h⟩))
    · rw [hG]
      exact ((g3.fr f4 (fun _ _ h => h)).fr f5 (fun x hx => hbb x hx)).fr f6 (fun x hx => hbb x hx)
    · exact ((m3.fr f4 (fun _ _ h => h)).fr f5 (fun x hx hb => by rw [hmin x hx] at hb; exact h.bm_b hb)).fr f6 (fun x hx hb => by rw [hmin x hx] at hb; exact h.bm_b hb)
    · have l2 := ((((h2.list.cut (k := cnt E j) hcl).fr f3 (fun x hx hb => (h.al_b x hx).2 hb)).fr f4 (fun _ _ h => h)).fr f5 (fun x hx => (h.al_b x hx).1)).fr f6 (fun x hx => (h.al_b x hx).1)
      rw [Nat.mul_one, ← lits_back h.inv.rise] at l2
      exact l2
    · have l2 := ((((h2.levels.cut (k := j) (by omega)).fr f3 (fun x hx hb => (h.av_b x hx).2.1 hb)).fr f4 (fun _ _ h => h)).fr f5 (fun x hx => (h.av_b x hx).1)).fr f6 (fun x hx => (h.av_b x hx).1)
      rw [Nat.mul_one, ← levs_back (by omega)] at l2
      exact l2
    · exact (((fall.none.trans' f3 (fun x _ hx => .inr (.inl hx))).trans' f4 (fun _ _ h => h.elim)).trans' f5 (fun x _ hx => .inl hx)).trans' f6 (fun x _ hx => .inl hx)

end
end Go.Proofs.YtcibiidebknkgaaGreat
