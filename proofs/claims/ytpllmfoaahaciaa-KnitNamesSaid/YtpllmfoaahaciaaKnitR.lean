/- The document's answer: formulas. -/
import Derived.Test.YtpllmfoaahaciaaKnitZ
namespace Go.Knit
open Go.Gate Go.Proofs.Ytpllmfoaahaciaa
/-- Where the first clause stands that doesn't hold; -1: there is none. -/
def atP (M : List Bool) (C : List (List Int)) : Int := match C.findIdx? (fun c => !c.any (hold M)) with
  | some i => i
  | none => -1
theorem atP_all {M : List Bool} {C : List (List Int)} (h : ∀ c ∈ C, c.any (hold M) = true) : atP M C = -1 := by
  unfold atP
  have : C.findIdx? (fun c => !c.any (hold M)) = none := by
    rw [List.findIdx?_eq_none_iff]
    intro c hc
    rw [h c hc]; rfl
  rw [this]
theorem atP_not {M : List Bool} {C : List (List Int)} (h : ∃ c ∈ C, c.any (hold M) = false) : 0 ≤ atP M C := by
  unfold atP
  cases hf : C.findIdx? (fun c => !c.any (hold M)) with
  | some i => exact Int.natCast_nonneg i
  | none =>
    rw [List.findIdx?_eq_none_iff] at hf
    obtain ⟨c, h1, h2⟩ := h
    have := hf c h1
    rw [h2] at this
    cases this
theorem atP_at {M : List Bool} {C : List (List Int)} {i : Nat} {c : List Int} (hi : C[i]? = some c) (hc : c.any (hold M) = false) (hb : ∀ x ∈ C.take i, x.any (hold M) = true) : atP M C = i := by
  unfold atP
  obtain ⟨hlt, e⟩ := List.getElem?_eq_some_iff.1 hi
  have : C.findIdx? (fun c => !c.any (hold M)) = some i := by
    rw [List.findIdx?_eq_some_iff_getElem]
    refine ⟨hlt, by rw [e, hc]; rfl, fun j hj => ?_⟩
    rw [hb _ (List.mem_take_iff_getElem.2 ⟨j, by omega, rfl⟩)]
    simp
  rw [this]
/-- A formula that can be. -/
structure FOk (n : Nat) (C : List (List Int)) : Prop where
  vars : n ≤ 262144
  many : C.length ≤ 1048576
  all : (C.map List.length).sum ≤ 4194304
  lits : ∀ c ∈ C, ∀ x ∈ c, x ≠ 0 ∧ -(n : Int) ≤ x ∧ x ≤ n
theorem sum_take {C : List (List Int)} (i : Nat) : ((C.take i).map List.length).sum ≤ (C.map List.length).sum := by
  have : C.map List.length = (C.take i).map List.length ++ (C.drop i).map List.length := by rw [← List.map_append, List.take_append_drop]
  rw [this, List.sum_append]
  omega
theorem sum_next {C : List (List Int)} {i : Nat} {c : List Int} (h : C[i]? = some c) : ((C.take (i + 1)).map List.length).sum = ((C.take i).map List.length).sum + c.length := by
  rw [List.take_add_one, h]; simp
theorem KOk.form {ps : List (Nat × Nat)} {D : List Nat} {C : List (List Int)} (h : KOk ps D C) (hl : ps.length ≤ 200000) : FOk D.length C := by
  have h1 := h.few
  have h2 := h.len
  exact ⟨by omega, by omega, by omega, fun c hc x hx => lits_in h hc hx⟩
end Go.Knit
namespace Go.Proofs.Ytpllmfoaahaciaa
open Go Go.Vc Go.Gate Go.Knit
set_option linter.unusedVariables false
set_option linter.unusedSimpArgs false
set_option maxHeartbeats 4000000
set_option maxRecDepth 100000

/-- A formula's clauses in memory. -/
structure FSrc (w : World) (a : Option Addr) (C : List (List Int)) (R : List Cl) : Prop where
  eq : R.map (fun x : Cl => x.2.2) = C
  rows : Src w a C.length 1 (R.map clV)
  cls : ∀ x ∈ R, Src w x.1 x.2.2.length 1 (x.2.2.map lV)
theorem FSrc.rd {w0 w : World} {l : List Res} {a : Option Addr} {C : List (List Int)} {R : List Cl} (h : FSrc w0 a C R) (H : Sep w0 w l) : FSrc w a C R := ⟨h.eq, H.rd h.rows, fun x hx => H.rd (h.cls x hx)⟩
theorem FSrc.len {w : World} {a : Option Addr} {C : List (List Int)} {R : List Cl} (h : FSrc w a C R) : R.length = C.length := by rw [← h.eq, List.length_map]
theorem FSrc.at {w : World} {a : Option Addr} {C : List (List Int)} {R : List Cl} (h : FSrc w a C R) {i : Nat} (hi : i < C.length) : ∃ x, R[i]? = some x ∧ C[i]? = some x.2.2 ∧ Src w x.1 x.2.2.length 1 (x.2.2.map lV) := by
  have hl := h.len
  have hx : R[i]? = some R[i] := List.getElem?_eq_getElem (by omega)
  have e := congrArg (fun l : List (List Int) => l[i]?) h.eq
  simp only [List.getElem?_map, hx, Option.map_some] at e
  exact ⟨_, hx, e.symm, h.cls _ (List.getElem_mem _)⟩

section
variable {w0 w W : World} {l r : List Res} {k gb sb n : Nat} {D : List Nat} {C : List (List Int)} {most : Int} {a : Option Addr} {c : Nat} {R : List Cl}

theorem FSrc.open (H : Sep w0 w (sinkR sb n C most :: r)) : ∃ a c R, FSrc w a C R ∧ Sep w0 w (cellsR sb 36 [iI n, .slice a C.length c, iI most] :: ownR a C.length c 49 1 (R.map clV) :: bigR (fun _ x => clR x) R :: r) := by
  obtain ⟨a, c, R, hR, H⟩ := sinkOpen H
  refine ⟨a, c, R, ⟨hR, ?_, fun x hx => ?_⟩, H⟩
  · exact H.srcM (by repeat first | exact List.Mem.head _ | refine List.Mem.tail _ ?_)
  · obtain ⟨i, hi⟩ := List.getElem?_of_mem hx
    have H2 := (H.top 2 rfl rfl).pick hi
    exact Sep.srcM H2 (.head _)

theorem rOne {x : Int} (h : x ≠ 0 ∧ -262144 ≤ x ∧ x ≤ 262144) (w : World) : Does Try.prog 39 #[lV x] w fun v w' => v = .bool true ∧ w = w' := by
  refine Does_intro tok (Try.call39 _ _) Try.func39 rfl (by rfl) ?_
  by_cases h1 : 1 ≤ x
  · (repeat ((try conv => whnf); first | refine Join_dup ?_ | (refine Br_gate ?_; first | with_reducible refine Br_not ?_ | refine xB ?_ | refine xC ?_) | (refine Ld_gate ?_; refine xL ?_) | (refine LdN_gate ?_; refine xM ?_) | (refine St_gate ?_; refine xS ?_; clear H; intro w H) | (refine StN_gate ?_; refine xN ?_; clear H; intro w H) | (refine Kept_gate ?_; refine xK ?_) | (refine Ar_gate ?_; first | (fail_if_success skip) | refine xA ?_) | (first | with_reducible refine Eqv_shrI (by omega) ?_ | refine Eqv_in ?_) | refine Do_ptr_eq_nil tok rfl ?_ | refine Do_ptr_ne_nil tok rfl ?_ | refine Do_nil_eq_nil tok rfl ?_ | refine Nn_in (by omega) ?_ | refine Nz_in (by omega) ?_))
    exact Ret_in ⟨vbool (by first | (simp; done) | (simp; omega)), rfl⟩
  · (repeat ((try conv => whnf); first | refine Join_dup ?_ | (refine Br_gate ?_; first | with_reducible refine Br_not ?_ | refine xB ?_ | refine xC ?_) | (refine Ld_gate ?_; refine xL ?_) | (refine LdN_gate ?_; refine xM ?_) | (refine St_gate ?_; refine xS ?_; clear H; intro w H) | (refine StN_gate ?_; refine xN ?_; clear H; intro w H) | (refine Kept_gate ?_; refine xK ?_) | (refine Ar_gate ?_; first | (fail_if_success skip) | refine xA ?_) | (first | with_reducible refine Eqv_shrI (by omega) ?_ | refine Eqv_in ?_) | refine Do_ptr_eq_nil tok rfl ?_ | refine Do_ptr_ne_nil tok rfl ?_ | refine Do_nil_eq_nil tok rfl ?_ | refine Nn_in (by omega) ?_ | refine Nz_in (by omega) ?_))
    exact Ret_in ⟨vbool (by first | (simp; done) | (simp; omega)), rfl⟩

theorem rVar {x : Int} (h : x ≠ 0 ∧ -262144 ≤ x ∧ x ≤ 262144) (w : World) : Does Try.prog 40 #[lV x] w fun v w' => v = iI (if x < 0 then -x else x) ∧ w = w' := by
  refine Does_intro tok (Try.call40 _ _) Try.func40 rfl (by rfl) ?_
  (repeat ((try conv => whnf); first | refine Join_dup ?_ | (refine Br_gate ?_; first | with_reducible refine Br_not ?_ | refine xB ?_ | refine xC ?_) | (refine Ld_gate ?_; refine xL ?_) | (refine LdN_gate ?_; refine xM ?_) | (refine St_gate ?_; refine xS ?_; clear H; intro w H) | (refine StN_gate ?_; refine xN ?_; clear H; intro w H) | (refine Kept_gate ?_; refine xK ?_) | (refine Ar_gate ?_; first | (fail_if_success skip) | refine xA ?_) | (first | with_reducible refine Eqv_shrI (by omega) ?_ | refine Eqv_in ?_) | refine Do_ptr_eq_nil tok rfl ?_ | refine Do_ptr_ne_nil tok rfl ?_ | refine Do_nil_eq_nil tok rfl ?_ | refine Nn_in (by omega) ?_ | refine Nz_in (by omega) ?_))
  refine Call_of (rOne h w) ?_
  rintro _ _ ⟨rfl, rfl⟩
  by_cases h0 : x < 0
  · (repeat ((try conv => whnf); first | refine Join_dup ?_ | (refine Br_gate ?_; first | with_reducible refine Br_not ?_ | refine xB ?_ | refine xC ?_) | (refine Ld_gate ?_; refine xL ?_) | (refine LdN_gate ?_; refine xM ?_) | (refine St_gate ?_; refine xS ?_; clear H; intro w H) | (refine StN_gate ?_; refine xN ?_; clear H; intro w H) | (refine Kept_gate ?_; refine xK ?_) | (refine Ar_gate ?_; first | (fail_if_success skip) | refine xA ?_) | (first | with_reducible refine Eqv_shrI (by omega) ?_ | refine Eqv_in ?_) | refine Do_ptr_eq_nil tok rfl ?_ | refine Do_ptr_ne_nil tok rfl ?_ | refine Do_nil_eq_nil tok rfl ?_ | refine Nn_in (by omega) ?_ | refine Nz_in (by omega) ?_))
    exact Ret_in ⟨vint (by simp only [h0, if_true]; omega), rfl⟩
  · (repeat ((try conv => whnf); first | refine Join_dup ?_ | (refine Br_gate ?_; first | with_reducible refine Br_not ?_ | refine xB ?_ | refine xC ?_) | (refine Ld_gate ?_; refine xL ?_) | (refine LdN_gate ?_; refine xM ?_) | (refine St_gate ?_; refine xS ?_; clear H; intro w H) | (refine StN_gate ?_; refine xN ?_; clear H; intro w H) | (refine Kept_gate ?_; refine xK ?_) | (refine Ar_gate ?_; first | (fail_if_success skip) | refine xA ?_) | (first | with_reducible refine Eqv_shrI (by omega) ?_ | refine Eqv_in ?_) | refine Do_ptr_eq_nil tok rfl ?_ | refine Do_ptr_ne_nil tok rfl ?_ | refine Do_nil_eq_nil tok rfl ?_ | refine Nn_in (by omega) ?_ | refine Nz_in (by omega) ?_))
    exact Ret_in ⟨vint (by simp only [h0, if_true, if_false]), rfl⟩

theorem rRight (hs : FSrc W a C R) (h : FOk n C) : Does Try.prog 31 #[.agg #[iI n, .slice a C.length c]] W fun v w' => v = .bool true ∧ Sep W w' [] := by
  have h1 := h.vars
  have h2 := h.many
  have h3 := h.all
  have H := Sep.nil W
  refine Does_intro tok (Try.call31 _ _) Try.func31 rfl (by rfl) ?_
  (repeat ((try conv => whnf); first | refine Join_dup ?_ | (refine Br_gate ?_; first | with_reducible refine Br_not ?_ | refine xB ?_ | refine xC ?_) | (refine Ld_gate ?_; refine xL ?_) | (refine LdN_gate ?_; refine xM ?_) | (refine St_gate ?_; refine xS ?_; clear H; intro w H) | (refine StN_gate ?_; refine xN ?_; clear H; intro w H) | (refine Kept_gate ?_; refine xK ?_) | (refine Ar_gate ?_; first | (fail_if_success skip) | refine xA ?_) | (first | with_reducible refine Eqv_shrI (by omega) ?_ | refine Eqv_in ?_) | refine Do_ptr_eq_nil tok rfl ?_ | refine Do_ptr_ne_nil tok rfl ?_ | refine Do_nil_eq_nil tok rfl ?_ | refine Nn_in (by omega) ?_ | refine Nz_in (by omega) ?_))
  (refine Nw_sep H ?_; clear H; intro fb w H; (try simp only [Value.cells, List.toList_toArray, List.append_nil, List.cons_append, List.nil_append] at H))
  (repeat ((try conv => whnf); first | refine Join_dup ?_ | (refine Br_gate ?_; first | with_reducible refine Br_not ?_ | refine xB ?_ | refine xC ?_) | (refine Ld_gate ?_; refine xL ?_) | (refine LdN_gate ?_; refine xM ?_) | (refine St_gate ?_; refine xS ?_; clear H; intro w H) | (refine StN_gate ?_; refine xN ?_; clear H; intro w H) | (refine Kept_gate ?_; refine xK ?_) | (refine Ar_gate ?_; first | (fail_if_success skip) | refine xA ?_) | (first | with_reducible refine Eqv_shrI (by omega) ?_ | refine Eqv_in ?_) | refine Do_ptr_eq_nil tok rfl ?_ | refine Do_ptr_ne_nil tok rfl ?_ | refine Do_nil_eq_nil tok rfl ?_ | refine Nn_in (by omega) ?_ | refine Nz_in (by omega) ?_))
  refine Loop_intro (fun s : Nat => [(25, iI s), (3, iI ((C.take s).map List.length).sum)]) (fun i w => i ≤ C.length ∧ Sep W w [cellsR fb 34 [iI n, .slice a C.length c]]) (fun i => C.length - i) 0 ⟨rfl, rfl, trivial⟩ ⟨Nat.zero_le _, H⟩ ?_
  clear H
  rintro i w ⟨hi, H⟩
  simp only [] at hi H ⊢
  refine Br_dec (fun k1 => ?_) (fun k1 => ?_)
  · have hlt : i < C.length := by omega
    obtain ⟨⟨xa, xc, xs⟩, hx, hxc, hxs⟩ := (hs.rd H).at hlt
    simp only [] at hxc hxs
    obtain ⟨rb, ro, rfl⟩ := hs.rows.addr (by rw [List.length_map, hs.len]; omega)
    have hlits := h.lits xs (List.mem_of_getElem? hxc)
    have hsum := sum_next hxc
    have hle := sum_take (C := C) (i + 1)
    refine Ix_in i rfl hlt ?_
    refine Ld_src (j := i) (hs.rd H).rows (v := .slice xa xs.length xc) (by rw [List.getElem?_map, hx]; rfl) ?_
    (repeat ((try conv => whnf); first | refine Join_dup ?_ | (refine Br_gate ?_; first | with_reducible refine Br_not ?_ | refine xB ?_ | refine xC ?_) | (refine Ld_gate ?_; refine xL ?_) | (refine LdN_gate ?_; refine xM ?_) | (refine St_gate ?_; refine xS ?_; clear H; intro w H) | (refine StN_gate ?_; refine xN ?_; clear H; intro w H) | (refine Kept_gate ?_; refine xK ?_) | (refine Ar_gate ?_; first | (fail_if_success skip) | refine xA ?_) | (first | with_reducible refine Eqv_shrI (by omega) ?_ | refine Eqv_in ?_) | refine Do_ptr_eq_nil tok rfl ?_ | refine Do_ptr_ne_nil tok rfl ?_ | refine Do_nil_eq_nil tok rfl ?_ | refine Nn_in (by omega) ?_ | refine Nz_in (by omega) ?_))
    refine Loop_intro (fun j : Nat => [(35, iI j)]) (fun j w => j ≤ xs.length ∧ Sep W w [cellsR fb 34 [iI n, .slice (some ⟨rb, ro, none⟩) C.length c]]) (fun j => xs.length - j) 0 ⟨rfl, trivial⟩ ⟨Nat.zero_le _, H⟩ ?_
    clear H hxs w
    rintro j w ⟨hj, H⟩
    obtain ⟨⟨xa', xc', xs'⟩, hx', hxc', hxs⟩ := (hs.rd H).at hlt
    rw [hx] at hx'
    obtain ⟨rfl, rfl, rfl⟩ : xa = xa' ∧ xc = xc' ∧ xs = xs' := by cases hx'; exact ⟨rfl, rfl, rfl⟩
    simp only [] at hj H hxs ⊢
    refine Br_dec (fun k2 => ?_) (fun k2 => ?_)
    · have hjt : j < xs.length := by omega
      obtain ⟨lb, lo, rfl⟩ := hxs.addr (by rw [List.length_map]; omega)
      have hy : xs[j]? = some xs[j] := List.getElem?_eq_getElem hjt
      have hyl := hlits _ (List.getElem_mem hjt)
      generalize xs[j] = y at hy hyl
      refine Ix_in j rfl hjt ?_
      refine Ld_src (j := j) hxs (v := lV y) (by rw [List.getElem?_map, hy]; rfl) ?_
      (repeat ((try conv => whnf); first | refine Join_dup ?_ | (refine Br_gate ?_; first | with_reducible refine Br_not ?_ | refine xB ?_ | refine xC ?_) | (refine Ld_gate ?_; refine xL ?_) | (refine LdN_gate ?_; refine xM ?_) | (refine St_gate ?_; refine xS ?_; clear H; intro w H) | (refine StN_gate ?_; refine xN ?_; clear H; intro w H) | (refine Kept_gate ?_; refine xK ?_) | (refine Ar_gate ?_; first | (fail_if_success skip) | refine xA ?_) | (first | with_reducible refine Eqv_shrI (by omega) ?_ | refine Eqv_in ?_) | refine Do_ptr_eq_nil tok rfl ?_ | refine Do_ptr_ne_nil tok rfl ?_ | refine Do_nil_eq_nil tok rfl ?_ | refine Nn_in (by omega) ?_ | refine Nz_in (by omega) ?_))
      refine Draw_intro mixed [0, 1, 2, 3, 4, 6, 7, 5, 8, 9] (by decide +kernel) (fun w _ fd => ?_); replace H := H.fr fd; clear fd
      (repeat ((try conv => whnf); first | refine Join_dup ?_ | (refine Br_gate ?_; first | with_reducible refine Br_not ?_ | refine xB ?_ | refine xC ?_) | (refine Ld_gate ?_; refine xL ?_) | (refine LdN_gate ?_; refine xM ?_) | (refine St_gate ?_; refine xS ?_; clear H; intro w H) | (refine StN_gate ?_; refine xN ?_; clear H; intro w H) | (refine Kept_gate ?_; refine xK ?_) | (refine Ar_gate ?_; first | (fail_if_success skip) | refine xA ?_) | (first | with_reducible refine Eqv_shrI (by omega) ?_ | refine Eqv_in ?_) | refine Do_ptr_eq_nil tok rfl ?_ | refine Do_ptr_ne_nil tok rfl ?_ | refine Do_nil_eq_nil tok rfl ?_ | refine Nn_in (by omega) ?_ | refine Nz_in (by omega) ?_))
      refine Call_of (rOne (x := y) (by omega) _) ?_
      rintro _ _ ⟨rfl, rfl⟩
      (repeat ((try conv => whnf); first | refine Join_dup ?_ | (refine Br_gate ?_; first | with_reducible refine Br_not ?_ | refine xB ?_ | refine xC ?_) | (refine Ld_gate ?_; refine xL ?_) | (refine LdN_gate ?_; refine xM ?_) | (refine St_gate ?_; refine xS ?_; clear H; intro w H) | (refine StN_gate ?_; refine xN ?_; clear H; intro w H) | (refine Kept_gate ?_; refine xK ?_) | (refine Ar_gate ?_; first | (fail_if_success skip) | refine xA ?_) | (first | with_reducible refine Eqv_shrI (by omega) ?_ | refine Eqv_in ?_) | refine Do_ptr_eq_nil tok rfl ?_ | refine Do_ptr_ne_nil tok rfl ?_ | refine Do_nil_eq_nil tok rfl ?_ | refine Nn_in (by omega) ?_ | refine Nz_in (by omega) ?_))
      refine Call_of (rVar (x := y) (by omega) _) ?_
      rintro _ _ ⟨rfl, rfl⟩
      have hvy : ¬ ((n : Int) < if y < 0 then -y else y) := by split <;> omega
      (repeat ((try conv => whnf); first | refine Join_dup ?_ | (refine Br_gate ?_; first | with_reducible refine Br_not ?_ | refine xB ?_ | refine xC ?_) | (refine Ld_gate ?_; refine xL ?_) | (refine LdN_gate ?_; refine xM ?_) | (refine St_gate ?_; refine xS ?_; clear H; intro w H) | (refine StN_gate ?_; refine xN ?_; clear H; intro w H) | (refine Kept_gate ?_; refine xK ?_) | (refine Ar_gate ?_; first | (fail_if_success skip) | refine xA ?_) | (first | with_reducible refine Eqv_shrI (by omega) ?_ | refine Eqv_in ?_) | refine Do_ptr_eq_nil tok rfl ?_ | refine Do_ptr_ne_nil tok rfl ?_ | refine Do_nil_eq_nil tok rfl ?_ | refine Nn_in (by omega) ?_ | refine Nz_in (by omega) ?_))
      exact ⟨j + 1, ⟨congrArg some (vint (by omega)), trivial⟩, ⟨by omega, H⟩, by omega⟩
    · (repeat ((try conv => whnf); first | refine Join_dup ?_ | (refine Br_gate ?_; first | with_reducible refine Br_not ?_ | refine xB ?_ | refine xC ?_) | (refine Ld_gate ?_; refine xL ?_) | (refine LdN_gate ?_; refine xM ?_) | (refine St_gate ?_; refine xS ?_; clear H; intro w H) | (refine StN_gate ?_; refine xN ?_; clear H; intro w H) | (refine Kept_gate ?_; refine xK ?_) | (refine Ar_gate ?_; first | (fail_if_success skip) | refine xA ?_) | (first | with_reducible refine Eqv_shrI (by omega) ?_ | refine Eqv_in ?_) | refine Do_ptr_eq_nil tok rfl ?_ | refine Do_ptr_ne_nil tok rfl ?_ | refine Do_nil_eq_nil tok rfl ?_ | refine Nn_in (by omega) ?_ | refine Nz_in (by omega) ?_))
      exact ⟨i + 1, ⟨congrArg some (vint (by omega)), congrArg some (vint (by rw [hsum]; omega)), trivial⟩, ⟨by omega, H⟩, by omega⟩
  · obtain rfl : i = C.length := by omega
    rw [List.take_length]
    (repeat ((try conv => whnf); first | refine Join_dup ?_ | (refine Br_gate ?_; first | with_reducible refine Br_not ?_ | refine xB ?_ | refine xC ?_) | (refine Ld_gate ?_; refine xL ?_) | (refine LdN_gate ?_; refine xM ?_) | (refine St_gate ?_; refine xS ?_; clear H; intro w H) | (refine StN_gate ?_; refine xN ?_; clear H; intro w H) | (refine Kept_gate ?_; refine xK ?_) | (refine Ar_gate ?_; first | (fail_if_success skip) | refine xA ?_) | (first | with_reducible refine Eqv_shrI (by omega) ?_ | refine Eqv_in ?_) | refine Do_ptr_eq_nil tok rfl ?_ | refine Do_ptr_ne_nil tok rfl ?_ | refine Do_nil_eq_nil tok rfl ?_ | refine Nn_in (by omega) ?_ | refine Nz_in (by omega) ?_))
    exact Ret_in ⟨vbool (by first | (simp; done) | (simp; omega)), H.all⟩

theorem rTrue {M : List Bool} {x : Int} (hs : Src w a M.length 1 (M.map bV)) (hx : x ≠ 0 ∧ -(M.length : Int) ≤ x ∧ x ≤ M.length) (hl : M.length ≤ 1000000) : Does Try.prog 32 #[lV x, .slice a M.length c] w fun v w' => v = .bool (hold M x) ∧ w = w' := by
  refine Does_intro tok (Try.call32 _ _) Try.func32 rfl (by rfl) ?_
  obtain ⟨rb, ro, rfl⟩ := hs.addr (by rw [List.length_map]; omega)
  by_cases h0 : x < 0
  · obtain ⟨i, hi⟩ : ∃ i : Nat, -x - 1 = i := ⟨(-x - 1).toNat, by omega⟩
    have hil : i < M.length := by omega
    have e : hold M x = !(M[i]?.getD false) := by unfold hold; rw [if_pos h0, hi, Int.toNat_natCast]
    rw [e]
    (repeat ((try conv => whnf); first | refine Join_dup ?_ | (refine Br_gate ?_; first | with_reducible refine Br_not ?_ | refine xB ?_ | refine xC ?_) | (refine Ld_gate ?_; refine xL ?_) | (refine LdN_gate ?_; refine xM ?_) | (refine St_gate ?_; refine xS ?_; clear H; intro w H) | (refine StN_gate ?_; refine xN ?_; clear H; intro w H) | (refine Kept_gate ?_; refine xK ?_) | (refine Ar_gate ?_; first | (fail_if_success skip) | refine xA ?_) | (first | with_reducible refine Eqv_shrI (by omega) ?_ | refine Eqv_in ?_) | refine Do_ptr_eq_nil tok rfl ?_ | refine Do_ptr_ne_nil tok rfl ?_ | refine Do_nil_eq_nil tok rfl ?_ | refine Nn_in (by omega) ?_ | refine Nz_in (by omega) ?_))
    rw [Int.zero_sub]
    (repeat ((try conv => whnf); first | refine Join_dup ?_ | (refine Br_gate ?_; first | with_reducible refine Br_not ?_ | refine xB ?_ | refine xC ?_) | (refine Ld_gate ?_; refine xL ?_) | (refine LdN_gate ?_; refine xM ?_) | (refine St_gate ?_; refine xS ?_; clear H; intro w H) | (refine StN_gate ?_; refine xN ?_; clear H; intro w H) | (refine Kept_gate ?_; refine xK ?_) | (refine Ar_gate ?_; first | (fail_if_success skip) | refine xA ?_) | (first | with_reducible refine Eqv_shrI (by omega) ?_ | refine Eqv_in ?_) | refine Do_ptr_eq_nil tok rfl ?_ | refine Do_ptr_ne_nil tok rfl ?_ | refine Do_nil_eq_nil tok rfl ?_ | refine Nn_in (by omega) ?_ | refine Nz_in (by omega) ?_))
    refine Ix_in i (by omega) hil ?_
    (repeat ((try conv => whnf); first | refine Join_dup ?_ | (refine Br_gate ?_; first | with_reducible refine Br_not ?_ | refine xB ?_ | refine xC ?_) | (refine Ld_gate ?_; refine xL ?_) | (refine LdN_gate ?_; refine xM ?_) | (refine St_gate ?_; refine xS ?_; clear H; intro w H) | (refine StN_gate ?_; refine xN ?_; clear H; intro w H) | (refine Kept_gate ?_; refine xK ?_) | (refine Ar_gate ?_; first | (fail_if_success skip) | refine xA ?_) | (first | with_reducible refine Eqv_shrI (by omega) ?_ | refine Eqv_in ?_) | refine Do_ptr_eq_nil tok rfl ?_ | refine Do_ptr_ne_nil tok rfl ?_ | refine Do_nil_eq_nil tok rfl ?_ | refine Nn_in (by omega) ?_ | refine Nz_in (by omega) ?_))
    refine Ld_src (j := i) hs (v := bV (M[i]?.getD false)) (by rw [List.getElem?_map, List.getElem?_eq_getElem hil]; rfl) ?_
    (repeat ((try conv => whnf); first | refine Join_dup ?_ | (refine Br_gate ?_; first | with_reducible refine Br_not ?_ | refine xB ?_ | refine xC ?_) | (refine Ld_gate ?_; refine xL ?_) | (refine LdN_gate ?_; refine xM ?_) | (refine St_gate ?_; refine xS ?_; clear H; intro w H) | (refine StN_gate ?_; refine xN ?_; clear H; intro w H) | (refine Kept_gate ?_; refine xK ?_) | (refine Ar_gate ?_; first | (fail_if_success skip) | refine xA ?_) | (first | with_reducible refine Eqv_shrI (by omega) ?_ | refine Eqv_in ?_) | refine Do_ptr_eq_nil tok rfl ?_ | refine Do_ptr_ne_nil tok rfl ?_ | refine Do_nil_eq_nil tok rfl ?_ | refine Nn_in (by omega) ?_ | refine Nz_in (by omega) ?_))
    exact Ret_in ⟨rfl, rfl⟩
  · obtain ⟨i, hi⟩ : ∃ i : Nat, x - 1 = i := ⟨(x - 1).toNat, by omega⟩
    have hil : i < M.length := by omega
    have e : hold M x = M[i]?.getD false := by unfold hold; rw [if_neg h0, hi, Int.toNat_natCast]
    rw [e]
    (repeat ((try conv => whnf); first | refine Join_dup ?_ | (refine Br_gate ?_; first | with_reducible refine Br_not ?_ | refine xB ?_ | refine xC ?_) | (refine Ld_gate ?_; refine xL ?_) | (refine LdN_gate ?_; refine xM ?_) | (refine St_gate ?_; refine xS ?_; clear H; intro w H) | (refine StN_gate ?_; refine xN ?_; clear H; intro w H) | (refine Kept_gate ?_; refine xK ?_) | (refine Ar_gate ?_; first | (fail_if_success skip) | refine xA ?_) | (first | with_reducible refine Eqv_shrI (by omega) ?_ | refine Eqv_in ?_) | refine Do_ptr_eq_nil tok rfl ?_ | refine Do_ptr_ne_nil tok rfl ?_ | refine Do_nil_eq_nil tok rfl ?_ | refine Nn_in (by omega) ?_ | refine Nz_in (by omega) ?_))
    refine Ix_in i (by omega) hil ?_
    (repeat ((try conv => whnf); first | refine Join_dup ?_ | (refine Br_gate ?_; first | with_reducible refine Br_not ?_ | refine xB ?_ | refine xC ?_) | (refine Ld_gate ?_; refine xL ?_) | (refine LdN_gate ?_; refine xM ?_) | (refine St_gate ?_; refine xS ?_; clear H; intro w H) | (refine StN_gate ?_; refine xN ?_; clear H; intro w H) | (refine Kept_gate ?_; refine xK ?_) | (refine Ar_gate ?_; first | (fail_if_success skip) | refine xA ?_) | (first | with_reducible refine Eqv_shrI (by omega) ?_ | refine Eqv_in ?_) | refine Do_ptr_eq_nil tok rfl ?_ | refine Do_ptr_ne_nil tok rfl ?_ | refine Do_nil_eq_nil tok rfl ?_ | refine Nn_in (by omega) ?_ | refine Nz_in (by omega) ?_))
    refine Ld_src (j := i) hs (v := bV (M[i]?.getD false)) (by rw [List.getElem?_map, List.getElem?_eq_getElem hil]; rfl) ?_
    (repeat ((try conv => whnf); first | refine Join_dup ?_ | (refine Br_gate ?_; first | with_reducible refine Br_not ?_ | refine xB ?_ | refine xC ?_) | (refine Ld_gate ?_; refine xL ?_) | (refine LdN_gate ?_; refine xM ?_) | (refine St_gate ?_; refine xS ?_; clear H; intro w H) | (refine StN_gate ?_; refine xN ?_; clear H; intro w H) | (refine Kept_gate ?_; refine xK ?_) | (refine Ar_gate ?_; first | (fail_if_success skip) | refine xA ?_) | (first | with_reducible refine Eqv_shrI (by omega) ?_ | refine Eqv_in ?_) | refine Do_ptr_eq_nil tok rfl ?_ | refine Do_ptr_ne_nil tok rfl ?_ | refine Do_nil_eq_nil tok rfl ?_ | refine Nn_in (by omega) ?_ | refine Nz_in (by omega) ?_))
    exact Ret_in ⟨rfl, rfl⟩

theorem rFalse {M : List Bool} {ma : Option Addr} {mc : Nat} (hs : FSrc W a C R) (h : FOk M.length C) (hM : Src W ma M.length 1 (M.map bV)) :
    Does Try.prog 20 #[.agg #[iI M.length, .slice a C.length c], .slice ma M.length mc] W fun v w' => v = .tuple #[iI (atP M C), iI 0] ∧ Sep W w' [] := by
  have h1 := h.vars
  have h1' : M.length ≤ 1000000 := by omega
  have h2 := h.many
  have H := Sep.nil W
  refine Does_intro tok (Try.call20 _ _) Try.func20 rfl (by rfl) ?_
  (repeat ((try conv => whnf); first | refine Join_dup ?_ | (refine Br_gate ?_; first | with_reducible refine Br_not ?_ | refine xB ?_ | refine xC ?_) | (refine Ld_gate ?_; refine xL ?_) | (refine LdN_gate ?_; refine xM ?_) | (refine St_gate ?_; refine xS ?_; clear H; intro w H) | (refine StN_gate ?_; refine xN ?_; clear H; intro w H) | (refine Kept_gate ?_; refine xK ?_) | (refine Ar_gate ?_; first | (fail_if_success skip) | refine xA ?_) | (first | with_reducible refine Eqv_shrI (by omega) ?_ | refine Eqv_in ?_) | refine Do_ptr_eq_nil tok rfl ?_ | refine Do_ptr_ne_nil tok rfl ?_ | refine Do_nil_eq_nil tok rfl ?_ | refine Nn_in (by omega) ?_ | refine Nz_in (by omega) ?_))
  (refine Nw_sep H ?_; clear H; intro fb w H; (try simp only [Value.cells, List.toList_toArray, List.append_nil, List.cons_append, List.nil_append] at H))
  (repeat ((try conv => whnf); first | refine Join_dup ?_ | (refine Br_gate ?_; first | with_reducible refine Br_not ?_ | refine xB ?_ | refine xC ?_) | (refine Ld_gate ?_; refine xL ?_) | (refine LdN_gate ?_; refine xM ?_) | (refine St_gate ?_; refine xS ?_; clear H; intro w H) | (refine StN_gate ?_; refine xN ?_; clear H; intro w H) | (refine Kept_gate ?_; refine xK ?_) | (refine Ar_gate ?_; first | (fail_if_success skip) | refine xA ?_) | (first | with_reducible refine Eqv_shrI (by omega) ?_ | refine Eqv_in ?_) | refine Do_ptr_eq_nil tok rfl ?_ | refine Do_ptr_ne_nil tok rfl ?_ | refine Do_nil_eq_nil tok rfl ?_ | refine Nn_in (by omega) ?_ | refine Nz_in (by omega) ?_))
  refine Call_of (rRight (hs.rd H) h) ?_
  rintro _ w ⟨rfl, HH⟩
  replace H := H.add HH
  clear HH
  (repeat ((try conv => whnf); first | refine Join_dup ?_ | (refine Br_gate ?_; first | with_reducible refine Br_not ?_ | refine xB ?_ | refine xC ?_) | (refine Ld_gate ?_; refine xL ?_) | (refine LdN_gate ?_; refine xM ?_) | (refine St_gate ?_; refine xS ?_; clear H; intro w H) | (refine StN_gate ?_; refine xN ?_; clear H; intro w H) | (refine Kept_gate ?_; refine xK ?_) | (refine Ar_gate ?_; first | (fail_if_success skip) | refine xA ?_) | (first | with_reducible refine Eqv_shrI (by omega) ?_ | refine Eqv_in ?_) | refine Do_ptr_eq_nil tok rfl ?_ | refine Do_ptr_ne_nil tok rfl ?_ | refine Do_nil_eq_nil tok rfl ?_ | refine Nn_in (by omega) ?_ | refine Nz_in (by omega) ?_))
  refine Loop_intro (fun s : Nat => [(24, iI s)]) (fun i w => (i ≤ C.length ∧ ∀ x ∈ C.take i, x.any (hold M) = true) ∧ Sep W w [cellsR fb 34 [iI M.length, .slice a C.length c]]) (fun i => C.length - i) 0 ⟨rfl, trivial⟩ ⟨⟨Nat.zero_le _, by simp⟩, H⟩ ?_
  clear H w
  rintro i w ⟨⟨hi, hbef⟩, H⟩
  simp only [] at hi hbef H ⊢
  refine Br_dec (fun k1 => ?_) (fun k1 => ?_)
  · have hlt : i < C.length := by omega
    obtain ⟨⟨xa, xc, xs⟩, hx, hxc, hxs⟩ := (hs.rd H).at hlt
    simp only [] at hxc hxs
    obtain ⟨rb, ro, rfl⟩ := hs.rows.addr (by rw [List.length_map, hs.len]; omega)
    have hlits := h.lits xs (List.mem_of_getElem? hxc)
    have h3 := h.all
    have hsum := sum_next hxc
    have hle := sum_take (C := C) (i + 1)
    refine Ix_in i rfl hlt ?_
    refine Ld_src (j := i) (hs.rd H).rows (v := .slice xa xs.length xc) (by rw [List.getElem?_map, hx]; rfl) ?_
    (repeat ((try conv => whnf); first | refine Join_dup ?_ | (refine Br_gate ?_; first | with_reducible refine Br_not ?_ | refine xB ?_ | refine xC ?_) | (refine Ld_gate ?_; refine xL ?_) | (refine LdN_gate ?_; refine xM ?_) | (refine St_gate ?_; refine xS ?_; clear H; intro w H) | (refine StN_gate ?_; refine xN ?_; clear H; intro w H) | (refine Kept_gate ?_; refine xK ?_) | (refine Ar_gate ?_; first | (fail_if_success skip) | refine xA ?_) | (first | with_reducible refine Eqv_shrI (by omega) ?_ | refine Eqv_in ?_) | refine Do_ptr_eq_nil tok rfl ?_ | refine Do_ptr_ne_nil tok rfl ?_ | refine Do_nil_eq_nil tok rfl ?_ | refine Nn_in (by omega) ?_ | refine Nz_in (by omega) ?_))
    refine Loop_intro (fun j : Nat => [(31, iI j), (8, .bool ((xs.take j).any (hold M)))]) (fun j w' => w = w' ∧ j ≤ xs.length) (fun j => xs.length - j) 0 ⟨rfl, rfl, trivial⟩ ⟨rfl, Nat.zero_le _⟩ ?_
    rintro j _ ⟨rfl, hj⟩
    simp only [] at hj ⊢
    refine Br_dec (fun k2 => ?_) (fun k2 => ?_)
    · have hjt : j < xs.length := by omega
      obtain ⟨lb, lo, rfl⟩ := hxs.addr (by rw [List.length_map]; omega)
      have hy : xs[j]? = some xs[j] := List.getElem?_eq_getElem hjt
      have hyl := hlits _ (List.getElem_mem hjt)
      generalize xs[j] = y at hy hyl
      have hnx : (xs.take (j + 1)).any (hold M) = ((xs.take j).any (hold M) || hold M y) := by rw [List.take_add_one, hy]; simp
      refine Ix_in j rfl hjt ?_
      refine Ld_src (j := j) hxs (v := lV y) (by rw [List.getElem?_map, hy]; rfl) ?_
      cases hb : (xs.take j).any (hold M) with
      | true =>
        rw [hb] at hnx
        (repeat ((try conv => whnf); first | refine Join_dup ?_ | (refine Br_gate ?_; first | with_reducible refine Br_not ?_ | refine xB ?_ | refine xC ?_) | (refine Ld_gate ?_; refine xL ?_) | (refine LdN_gate ?_; refine xM ?_) | (refine St_gate ?_; refine xS ?_; clear H; intro w H) | (refine StN_gate ?_; refine xN ?_; clear H; intro w H) | (refine Kept_gate ?_; refine xK ?_) | (refine Ar_gate ?_; first | (fail_if_success skip) | refine xA ?_) | (first | with_reducible refine Eqv_shrI (by omega) ?_ | refine Eqv_in ?_) | refine Do_ptr_eq_nil tok rfl ?_ | refine Do_ptr_ne_nil tok rfl ?_ | refine Do_nil_eq_nil tok rfl ?_ | refine Nn_in (by omega) ?_ | refine Nz_in (by omega) ?_))
        exact ⟨j + 1, ⟨congrArg some (vint (by omega)), congrArg some (vbool (by rw [hnx]; rfl)), trivial⟩, ⟨rfl, by omega⟩, by omega⟩
      | false =>
        rw [hb] at hnx
        (repeat ((try conv => whnf); first | refine Join_dup ?_ | (refine Br_gate ?_; first | with_reducible refine Br_not ?_ | refine xB ?_ | refine xC ?_) | (refine Ld_gate ?_; refine xL ?_) | (refine LdN_gate ?_; refine xM ?_) | (refine St_gate ?_; refine xS ?_; clear H; intro w H) | (refine StN_gate ?_; refine xN ?_; clear H; intro w H) | (refine Kept_gate ?_; refine xK ?_) | (refine Ar_gate ?_; first | (fail_if_success skip) | refine xA ?_) | (first | with_reducible refine Eqv_shrI (by omega) ?_ | refine Eqv_in ?_) | refine Do_ptr_eq_nil tok rfl ?_ | refine Do_ptr_ne_nil tok rfl ?_ | refine Do_nil_eq_nil tok rfl ?_ | refine Nn_in (by omega) ?_ | refine Nz_in (by omega) ?_))
        refine Call_of (rTrue (x := y) (H.rd hM) hyl h1') ?_
        rintro _ _ ⟨rfl, rfl⟩
        (repeat ((try conv => whnf); first | refine Join_dup ?_ | (refine Br_gate ?_; first | with_reducible refine Br_not ?_ | refine xB ?_ | refine xC ?_) | (refine Ld_gate ?_; refine xL ?_) | (refine LdN_gate ?_; refine xM ?_) | (refine St_gate ?_; refine xS ?_; clear H; intro w H) | (refine StN_gate ?_; refine xN ?_; clear H; intro w H) | (refine Kept_gate ?_; refine xK ?_) | (refine Ar_gate ?_; first | (fail_if_success skip) | refine xA ?_) | (first | with_reducible refine Eqv_shrI (by omega) ?_ | refine Eqv_in ?_) | refine Do_ptr_eq_nil tok rfl ?_ | refine Do_ptr_ne_nil tok rfl ?_ | refine Do_nil_eq_nil tok rfl ?_ | refine Nn_in (by omega) ?_ | refine Nz_in (by omega) ?_))
        exact ⟨j + 1, ⟨congrArg some (vint (by omega)), congrArg some (vbool (by rw [hnx]; rfl)), trivial⟩, ⟨rfl, by omega⟩, by omega⟩
    · obtain rfl : j = xs.length := by omega
      rw [List.take_length]
      cases hb : xs.any (hold M) with
      | true =>
        (repeat ((try conv => whnf); first | refine Join_dup ?_ | (refine Br_gate ?_; first | with_reducible refine Br_not ?_ | refine xB ?_ | refine xC ?_) | (refine Ld_gate ?_; refine xL ?_) | (refine LdN_gate ?_; refine xM ?_) | (refine St_gate ?_; refine xS ?_; clear H; intro w H) | (refine StN_gate ?_; refine xN ?_; clear H; intro w H) | (refine Kept_gate ?_; refine xK ?_) | (refine Ar_gate ?_; first | (fail_if_success skip) | refine xA ?_) | (first | with_reducible refine Eqv_shrI (by omega) ?_ | refine Eqv_in ?_) | refine Do_ptr_eq_nil tok rfl ?_ | refine Do_ptr_ne_nil tok rfl ?_ | refine Do_nil_eq_nil tok rfl ?_ | refine Nn_in (by omega) ?_ | refine Nz_in (by omega) ?_))
        refine ⟨i + 1, ⟨congrArg some (vint (by omega)), trivial⟩, ⟨⟨by omega, fun y hy => ?_⟩, H⟩, by omega⟩
        rw [List.take_add_one, hxc, List.mem_append] at hy
        rcases hy with hy | hy
        · exact hbef y hy
        · simp at hy; rw [hy]; exact hb
      | false =>
        (repeat ((try conv => whnf); first | refine Join_dup ?_ | (refine Br_gate ?_; first | with_reducible refine Br_not ?_ | refine xB ?_ | refine xC ?_) | (refine Ld_gate ?_; refine xL ?_) | (refine LdN_gate ?_; refine xM ?_) | (refine St_gate ?_; refine xS ?_; clear H; intro w H) | (refine StN_gate ?_; refine xN ?_; clear H; intro w H) | (refine Kept_gate ?_; refine xK ?_) | (refine Ar_gate ?_; first | (fail_if_success skip) | refine xA ?_) | (first | with_reducible refine Eqv_shrI (by omega) ?_ | refine Eqv_in ?_) | refine Do_ptr_eq_nil tok rfl ?_ | refine Do_ptr_ne_nil tok rfl ?_ | refine Do_nil_eq_nil tok rfl ?_ | refine Nn_in (by omega) ?_ | refine Nz_in (by omega) ?_))
        exact Ret_in ⟨by rw [atP_at hxc hb hbef]; rfl, H.all⟩
  · obtain rfl : i = C.length := by omega
    rw [List.take_length] at hbef
    (repeat ((try conv => whnf); first | refine Join_dup ?_ | (refine Br_gate ?_; first | with_reducible refine Br_not ?_ | refine xB ?_ | refine xC ?_) | (refine Ld_gate ?_; refine xL ?_) | (refine LdN_gate ?_; refine xM ?_) | (refine St_gate ?_; refine xS ?_; clear H; intro w H) | (refine StN_gate ?_; refine xN ?_; clear H; intro w H) | (refine Kept_gate ?_; refine xK ?_) | (refine Ar_gate ?_; first | (fail_if_success skip) | refine xA ?_) | (first | with_reducible refine Eqv_shrI (by omega) ?_ | refine Eqv_in ?_) | refine Do_ptr_eq_nil tok rfl ?_ | refine Do_ptr_ne_nil tok rfl ?_ | refine Do_nil_eq_nil tok rfl ?_ | refine Nn_in (by omega) ?_ | refine Nz_in (by omega) ?_))
    exact Ret_in ⟨by rw [atP_all hbef]; rfl, H.all⟩

theorem shr_nat {n i k : Nat} (h : i ≤ k) : ((n : Int).fdiv (2 ^ min ((i : Int).toNat) k)) = ((n / 2 ^ i : Nat) : Int) := by
  rw [Int.toNat_natCast, Nat.min_eq_left h, Int.fdiv_eq_ediv_of_nonneg _ (by exact Int.le_of_lt (Int.pow_pos (by decide)))]
  rw [Int.natCast_ediv, Int.natCast_pow]; rfl
theorem Eqv_shrI {n i : Nat} {K : Int → Prop} (h : i ≤ 64) (hk : K ((n / 2 ^ i : Nat) : Int)) : Eqv ((n : Int).fdiv (2 ^ min ((i : Int).toNat) IntKind.i64.bits)) K := Eqv_is _ (shr_nat h) hk

theorem rRow (H : Sep w0 w l) {r : Nat} (hr : r < 64) : Does Try.prog 15 #[.int .i64 (r : Int)] w fun v w' => ∃ a c, v = .slice a 6 c ∧ Sep w0 w' (ownR a 6 c 4 1 ((rowV r).map bV) :: l) := by
  refine Does_intro tok (Try.call15 _ _) Try.func15 rfl (by rfl) ?_
  (repeat ((try conv => whnf); first | refine Join_dup ?_ | (refine Br_gate ?_; first | with_reducible refine Br_not ?_ | refine xB ?_ | refine xC ?_) | (refine Ld_gate ?_; refine xL ?_) | (refine LdN_gate ?_; refine xM ?_) | (refine St_gate ?_; refine xS ?_; clear H; intro w H) | (refine StN_gate ?_; refine xN ?_; clear H; intro w H) | (refine Kept_gate ?_; refine xK ?_) | (refine Ar_gate ?_; first | (fail_if_success skip) | refine xA ?_) | (first | with_reducible refine Eqv_shrI (by omega) ?_ | refine Eqv_in ?_) | refine Do_ptr_eq_nil tok rfl ?_ | refine Do_ptr_ne_nil tok rfl ?_ | refine Do_nil_eq_nil tok rfl ?_ | refine Nn_in (by omega) ?_ | refine Nz_in (by omega) ?_))
  (refine Nw_sep H ?_; clear H; intro nb w H; (try simp only [Value.cells, List.toList_toArray, List.append_nil, List.cons_append, List.nil_append] at H))
  replace H := H.row 0 0 1 rfl rfl (by decide) (by simp only [List.set_cons_succ, List.set_cons_zero]; rfl)
  (repeat ((try conv => whnf); first | refine Join_dup ?_ | (refine Br_gate ?_; first | with_reducible refine Br_not ?_ | refine xB ?_ | refine xC ?_) | (refine Ld_gate ?_; refine xL ?_) | (refine LdN_gate ?_; refine xM ?_) | (refine St_gate ?_; refine xS ?_; clear H; intro w H) | (refine StN_gate ?_; refine xN ?_; clear H; intro w H) | (refine Kept_gate ?_; refine xK ?_) | (refine Ar_gate ?_; first | (fail_if_success skip) | refine xA ?_) | (first | with_reducible refine Eqv_shrI (by omega) ?_ | refine Eqv_in ?_) | refine Do_ptr_eq_nil tok rfl ?_ | refine Do_ptr_ne_nil tok rfl ?_ | refine Do_nil_eq_nil tok rfl ?_ | refine Nn_in (by omega) ?_ | refine Nz_in (by omega) ?_))
  refine Loop_intro (fun s : Nat × Option Addr × Nat => [(4, .int .i64 (s.1 : Int)), (3, .slice s.2.1 s.1 s.2.2)]) (fun s w => s.1 ≤ 6 ∧ Sep w0 w (ownR s.2.1 s.1 s.2.2 4 1 (((rowV r).take s.1).map bV) :: l)) (fun s => 6 - s.1) (0, some ⟨nb, 0, none⟩, 0) ⟨rfl, rfl, trivial⟩ ⟨Nat.zero_le _, H⟩ ?_
  clear H
  rintro ⟨i, a, c⟩ w ⟨hi, H⟩
  simp only [] at hi H ⊢
  refine Br_dec (fun k => ?_) (fun k => ?_)
  · (repeat ((try conv => whnf); first | refine Join_dup ?_ | (refine Br_gate ?_; first | with_reducible refine Br_not ?_ | refine xB ?_ | refine xC ?_) | (refine Ld_gate ?_; refine xL ?_) | (refine LdN_gate ?_; refine xM ?_) | (refine St_gate ?_; refine xS ?_; clear H; intro w H) | (refine StN_gate ?_; refine xN ?_; clear H; intro w H) | (refine Kept_gate ?_; refine xK ?_) | (refine Ar_gate ?_; first | (fail_if_success skip) | refine xA ?_) | (first | with_reducible refine Eqv_shrI (by omega) ?_ | refine Eqv_in ?_) | refine Do_ptr_eq_nil tok rfl ?_ | refine Do_ptr_ne_nil tok rfl ?_ | refine Do_nil_eq_nil tok rfl ?_ | refine Nn_in (by omega) ?_ | refine Nz_in (by omega) ?_))
    (refine Nw_sep H ?_; clear H; intro mb w H; (try simp only [Value.cells, List.toList_toArray, List.append_nil, List.cons_append, List.nil_append] at H))
    (repeat ((try conv => whnf); first | refine Join_dup ?_ | (refine Br_gate ?_; first | with_reducible refine Br_not ?_ | refine xB ?_ | refine xC ?_) | (refine Ld_gate ?_; refine xL ?_) | (refine LdN_gate ?_; refine xM ?_) | (refine St_gate ?_; refine xS ?_; clear H; intro w H) | (refine StN_gate ?_; refine xN ?_; clear H; intro w H) | (refine Kept_gate ?_; refine xK ?_) | (refine Ar_gate ?_; first | (fail_if_success skip) | refine xA ?_) | (first | with_reducible refine Eqv_shrI (by omega) ?_ | refine Eqv_in ?_) | refine Do_ptr_eq_nil tok rfl ?_ | refine Do_ptr_ne_nil tok rfl ?_ | refine Do_nil_eq_nil tok rfl ?_ | refine Nn_in (by omega) ?_ | refine Nz_in (by omega) ?_))
    (refine DoN_gate ?_; refine append_one tok H rfl rfl rfl rfl rfl (by decide) (by repeat first | exact List.Mem.head _ | refine List.Mem.tail _ ?_) (m := 1) rfl (by simp [oneCell]) (by omega) (by unfold maxLen; omega) ?_; clear H; intro a' c' w H; replace H := H _ (by repeat first | exact Upd.head | apply Upd.tail))
    (repeat ((try conv => whnf); first | refine Join_dup ?_ | (refine Br_gate ?_; first | with_reducible refine Br_not ?_ | refine xB ?_ | refine xC ?_) | (refine Ld_gate ?_; refine xL ?_) | (refine LdN_gate ?_; refine xM ?_) | (refine St_gate ?_; refine xS ?_; clear H; intro w H) | (refine StN_gate ?_; refine xN ?_; clear H; intro w H) | (refine Kept_gate ?_; refine xK ?_) | (refine Ar_gate ?_; first | (fail_if_success skip) | refine xA ?_) | (first | with_reducible refine Eqv_shrI (by omega) ?_ | refine Eqv_in ?_) | refine Do_ptr_eq_nil tok rfl ?_ | refine Do_ptr_ne_nil tok rfl ?_ | refine Do_nil_eq_nil tok rfl ?_ | refine Nn_in (by omega) ?_ | refine Nz_in (by omega) ?_))
    refine ⟨(i + 1, a', c'), ⟨congrArg some (vint (by simp)), rfl, trivial⟩, ⟨by omega, ?_⟩, by simp; omega⟩
    have e : ((rowV r).take i).map bV ++ [.bool (((r / 2 ^ i % 2 : Nat) : Int) == 1)] = ((rowV r).take (i + 1)).map bV := by
      have h6 : (rowV r)[i]? = some (decide ((r >>> i) % 2 = 1)) := by
        unfold rowV
        rw [List.getElem?_map, List.getElem?_range (by omega)]; rfl
      rw [List.take_add_one, h6, List.map_append]
      congr 1
      show [_] = [_]
      congr 2
      rw [Nat.shiftRight_eq_div_pow, Bool.eq_iff_iff, beq_iff_eq, decide_eq_true_iff]
      generalize r / 2 ^ i % 2 = m
      omega
    rw [← e]
    exact H
  · obtain rfl : i = 6 := by omega
    (repeat ((try conv => whnf); first | refine Join_dup ?_ | (refine Br_gate ?_; first | with_reducible refine Br_not ?_ | refine xB ?_ | refine xC ?_) | (refine Ld_gate ?_; refine xL ?_) | (refine LdN_gate ?_; refine xM ?_) | (refine St_gate ?_; refine xS ?_; clear H; intro w H) | (refine StN_gate ?_; refine xN ?_; clear H; intro w H) | (refine Kept_gate ?_; refine xK ?_) | (refine Ar_gate ?_; first | (fail_if_success skip) | refine xA ?_) | (first | with_reducible refine Eqv_shrI (by omega) ?_ | refine Eqv_in ?_) | refine Do_ptr_eq_nil tok rfl ?_ | refine Do_ptr_ne_nil tok rfl ?_ | refine Do_nil_eq_nil tok rfl ?_ | refine Nn_in (by omega) ?_ | refine Nz_in (by omega) ?_))
    exact Ret_in ⟨a, c, rfl, H⟩
end
end Go.Proofs.Ytpllmfoaahaciaa
