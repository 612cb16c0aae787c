/- The law of orders: its function answers true. -/
import Derived.Test.YtodabklhbagljaaWatchL
set_option linter.unusedVariables false
set_option linter.unusedSimpArgs false
namespace Go.Watch
open Go.Trail
section
variable {S : Nat → Prop} {s : St} {n : Nat}
theorem free_fit {E : List Ent} {x : Int} (h : Go.Proofs.Ytodabklhbagljaa.freeNo n E x = 0) : okLit x = true ∧ var x ≤ n ∧ find E (var x) = none := by
  unfold Go.Proofs.Ytodabklhbagljaa.freeNo at h
  split at h
  · rename_i h1
    split at h
    · rename_i h2; exact ⟨var_pos.1 h1.1, h1.2, h2⟩
    · cases h
  · cases h
theorem free_cases {E : List Ent} {x : Int} : Go.Proofs.Ytodabklhbagljaa.freeNo n E x = 0 ∨ Go.Proofs.Ytodabklhbagljaa.freeNo n E x = 41 ∨ Go.Proofs.Ytodabklhbagljaa.freeNo n E x = 42 := by
  unfold Go.Proofs.Ytodabklhbagljaa.freeNo
  split
  · split
    · exact .inl rfl
    · exact .inr (.inr rfl)
  · exact .inr (.inl rfl)
end
theorem gamL_mem {L L' : List (List Int)} (h : ∀ k, k ∈ L → k ∈ L') {c : List Int} (hc : GamL L c) : GamL L' c := by
  obtain ⟨k, hk, h1⟩ := hc
  exact ⟨k, h k hk, h1⟩
end Go.Watch
namespace Go.Proofs.Ytodabklhbagljaa
open Go Go.Vc Go.Watch
open Go.Trail (Ent value find upto okLit litsV)
set_option maxHeartbeats 4000000
set_option maxRecDepth 100000

abbrev Fl := Option Addr × Nat × List Int
def flV (x : Fl) : Value := .slice x.1 x.2.2.length x.2.1
/-- A formula's clauses in memory. -/
structure FSrc (w : World) (a : Option Addr) (C : List (List Int)) (R : List Fl) : Prop where
  eq : R.map (fun x : Fl => x.2.2) = C
  rows : Src w a C.length 1 (R.map flV)
  cls : ∀ x ∈ R, Src w x.1 x.2.2.length 1 (x.2.2.map lV) ∧ x.2.2.length ≤ 9223372036854775807
theorem FSrc.len {w : World} {a : Option Addr} {C : List (List Int)} {R : List Fl} (h : FSrc w a C R) : R.length = C.length := by rw [← h.eq, List.length_map]
theorem FSrc.at {w : World} {a : Option Addr} {C : List (List Int)} {R : List Fl} (h : FSrc w a C R) {i : Nat} (hi : i < C.length) : ∃ x, R[i]? = some x ∧ C[i]? = some x.2.2 ∧ Src w x.1 x.2.2.length 1 (x.2.2.map lV) ∧ x.2.2.length ≤ 9223372036854775807 := by
  have hl := h.len
  have hx : R[i]? = some R[i] := List.getElem?_eq_getElem (by omega)
  have e := congrArg (fun l : List (List Int) => l[i]?) h.eq
  simp only [List.getElem?_map, hx, Option.map_some] at e
  exact ⟨_, hx, e.symm, h.cls _ (List.getElem_mem _)⟩

section
variable {w0 w W : World} {l : List Res} {eb : Nat} {s : St} {S : Nat → Prop} {m : Nat} {Δ : Int → Prop} {a xa : Option Addr} {c cx : Nat} {C : List (List Int)} {R : List Fl} {X : List Int} {n : Int}

/-- A literal decided on one engine. -/
theorem hDecide (H : Sep w0 w (engR eb s :: l)) {k : Nat} {L : List (List Int)} {S' : Nat → Prop} (h : Has S s k L Δ m) {x : Int} (hD : s.D ≤ 1000000) (hS : ∀ L, S' L → S L ∨ L = s.D + 1) (hS2 : S' (s.D + 1)) (hlate : ∀ e ∈ s.E.drop s.h, ∀ L, S' L → e.lev ≤ L → s.D + 1 ≤ L) :
    Does Try.prog 12 #[.pointer (some ⟨eb, 0, none⟩), lV x] w fun v w' => (v = .int .i64 0 ∧ freeNo s.n s.E x = 0 ∧ okLit x = true ∧ Has S' (Watch.decide' s x) k L (fun y => Δ y ∨ y = x) m ∧ Sep w0 w' (engR eb (Watch.decide' s x) :: l)) ∨
      ((∃ z : Int, v = .int .i64 z ∧ z ≠ 0 ∧ -1000 ≤ z ∧ z ≤ 1000) ∧ freeNo s.n s.E x ≠ 0 ∧ Sep w0 w' (engR eb s :: l)) := by
  refine (eDecide H hD).mono ?_
  rintro v w' ⟨rfl, H⟩
  rcases free_cases (n := s.n) (E := s.E) (x := x) with h0 | h0 | h0
  · obtain ⟨h1, h2, h3⟩ := free_fit h0
    rw [h0] at H ⊢
    rw [if_pos rfl] at H
    refine .inl ⟨by rw [if_neg (by decide)], rfl, h1, h.decide' h1 (by rw [← h.n]; exact h2) (Trail.value_none h.good.inv h1 h3) hS hS2 hlate, H⟩
  · rw [h0] at H ⊢
    rw [if_neg (by decide)] at H
    exact .inr ⟨⟨51, by rw [if_pos rfl], by decide, by decide, by decide⟩, by decide, H⟩
  · rw [h0] at H ⊢
    rw [if_neg (by decide)] at H
    exact .inr ⟨⟨42, by rw [if_neg (by decide)], by decide, by decide, by decide⟩, by decide, H⟩

theorem uOrders {turn : Int} (hs : FSrc W a C R) (hcap : C.length ≤ c) (hCl : C.length ≤ 9223372036854775807) (hx : Src W xa X.length 1 (X.map lV)) (hX : X.length ≤ 9223372036854775807) :
    Does Try.prog 3 #[.agg #[.int .i64 n, .slice a C.length c], .slice xa X.length cx, .int .i64 turn] W fun v w' => v = .bool true ∧ Sep W w' [] := by
  refine Does_intro tok (Try.call3 _ _) Try.func3 rfl (by rfl) ?_
  have H := Sep.nil W
  (repeat ((try conv => whnf); first | refine Join_dup ?_ | (refine Br_gate ?_; first | with_reducible refine Br_not ?_ | refine xB ?_ | refine xC ?_) | (refine Ld_gate ?_; refine xL ?_) | (refine LdN_gate ?_; refine xM ?_) | (refine St_gate ?_; refine xS ?_; clear H; intro w H) | (refine StN_gate ?_; refine xN ?_; clear H; intro w H) | (refine Kept_gate ?_; refine xK ?_) | (refine Ar_gate ?_; first | (fail_if_success skip) | refine xA ?_) | (refine Eqv_in ?_) | refine Do_ptr_eq_nil tok rfl ?_ | refine Do_ptr_ne_nil tok rfl ?_ | refine Do_nil_eq_nil tok rfl ?_ | refine Nn_in (by omega) ?_ | refine Nz_in (by omega) ?_))
  (refine Nw_sep H ?_; clear H; intro fb w H; (try simp only [Value.cells, List.toList_toArray, List.append_nil, List.cons_append, List.nil_append] at H))
  (repeat ((try conv => whnf); first | refine Join_dup ?_ | (refine Br_gate ?_; first | with_reducible refine Br_not ?_ | refine xB ?_ | refine xC ?_) | (refine Ld_gate ?_; refine xL ?_) | (refine LdN_gate ?_; refine xM ?_) | (refine St_gate ?_; refine xS ?_; clear H; intro w H) | (refine StN_gate ?_; refine xN ?_; clear H; intro w H) | (refine Kept_gate ?_; refine xK ?_) | (refine Ar_gate ?_; first | (fail_if_success skip) | refine xA ?_) | (refine Eqv_in ?_) | refine Do_ptr_eq_nil tok rfl ?_ | refine Do_ptr_ne_nil tok rfl ?_ | refine Do_nil_eq_nil tok rfl ?_ | refine Nn_in (by omega) ?_ | refine Nz_in (by omega) ?_))
  refine Call_of (wAlive w) ?_
  rintro _ w' ⟨rfl, HH⟩
  replace H := H.add HH
  clear HH
  by_cases hbad : n < 0 ∨ 30 < n ∨ 60 < C.length ∨ 20 < X.length ∨ turn < 0 ∨ (C.length : Int) < turn
  · by_cases b1 : n < 0
    · (repeat ((try conv => whnf); first | refine Join_dup ?_ | (refine Br_gate ?_; first | with_reducible refine Br_not ?_ | refine xB ?_ | refine xC ?_) | (refine Ld_gate ?_; refine xL ?_) | (refine LdN_gate ?_; refine xM ?_) | (refine St_gate ?_; refine xS ?_; clear H; intro w H) | (refine StN_gate ?_; refine xN ?_; clear H; intro w H) | (refine Kept_gate ?_; refine xK ?_) | (refine Ar_gate ?_; first | (fail_if_success skip) | refine xA ?_) | (refine Eqv_in ?_) | refine Do_ptr_eq_nil tok rfl ?_ | refine Do_ptr_ne_nil tok rfl ?_ | refine Do_nil_eq_nil tok rfl ?_ | refine Nn_in (by omega) ?_ | refine Nz_in (by omega) ?_))
      exact Ret_in ⟨rfl, H.all⟩
    by_cases b2 : 30 < n
    · (repeat ((try conv => whnf); first | refine Join_dup ?_ | (refine Br_gate ?_; first | with_reducible refine Br_not ?_ | refine xB ?_ | refine xC ?_) | (refine Ld_gate ?_; refine xL ?_) | (refine LdN_gate ?_; refine xM ?_) | (refine St_gate ?_; refine xS ?_; clear H; intro w H) | (refine StN_gate ?_; refine xN ?_; clear H; intro w H) | (refine Kept_gate ?_; refine xK ?_) | (refine Ar_gate ?_; first | (fail_if_success skip) | refine xA ?_) | (refine Eqv_in ?_) | refine Do_ptr_eq_nil tok rfl ?_ | refine Do_ptr_ne_nil tok rfl ?_ | refine Do_nil_eq_nil tok rfl ?_ | refine Nn_in (by omega) ?_ | refine Nz_in (by omega) ?_))
      exact Ret_in ⟨rfl, H.all⟩
    by_cases b3 : 60 < C.length
    · (repeat ((try conv => whnf); first | refine Join_dup ?_ | (refine Br_gate ?_; first | with_reducible refine Br_not ?_ | refine xB ?_ | refine xC ?_) | (refine Ld_gate ?_; refine xL ?_) | (refine LdN_gate ?_; refine xM ?_) | (refine St_gate ?_; refine xS ?_; clear H; intro w H) | (refine StN_gate ?_; refine xN ?_; clear H; intro w H) | (refine Kept_gate ?_; refine xK ?_) | (refine Ar_gate ?_; first | (fail_if_success skip) | refine xA ?_) | (refine Eqv_in ?_) | refine Do_ptr_eq_nil tok rfl ?_ | refine Do_ptr_ne_nil tok rfl ?_ | refine Do_nil_eq_nil tok rfl ?_ | refine Nn_in (by omega) ?_ | refine Nz_in (by omega) ?_))
      exact Ret_in ⟨rfl, H.all⟩
    by_cases b4 : 20 < X.length
    · (repeat ((try conv => whnf); first | refine Join_dup ?_ | (refine Br_gate ?_; first | with_reducible refine Br_not ?_ | refine xB ?_ | refine xC ?_) | (refine Ld_gate ?_; refine xL ?_) | (refine LdN_gate ?_; refine xM ?_) | (refine St_gate ?_; refine xS ?_; clear H; intro w H) | (refine StN_gate ?_; refine xN ?_; clear H; intro w H) | (refine Kept_gate ?_; refine xK ?_) | (refine Ar_gate ?_; first | (fail_if_success skip) | refine xA ?_) | (refine Eqv_in ?_) | refine Do_ptr_eq_nil tok rfl ?_ | refine Do_ptr_ne_nil tok rfl ?_ | refine Do_nil_eq_nil tok rfl ?_ | refine Nn_in (by omega) ?_ | refine Nz_in (by omega) ?_))
      exact Ret_in ⟨rfl, H.all⟩
    by_cases b5 : turn < 0
    · (repeat ((try conv => whnf); first | refine Join_dup ?_ | (refine Br_gate ?_; first | with_reducible refine Br_not ?_ | refine xB ?_ | refine xC ?_) | (refine Ld_gate ?_; refine xL ?_) | (refine LdN_gate ?_; refine xM ?_) | (refine St_gate ?_; refine xS ?_; clear H; intro w H) | (refine StN_gate ?_; refine xN ?_; clear H; intro w H) | (refine Kept_gate ?_; refine xK ?_) | (refine Ar_gate ?_; first | (fail_if_success skip) | refine xA ?_) | (refine Eqv_in ?_) | refine Do_ptr_eq_nil tok rfl ?_ | refine Do_ptr_ne_nil tok rfl ?_ | refine Do_nil_eq_nil tok rfl ?_ | refine Nn_in (by omega) ?_ | refine Nz_in (by omega) ?_))
      exact Ret_in ⟨rfl, H.all⟩
    (repeat ((try conv => whnf); first | refine Join_dup ?_ | (refine Br_gate ?_; first | with_reducible refine Br_not ?_ | refine xB ?_ | refine xC ?_) | (refine Ld_gate ?_; refine xL ?_) | (refine LdN_gate ?_; refine xM ?_) | (refine St_gate ?_; refine xS ?_; clear H; intro w H) | (refine StN_gate ?_; refine xN ?_; clear H; intro w H) | (refine Kept_gate ?_; refine xK ?_) | (refine Ar_gate ?_; first | (fail_if_success skip) | refine xA ?_) | (refine Eqv_in ?_) | refine Do_ptr_eq_nil tok rfl ?_ | refine Do_ptr_ne_nil tok rfl ?_ | refine Do_nil_eq_nil tok rfl ?_ | refine Nn_in (by omega) ?_ | refine Nz_in (by omega) ?_))
    exact Ret_in ⟨rfl, H.all⟩
  obtain ⟨k, rfl⟩ : ∃ k : Nat, n = k := ⟨n.toNat, by omega⟩
  obtain ⟨tn, rfl⟩ : ∃ t : Nat, turn = t := ⟨turn.toNat, by omega⟩
  have hk : k ≤ 30 := by omega
  have hC60 : C.length ≤ 60 := by omega
  have hX20 : X.length ≤ 20 := by omega
  have htn : tn ≤ C.length := by omega
  clear hbad
  (repeat ((try conv => whnf); first | refine Join_dup ?_ | (refine Br_gate ?_; first | with_reducible refine Br_not ?_ | refine xB ?_ | refine xC ?_) | (refine Ld_gate ?_; refine xL ?_) | (refine LdN_gate ?_; refine xM ?_) | (refine St_gate ?_; refine xS ?_; clear H; intro w H) | (refine StN_gate ?_; refine xN ?_; clear H; intro w H) | (refine Kept_gate ?_; refine xK ?_) | (refine Ar_gate ?_; first | (fail_if_success skip) | refine xA ?_) | (refine Eqv_in ?_) | refine Do_ptr_eq_nil tok rfl ?_ | refine Do_ptr_ne_nil tok rfl ?_ | refine Do_nil_eq_nil tok rfl ?_ | refine Nn_in (by omega) ?_ | refine Nz_in (by omega) ?_))
  refine Draw_intro mixed [0, 1, 3, 4, 2, 5, 6, 7] (by decide +kernel) (fun w _ fd => ?_); replace H := H.fr fd; clear fd
  (repeat ((try conv => whnf); first | refine Join_dup ?_ | (refine Br_gate ?_; first | with_reducible refine Br_not ?_ | refine xB ?_ | refine xC ?_) | (refine Ld_gate ?_; refine xL ?_) | (refine LdN_gate ?_; refine xM ?_) | (refine St_gate ?_; refine xS ?_; clear H; intro w H) | (refine StN_gate ?_; refine xN ?_; clear H; intro w H) | (refine Kept_gate ?_; refine xK ?_) | (refine Ar_gate ?_; first | (fail_if_success skip) | refine xA ?_) | (refine Eqv_in ?_) | refine Do_ptr_eq_nil tok rfl ?_ | refine Do_ptr_ne_nil tok rfl ?_ | refine Do_nil_eq_nil tok rfl ?_ | refine Nn_in (by omega) ?_ | refine Nz_in (by omega) ?_))
  (try conv => whnf)
  have hkn : (max 0 (min (k : Int) 262144)).toNat = k := by omega
  refine Call_of (eNew H (k : Int)) ?_
  clear H
  rintro _ w ⟨ea, rfl, H⟩
  rw [hkn] at H
  (try conv => whnf)
  (repeat (refine Kept_gate ?_; first | refine Kept_in (Sep.cellAt H (by repeat first | exact List.Mem.head _ | refine List.Mem.tail _ ?_) (by rfl)) ?_ | refine Kept_in (Sep.cellN H (by repeat first | exact List.Mem.head _ | refine List.Mem.tail _ ?_)) ?_))
  (try conv => whnf)
  refine Call_of (eNew H (k : Int)) ?_
  clear H
  rintro _ w ⟨eb, rfl, H⟩
  rw [hkn] at H
  (try conv => whnf)
  (repeat (refine Kept_gate ?_; first | refine Kept_in (Sep.cellAt H (by repeat first | exact List.Mem.head _ | refine List.Mem.tail _ ?_) (by rfl)) ?_ | refine Kept_in (Sep.cellN H (by repeat first | exact List.Mem.head _ | refine List.Mem.tail _ ?_)) ?_))
  (repeat ((try conv => whnf); first | refine Join_dup ?_ | (refine Br_gate ?_; first | with_reducible refine Br_not ?_ | refine xB ?_ | refine xC ?_) | (refine Ld_gate ?_; refine xL ?_) | (refine LdN_gate ?_; refine xM ?_) | (refine St_gate ?_; refine xS ?_; clear H; intro w H) | (refine StN_gate ?_; refine xN ?_; clear H; intro w H) | (refine Kept_gate ?_; refine xK ?_) | (refine Ar_gate ?_; first | (fail_if_success skip) | refine xA ?_) | (refine Eqv_in ?_) | refine Do_ptr_eq_nil tok rfl ?_ | refine Do_ptr_ne_nil tok rfl ?_ | refine Do_nil_eq_nil tok rfl ?_ | refine Nn_in (by omega) ?_ | refine Nz_in (by omega) ?_))
  replace H : Vc.Sep W w [engR eb (st0 k), engR ea (st0 k), cellsR fb 24 [.int .i64 (k : Int), .slice a C.length c]] := H
  replace H := H.top 1 rfl (by simp only [List.eraseIdx_cons_succ, List.eraseIdx_cons_zero]; rfl)
  have hnew := Has.new (n := k) (by omega) (S := fun L => L = 0) rfl
  refine Loop_intro (fun q : Nat × St => [(63, .int .i64 (q.1 : Int))]) (fun q w => (q.1 ≤ C.length ∧ Has (fun L => L = 0) q.2 k (C.take q.1) (fun _ => False) q.1 ∧ (∀ x ∈ C.take q.1, fitB k x = true ∧ x.length ≤ 20) ∧ q.2.E = [] ∧ q.2.D = 0 ∧ q.2.h = 0) ∧ Sep W w [engR ea q.2, engR eb (st0 k), cellsR fb 24 [.int .i64 (k : Int), .slice a C.length c]]) (fun q => C.length - q.1)
    (0, st0 k) ⟨rfl, trivial⟩ ⟨⟨Nat.zero_le _, by simpa using hnew, by simp, rfl, rfl, rfl⟩, H⟩ ?_
  clear H
  rintro ⟨i, sa⟩ w ⟨⟨hi, ha, hfit, hE, hD, hh⟩, H⟩
  simp only [] at hi ha hfit hE hD hh H ⊢
  refine Br_dec (fun k1 => ?_) (fun k1 => ?_)
  · have hlt : i < C.length := by omega
    obtain ⟨⟨ya, yc, ys⟩, hy, hyC, hys, hyl⟩ := hs.at hlt
    simp only [] at hyC hys hyl
    obtain ⟨rb, ro, rfl⟩ := hs.rows.addr (by rw [List.length_map, hs.len]; omega)
    have htk : C.take (i + 1) = C.take i ++ [ys] := by rw [List.take_add_one, hyC]; rfl
    refine Ix_in i rfl hlt ?_
    refine Ld_src (j := i) (H.rd hs.rows) (v := .slice ya ys.length yc) (by rw [List.getElem?_map, hy]; rfl) ?_
    (repeat ((try conv => whnf); first | refine Join_dup ?_ | (refine Br_gate ?_; first | with_reducible refine Br_not ?_ | refine xB ?_ | refine xC ?_) | (refine Ld_gate ?_; refine xL ?_) | (refine LdN_gate ?_; refine xM ?_) | (refine St_gate ?_; refine xS ?_; clear H; intro w H) | (refine StN_gate ?_; refine xN ?_; clear H; intro w H) | (refine Kept_gate ?_; refine xK ?_) | (refine Ar_gate ?_; first | (fail_if_success skip) | refine xA ?_) | (refine Eqv_in ?_) | refine Do_ptr_eq_nil tok rfl ?_ | refine Do_ptr_ne_nil tok rfl ?_ | refine Do_nil_eq_nil tok rfl ?_ | refine Nn_in (by omega) ?_ | refine Nz_in (by omega) ?_))
    by_cases h20 : 20 < ys.length
    · (repeat ((try conv => whnf); first | refine Join_dup ?_ | (refine Br_gate ?_; first | with_reducible refine Br_not ?_ | refine xB ?_ | refine xC ?_) | (refine Ld_gate ?_; refine xL ?_) | (refine LdN_gate ?_; refine xM ?_) | (refine St_gate ?_; refine xS ?_; clear H; intro w H) | (refine StN_gate ?_; refine xN ?_; clear H; intro w H) | (refine Kept_gate ?_; refine xK ?_) | (refine Ar_gate ?_; first | (fail_if_success skip) | refine xA ?_) | (refine Eqv_in ?_) | refine Do_ptr_eq_nil tok rfl ?_ | refine Do_ptr_ne_nil tok rfl ?_ | refine Do_nil_eq_nil tok rfl ?_ | refine Nn_in (by omega) ?_ | refine Nz_in (by omega) ?_))
      exact Ret_in ⟨rfl, H.all⟩
    (repeat ((try conv => whnf); first | refine Join_dup ?_ | (refine Br_gate ?_; first | with_reducible refine Br_not ?_ | refine xB ?_ | refine xC ?_) | (refine Ld_gate ?_; refine xL ?_) | (refine LdN_gate ?_; refine xM ?_) | (refine St_gate ?_; refine xS ?_; clear H; intro w H) | (refine StN_gate ?_; refine xN ?_; clear H; intro w H) | (refine Kept_gate ?_; refine xK ?_) | (refine Ar_gate ?_; first | (fail_if_success skip) | refine xA ?_) | (refine Eqv_in ?_) | refine Do_ptr_eq_nil tok rfl ?_ | refine Do_ptr_ne_nil tok rfl ?_ | refine Do_nil_eq_nil tok rfl ?_ | refine Nn_in (by omega) ?_ | refine Nz_in (by omega) ?_))
    refine Call_of (hAdd H ha (fun h => h.rd hys) (by omega) (by rw [List.length_take]; omega) (by omega)) ?_
    clear H
    rintro _ w (⟨hf, rfl, H⟩ | ⟨hf, rfl, s2, h2, e2, d2, hh2, y2', H⟩)
    · (repeat ((try conv => whnf); first | refine Join_dup ?_ | (refine Br_gate ?_; first | with_reducible refine Br_not ?_ | refine xB ?_ | refine xC ?_) | (refine Ld_gate ?_; refine xL ?_) | (refine LdN_gate ?_; refine xM ?_) | (refine St_gate ?_; refine xS ?_; clear H; intro w H) | (refine StN_gate ?_; refine xN ?_; clear H; intro w H) | (refine Kept_gate ?_; refine xK ?_) | (refine Ar_gate ?_; first | (fail_if_success skip) | refine xA ?_) | (refine Eqv_in ?_) | refine Do_ptr_eq_nil tok rfl ?_ | refine Do_ptr_ne_nil tok rfl ?_ | refine Do_nil_eq_nil tok rfl ?_ | refine Nn_in (by omega) ?_ | refine Nz_in (by omega) ?_))
      exact Ret_in ⟨rfl, H.all⟩
    · rw [← htk] at h2
      (repeat ((try conv => whnf); first | refine Join_dup ?_ | (refine Br_gate ?_; first | with_reducible refine Br_not ?_ | refine xB ?_ | refine xC ?_) | (refine Ld_gate ?_; refine xL ?_) | (refine LdN_gate ?_; refine xM ?_) | (refine St_gate ?_; refine xS ?_; clear H; intro w H) | (refine StN_gate ?_; refine xN ?_; clear H; intro w H) | (refine Kept_gate ?_; refine xK ?_) | (refine Ar_gate ?_; first | (fail_if_success skip) | refine xA ?_) | (refine Eqv_in ?_) | refine Do_ptr_eq_nil tok rfl ?_ | refine Do_ptr_ne_nil tok rfl ?_ | refine Do_nil_eq_nil tok rfl ?_ | refine Nn_in (by omega) ?_ | refine Nz_in (by omega) ?_))
      exact ⟨(i + 1, s2), ⟨congrArg some (vint (by simp)), trivial⟩, ⟨⟨by omega, h2, fun x hx => by
        rw [htk, List.mem_append, List.mem_singleton] at hx
        rcases hx with hx | rfl
        · exact hfit x hx
        · exact ⟨hf, by omega⟩, by rw [e2, hE], by rw [d2, hD], by rw [hh2, hh]⟩, H⟩, by simp; omega⟩
  obtain rfl : i = C.length := by omega
  rw [List.take_length] at ha hfit
  have hsd := hs.rows.drop (l := tn) (cap := c) htn hcap
  (repeat ((try conv => whnf); first | refine Join_dup ?_ | (refine Br_gate ?_; first | with_reducible refine Br_not ?_ | refine xB ?_ | refine xC ?_) | (refine Ld_gate ?_; refine xL ?_) | (refine LdN_gate ?_; refine xM ?_) | (refine St_gate ?_; refine xS ?_; clear H; intro w H) | (refine StN_gate ?_; refine xN ?_; clear H; intro w H) | (refine Kept_gate ?_; refine xK ?_) | (refine Ar_gate ?_; first | (fail_if_success skip) | refine xA ?_) | (refine Eqv_in ?_) | refine Do_ptr_eq_nil tok rfl ?_ | refine Do_ptr_ne_nil tok rfl ?_ | refine Do_nil_eq_nil tok rfl ?_ | refine Nn_in (by omega) ?_ | refine Nz_in (by omega) ?_))
  refine Do_slice tok rfl rfl tn C.length (.inr ⟨_, rfl⟩) (.inl ⟨rfl, rfl⟩) htn hcap ?_
  generalize (if c = tn then a else a.map (·.add (tn * 1))) = a2 at hsd ⊢
  (repeat ((try conv => whnf); first | refine Join_dup ?_ | (refine Br_gate ?_; first | with_reducible refine Br_not ?_ | refine xB ?_ | refine xC ?_) | (refine Ld_gate ?_; refine xL ?_) | (refine LdN_gate ?_; refine xM ?_) | (refine St_gate ?_; refine xS ?_; clear H; intro w H) | (refine StN_gate ?_; refine xN ?_; clear H; intro w H) | (refine Kept_gate ?_; refine xK ?_) | (refine Ar_gate ?_; first | (fail_if_success skip) | refine xA ?_) | (refine Eqv_in ?_) | refine Do_ptr_eq_nil tok rfl ?_ | refine Do_ptr_ne_nil tok rfl ?_ | refine Do_nil_eq_nil tok rfl ?_ | refine Nn_in (by omega) ?_ | refine Nz_in (by omega) ?_))
  replace H := H.top 1 rfl (by simp only [List.eraseIdx_cons_succ, List.eraseIdx_cons_zero]; rfl)
  refine Loop_intro (fun q : Nat × St => [(84, .int .i64 (q.1 : Int))]) (fun q w => (q.1 ≤ C.length - tn ∧ Has (fun L => L = 0) q.2 k ((C.drop tn).take q.1) (fun _ => False) q.1 ∧ q.2.E = [] ∧ q.2.D = 0 ∧ q.2.h = 0) ∧ Sep W w [engR eb q.2, engR ea sa, cellsR fb 24 [.int .i64 (k : Int), .slice a C.length c]]) (fun q => C.length - q.1)
    (0, st0 k) ⟨rfl, trivial⟩ ⟨⟨Nat.zero_le _, by simpa using hnew, rfl, rfl, rfl⟩, H⟩ ?_
  clear H
  rintro ⟨j, sb⟩ w ⟨⟨hj, hb, hEb, hDb, hhb⟩, H⟩
  simp only [] at hj hb hEb hDb hhb H ⊢
  refine Br_dec (fun k2 => ?_) (fun k2 => ?_)
  · have hlt : tn + j < C.length := by omega
    obtain ⟨⟨ya, yc, ys⟩, hy, hyC, hys, hyl⟩ := hs.at hlt
    simp only [] at hyC hys hyl
    obtain ⟨rb, ro, rfl⟩ := hsd.addr (by rw [List.length_drop, List.length_map, hs.len]; omega)
    have hyD : (C.drop tn)[j]? = some ys := by rw [List.getElem?_drop]; exact hyC
    have htk : (C.drop tn).take (j + 1) = (C.drop tn).take j ++ [ys] := by rw [List.take_add_one, hyD]; rfl
    refine Ix_in j rfl (by omega) ?_
    refine Ld_src (j := j) (H.rd hsd) (v := .slice ya ys.length yc) (by rw [List.getElem?_drop, Nat.mul_one, List.getElem?_map, hy]; rfl) ?_
    (repeat ((try conv => whnf); first | refine Join_dup ?_ | (refine Br_gate ?_; first | with_reducible refine Br_not ?_ | refine xB ?_ | refine xC ?_) | (refine Ld_gate ?_; refine xL ?_) | (refine LdN_gate ?_; refine xM ?_) | (refine St_gate ?_; refine xS ?_; clear H; intro w H) | (refine StN_gate ?_; refine xN ?_; clear H; intro w H) | (refine Kept_gate ?_; refine xK ?_) | (refine Ar_gate ?_; first | (fail_if_success skip) | refine xA ?_) | (refine Eqv_in ?_) | refine Do_ptr_eq_nil tok rfl ?_ | refine Do_ptr_ne_nil tok rfl ?_ | refine Do_nil_eq_nil tok rfl ?_ | refine Nn_in (by omega) ?_ | refine Nz_in (by omega) ?_))
    have hys6 := hfit ys (List.mem_of_getElem? hyC)
    refine Call_of (hAdd H hb (fun h => h.rd hys) (by omega) (by rw [List.length_take]; omega) (by omega)) ?_
    clear H
    rintro _ w (⟨hf, rfl, H⟩ | ⟨hf, rfl, s2, h2, e2, d2, hh2, y2', H⟩)
    · rw [hf] at hys6; cases hys6.1
    · rw [← htk] at h2
      (repeat ((try conv => whnf); first | refine Join_dup ?_ | (refine Br_gate ?_; first | with_reducible refine Br_not ?_ | refine xB ?_ | refine xC ?_) | (refine Ld_gate ?_; refine xL ?_) | (refine LdN_gate ?_; refine xM ?_) | (refine St_gate ?_; refine xS ?_; clear H; intro w H) | (refine StN_gate ?_; refine xN ?_; clear H; intro w H) | (refine Kept_gate ?_; refine xK ?_) | (refine Ar_gate ?_; first | (fail_if_success skip) | refine xA ?_) | (refine Eqv_in ?_) | refine Do_ptr_eq_nil tok rfl ?_ | refine Do_ptr_ne_nil tok rfl ?_ | refine Do_nil_eq_nil tok rfl ?_ | refine Nn_in (by omega) ?_ | refine Nz_in (by omega) ?_))
      exact ⟨(j + 1, s2), ⟨congrArg some (vint (by simp)), trivial⟩, ⟨⟨by omega, h2, by rw [e2, hEb], by rw [d2, hDb], by rw [hh2, hhb]⟩, H⟩, by simp; omega⟩
  obtain rfl : j = C.length - tn := by omega
  have htd : (C.drop tn).take (C.length - tn) = C.drop tn := List.take_of_length_le (by rw [List.length_drop]; omega)
  rw [htd] at hb
  (repeat ((try conv => whnf); first | refine Join_dup ?_ | (refine Br_gate ?_; first | with_reducible refine Br_not ?_ | refine xB ?_ | refine xC ?_) | (refine Ld_gate ?_; refine xL ?_) | (refine LdN_gate ?_; refine xM ?_) | (refine St_gate ?_; refine xS ?_; clear H; intro w H) | (refine StN_gate ?_; refine xN ?_; clear H; intro w H) | (refine Kept_gate ?_; refine xK ?_) | (refine Ar_gate ?_; first | (fail_if_success skip) | refine xA ?_) | (refine Eqv_in ?_) | refine Do_ptr_eq_nil tok rfl ?_ | refine Do_ptr_ne_nil tok rfl ?_ | refine Do_nil_eq_nil tok rfl ?_ | refine Nn_in (by omega) ?_ | refine Nz_in (by omega) ?_))
  replace H := H.top 1 rfl (by simp only [List.eraseIdx_cons_succ, List.eraseIdx_cons_zero]; rfl)
  have ha0 : Has (fun L => L = sa.D) sa k C (fun _ => False) 200 := { ha.weaken (S' := fun L => L = sa.D) (fun L h => by rw [h, hD]) rfl with few := by have := ha.few; omega }
  have hb0 : Has (fun L => L = sb.D) sb k (C.drop tn) (fun _ => False) 200 := { hb.weaken (S' := fun L => L = sb.D) (fun L h => by rw [h, hDb]) rfl with few := by have := hb.few; omega }
  refine Loop_intro (fun q : Nat × St × St × (Int → Prop) => [(94, .int .i64 (q.1 : Int))]) (fun q w => (q.1 ≤ X.length ∧ Has (fun L => L = q.2.1.D) q.2.1 k C q.2.2.2 200 ∧ Has (fun L => L = q.2.2.1.D) q.2.2.1 k (C.drop tn) q.2.2.2 200 ∧ q.2.1.E = q.2.2.1.E ∧ q.2.1.D = q.2.2.1.D ∧ q.2.1.D ≤ q.1) ∧ Sep W w [engR ea q.2.1, engR eb q.2.2.1, cellsR fb 24 [.int .i64 (k : Int), .slice a C.length c]]) (fun q => X.length - q.1)
    (0, sa, sb, fun _ => False) ⟨rfl, trivial⟩ ⟨⟨Nat.zero_le _, ha0, hb0, by rw [hE, hEb], by rw [hD, hDb], by rw [hD]; exact Nat.le_refl _⟩, H⟩ ?_
  clear H ha hb ha0 hb0 hE hD hh hEb hDb hhb sa sb
  rintro ⟨i, sa, sb, Δ⟩ w ⟨⟨hi, ha, hb, hE, hD, hDi⟩, H⟩
  simp only [] at hi ha hb hE hD hDi H ⊢
  refine Br_dec (fun k3 => ?_) (fun k3 => ?_)
  · have hlt : i < X.length := by omega
    obtain ⟨xb, xo, rfl⟩ := hx.addr (by rw [List.length_map]; omega)
    have hxi : X[i]? = some X[i] := List.getElem?_eq_getElem hlt
    generalize X[i] = y at hxi
    have hna := ha.n
    have hnb := hb.n
    have hfr : freeNo sb.n sb.E y = freeNo sa.n sa.E y := by rw [hna, hnb, hE]
    refine Ix_in i rfl hlt ?_
    refine Ld_src (j := i) (H.rd hx) (v := lV y) (by rw [List.getElem?_map, hxi]; rfl) ?_
    obtain ⟨ra, hra, H⟩ := engOpen H
    (repeat ((try conv => whnf); first | refine Join_dup ?_ | (refine Br_gate ?_; first | with_reducible refine Br_not ?_ | refine xB ?_ | refine xC ?_) | (refine Ld_gate ?_; refine xL ?_) | (refine LdN_gate ?_; refine xM ?_) | (refine St_gate ?_; refine xS ?_; clear H; intro w H) | (refine StN_gate ?_; refine xN ?_; clear H; intro w H) | (refine Kept_gate ?_; refine xK ?_) | (refine Ar_gate ?_; first | (fail_if_success skip) | refine xA ?_) | (refine Eqv_in ?_) | refine Do_ptr_eq_nil tok rfl ?_ | refine Do_ptr_ne_nil tok rfl ?_ | refine Do_nil_eq_nil tok rfl ?_ | refine Nn_in (by omega) ?_ | refine Nz_in (by omega) ?_))
    refine Call_of (sTrailValue H (by repeat first | exact List.Mem.head _ | refine List.Mem.tail _ ?_)) ?_
    rintro _ _ ⟨rfl, rfl⟩
    replace H := engClose hra H
    by_cases hv : value sa.E y = 0
    · (repeat ((try conv => whnf); first | refine Join_dup ?_ | (refine Br_gate ?_; first | with_reducible refine Br_not ?_ | refine xB ?_ | refine xC ?_) | (refine Ld_gate ?_; refine xL ?_) | (refine LdN_gate ?_; refine xM ?_) | (refine St_gate ?_; refine xS ?_; clear H; intro w H) | (refine StN_gate ?_; refine xN ?_; clear H; intro w H) | (refine Kept_gate ?_; refine xK ?_) | (refine Ar_gate ?_; first | (fail_if_success skip) | refine xA ?_) | (refine Eqv_in ?_) | refine Do_ptr_eq_nil tok rfl ?_ | refine Do_ptr_ne_nil tok rfl ?_ | refine Do_nil_eq_nil tok rfl ?_ | refine Nn_in (by omega) ?_ | refine Nz_in (by omega) ?_))
      refine Call_of (hDecide H ha (S' := fun L => L = sa.D + 1) (x := y) (by omega) (fun L h => .inr h) rfl (fun e _ L h _ => by omega)) ?_
      clear H
      rintro _ w (⟨rfl, hf0, hyo, h2, H⟩ | ⟨⟨z, rfl, hz0, hz1, hz2⟩, hf0, H⟩)
      · (repeat ((try conv => whnf); first | refine Join_dup ?_ | (refine Br_gate ?_; first | with_reducible refine Br_not ?_ | refine xB ?_ | refine xC ?_) | (refine Ld_gate ?_; refine xL ?_) | (refine LdN_gate ?_; refine xM ?_) | (refine St_gate ?_; refine xS ?_; clear H; intro w H) | (refine StN_gate ?_; refine xN ?_; clear H; intro w H) | (refine Kept_gate ?_; refine xK ?_) | (refine Ar_gate ?_; first | (fail_if_success skip) | refine xA ?_) | (refine Eqv_in ?_) | refine Do_ptr_eq_nil tok rfl ?_ | refine Do_ptr_ne_nil tok rfl ?_ | refine Do_nil_eq_nil tok rfl ?_ | refine Nn_in (by omega) ?_ | refine Nz_in (by omega) ?_))
        replace H := H.top 1 rfl (by simp only [List.eraseIdx_cons_succ, List.eraseIdx_cons_zero]; rfl)
        refine Call_of (hDecide H hb (S' := fun L => L = sb.D + 1) (x := y) (by omega) (fun L h => .inr h) rfl (fun e _ L h _ => by omega)) ?_
        clear H
        rintro _ w (⟨rfl, _, _, h3, H⟩ | ⟨_, hf1, _⟩)
        · replace H := H.top 1 rfl (by simp only [List.eraseIdx_cons_succ, List.eraseIdx_cons_zero]; rfl)
          (repeat ((try conv => whnf); first | refine Join_dup ?_ | (refine Br_gate ?_; first | with_reducible refine Br_not ?_ | refine xB ?_ | refine xC ?_) | (refine Ld_gate ?_; refine xL ?_) | (refine LdN_gate ?_; refine xM ?_) | (refine St_gate ?_; refine xS ?_; clear H; intro w H) | (refine StN_gate ?_; refine xN ?_; clear H; intro w H) | (refine Kept_gate ?_; refine xK ?_) | (refine Ar_gate ?_; first | (fail_if_success skip) | refine xA ?_) | (refine Eqv_in ?_) | refine Do_ptr_eq_nil tok rfl ?_ | refine Do_ptr_ne_nil tok rfl ?_ | refine Do_nil_eq_nil tok rfl ?_ | refine Nn_in (by omega) ?_ | refine Nz_in (by omega) ?_))
          exact ⟨(i + 1, Watch.decide' sa y, Watch.decide' sb y, fun x => Δ x ∨ x = y), ⟨congrArg some (vint (by simp)), trivial⟩, ⟨⟨by omega, h2, h3, by
            show sa.E ++ [_] = sb.E ++ [_]
            rw [hE, hD], by show sa.D + 1 = sb.D + 1; omega, by show sa.D + 1 ≤ i + 1; omega⟩, H⟩, by simp; omega⟩
        · exact (hf1 (by rw [hfr]; exact hf0)).elim
      · (repeat ((try conv => whnf); first | refine Join_dup ?_ | (refine Br_gate ?_; first | with_reducible refine Br_not ?_ | refine xB ?_ | refine xC ?_) | (refine Ld_gate ?_; refine xL ?_) | (refine LdN_gate ?_; refine xM ?_) | (refine St_gate ?_; refine xS ?_; clear H; intro w H) | (refine StN_gate ?_; refine xN ?_; clear H; intro w H) | (refine Kept_gate ?_; refine xK ?_) | (refine Ar_gate ?_; first | (fail_if_success skip) | refine xA ?_) | (refine Eqv_in ?_) | refine Do_ptr_eq_nil tok rfl ?_ | refine Do_ptr_ne_nil tok rfl ?_ | refine Do_nil_eq_nil tok rfl ?_ | refine Nn_in (by omega) ?_ | refine Nz_in (by omega) ?_))
        exact ⟨(i + 1, sa, sb, Δ), ⟨congrArg some (vint (by simp)), trivial⟩, ⟨⟨by omega, ha, hb, hE, hD, Nat.le_succ_of_le hDi⟩, H⟩, by simp; omega⟩
    · (repeat ((try conv => whnf); first | refine Join_dup ?_ | (refine Br_gate ?_; first | with_reducible refine Br_not ?_ | refine xB ?_ | refine xC ?_) | (refine Ld_gate ?_; refine xL ?_) | (refine LdN_gate ?_; refine xM ?_) | (refine St_gate ?_; refine xS ?_; clear H; intro w H) | (refine StN_gate ?_; refine xN ?_; clear H; intro w H) | (refine Kept_gate ?_; refine xK ?_) | (refine Ar_gate ?_; first | (fail_if_success skip) | refine xA ?_) | (refine Eqv_in ?_) | refine Do_ptr_eq_nil tok rfl ?_ | refine Do_ptr_ne_nil tok rfl ?_ | refine Do_nil_eq_nil tok rfl ?_ | refine Nn_in (by omega) ?_ | refine Nz_in (by omega) ?_))
      exact ⟨(i + 1, sa, sb, Δ), ⟨congrArg some (vint (by simp)), trivial⟩, ⟨⟨by omega, ha, hb, hE, hD, Nat.le_succ_of_le hDi⟩, H⟩, by simp; omega⟩
  obtain rfl : i = X.length := by omega
  have hs4 := (hs.rows.take htn).drop (l := 0) (cap := c) (Nat.zero_le _) (by omega)
  (repeat ((try conv => whnf); first | refine Join_dup ?_ | (refine Br_gate ?_; first | with_reducible refine Br_not ?_ | refine xB ?_ | refine xC ?_) | (refine Ld_gate ?_; refine xL ?_) | (refine LdN_gate ?_; refine xM ?_) | (refine St_gate ?_; refine xS ?_; clear H; intro w H) | (refine StN_gate ?_; refine xN ?_; clear H; intro w H) | (refine Kept_gate ?_; refine xK ?_) | (refine Ar_gate ?_; first | (fail_if_success skip) | refine xA ?_) | (refine Eqv_in ?_) | refine Do_ptr_eq_nil tok rfl ?_ | refine Do_ptr_ne_nil tok rfl ?_ | refine Do_nil_eq_nil tok rfl ?_ | refine Nn_in (by omega) ?_ | refine Nz_in (by omega) ?_))
  refine Do_slice tok rfl rfl 0 tn (.inl ⟨rfl, rfl⟩) (.inr ⟨_, rfl⟩) (Nat.zero_le _) (by omega) ?_
  generalize (if c = 0 then a else a.map (·.add (0 * 1))) = a4 at hs4 ⊢
  (repeat ((try conv => whnf); first | refine Join_dup ?_ | (refine Br_gate ?_; first | with_reducible refine Br_not ?_ | refine xB ?_ | refine xC ?_) | (refine Ld_gate ?_; refine xL ?_) | (refine LdN_gate ?_; refine xM ?_) | (refine St_gate ?_; refine xS ?_; clear H; intro w H) | (refine StN_gate ?_; refine xN ?_; clear H; intro w H) | (refine Kept_gate ?_; refine xK ?_) | (refine Ar_gate ?_; first | (fail_if_success skip) | refine xA ?_) | (refine Eqv_in ?_) | refine Do_ptr_eq_nil tok rfl ?_ | refine Do_ptr_ne_nil tok rfl ?_ | refine Do_nil_eq_nil tok rfl ?_ | refine Nn_in (by omega) ?_ | refine Nz_in (by omega) ?_))
  replace H := H.top 1 rfl (by simp only [List.eraseIdx_cons_succ, List.eraseIdx_cons_zero]; rfl)
  obtain ⟨d, hd⟩ : ∃ d, sb.D = d := ⟨_, rfl⟩
  rw [hd] at hb
  refine Loop_intro (fun q : Nat × St => [(123, .int .i64 (q.1 : Int))]) (fun q w => (q.1 ≤ tn ∧ Has (fun L => L = d) q.2 k (C.drop tn ++ C.take q.1) Δ (200 + q.1)) ∧ Sep W w [engR eb q.2, engR ea sa, cellsR fb 24 [.int .i64 (k : Int), .slice a C.length c]]) (fun q => tn - q.1)
    (0, sb) ⟨rfl, trivial⟩ ⟨⟨Nat.zero_le _, by simpa using hb⟩, H⟩ ?_
  clear H hE hD hb hd sb
  rintro ⟨j, sb⟩ w ⟨⟨hj, hb⟩, H⟩
  simp only [] at hj hb H ⊢
  refine Br_dec (fun k4 => ?_) (fun k4 => ?_)
  · have hlt : j < C.length := by omega
    obtain ⟨⟨ya, yc, ys⟩, hy, hyC, hys, hyl⟩ := hs.at hlt
    simp only [] at hyC hys hyl
    have hRl := hs.len
    obtain ⟨rb, ro, rfl⟩ := hs4.addr (by simp only [List.length_drop, List.length_take, List.length_map]; omega)
    have htk : C.drop tn ++ C.take (j + 1) = C.drop tn ++ C.take j ++ [ys] := by rw [List.take_add_one, hyC, List.append_assoc]; rfl
    refine Ix_in j rfl (by omega) ?_
    refine Ld_src (j := j) (H.rd hs4) (v := .slice ya ys.length yc) (by
      rw [List.getElem?_drop, List.getElem?_take, if_pos (by omega), List.getElem?_map, show 0 * 1 + j = j by omega, hy]; rfl) ?_
    (repeat ((try conv => whnf); first | refine Join_dup ?_ | (refine Br_gate ?_; first | with_reducible refine Br_not ?_ | refine xB ?_ | refine xC ?_) | (refine Ld_gate ?_; refine xL ?_) | (refine LdN_gate ?_; refine xM ?_) | (refine St_gate ?_; refine xS ?_; clear H; intro w H) | (refine StN_gate ?_; refine xN ?_; clear H; intro w H) | (refine Kept_gate ?_; refine xK ?_) | (refine Ar_gate ?_; first | (fail_if_success skip) | refine xA ?_) | (refine Eqv_in ?_) | refine Do_ptr_eq_nil tok rfl ?_ | refine Do_ptr_ne_nil tok rfl ?_ | refine Do_nil_eq_nil tok rfl ?_ | refine Nn_in (by omega) ?_ | refine Nz_in (by omega) ?_))
    have hys6 := hfit ys (List.mem_of_getElem? hyC)
    refine Call_of (hAdd H hb (fun h => h.rd hys) (by omega) (by simp; omega) (by omega)) ?_
    clear H
    rintro _ w (⟨hf, rfl, H⟩ | ⟨hf, rfl, s2, h2, e2, d2, hh2, y2', H⟩)
    · rw [hf] at hys6; cases hys6.1
    · rw [← htk] at h2
      (repeat ((try conv => whnf); first | refine Join_dup ?_ | (refine Br_gate ?_; first | with_reducible refine Br_not ?_ | refine xB ?_ | refine xC ?_) | (refine Ld_gate ?_; refine xL ?_) | (refine LdN_gate ?_; refine xM ?_) | (refine St_gate ?_; refine xS ?_; clear H; intro w H) | (refine StN_gate ?_; refine xN ?_; clear H; intro w H) | (refine Kept_gate ?_; refine xK ?_) | (refine Ar_gate ?_; first | (fail_if_success skip) | refine xA ?_) | (refine Eqv_in ?_) | refine Do_ptr_eq_nil tok rfl ?_ | refine Do_ptr_ne_nil tok rfl ?_ | refine Do_nil_eq_nil tok rfl ?_ | refine Nn_in (by omega) ?_ | refine Nz_in (by omega) ?_))
      exact ⟨(j + 1, s2), ⟨congrArg some (vint (by simp)), trivial⟩, ⟨⟨by omega, h2⟩, H⟩, by simp; omega⟩
  obtain rfl : j = tn := by omega
  (repeat ((try conv => whnf); first | refine Join_dup ?_ | (refine Br_gate ?_; first | with_reducible refine Br_not ?_ | refine xB ?_ | refine xC ?_) | (refine Ld_gate ?_; refine xL ?_) | (refine LdN_gate ?_; refine xM ?_) | (refine St_gate ?_; refine xS ?_; clear H; intro w H) | (refine StN_gate ?_; refine xN ?_; clear H; intro w H) | (refine Kept_gate ?_; refine xK ?_) | (refine Ar_gate ?_; first | (fail_if_success skip) | refine xA ?_) | (refine Eqv_in ?_) | refine Do_ptr_eq_nil tok rfl ?_ | refine Do_ptr_ne_nil tok rfl ?_ | refine Do_nil_eq_nil tok rfl ?_ | refine Nn_in (by omega) ?_ | refine Nz_in (by omega) ?_))
  replace H := H.top 1 rfl (by simp only [List.eraseIdx_cons_succ, List.eraseIdx_cons_zero]; rfl)
  refine Call_of (hProp H ha (by
    have : (k + 1) * (C.length + 1) ≤ 31 * 61 := Nat.mul_le_mul (by omega) (by omega)
    omega) (by omega)) ?_
  clear H
  rintro _ w ⟨sa2, z1, rfl, b1, b2, o1, ha2, xa2, H⟩
  (repeat ((try conv => whnf); first | refine Join_dup ?_ | (refine Br_gate ?_; first | with_reducible refine Br_not ?_ | refine xB ?_ | refine xC ?_) | (refine Ld_gate ?_; refine xL ?_) | (refine LdN_gate ?_; refine xM ?_) | (refine St_gate ?_; refine xS ?_; clear H; intro w H) | (refine StN_gate ?_; refine xN ?_; clear H; intro w H) | (refine Kept_gate ?_; refine xK ?_) | (refine Ar_gate ?_; first | (fail_if_success skip) | refine xA ?_) | (refine Eqv_in ?_) | refine Do_ptr_eq_nil tok rfl ?_ | refine Do_ptr_ne_nil tok rfl ?_ | refine Do_nil_eq_nil tok rfl ?_ | refine Nn_in (by omega) ?_ | refine Nz_in (by omega) ?_))
  replace H := H.top 1 rfl (by simp only [List.eraseIdx_cons_succ, List.eraseIdx_cons_zero]; rfl)
  refine Call_of (hProp H hb (by
    have : (k + 1) * ((C.drop j ++ C.take j).length + 1) ≤ 31 * 61 := Nat.mul_le_mul (by omega) (by simp; omega)
    omega) (by simp; omega)) ?_
  clear H
  rintro _ w ⟨sb2, z2, rfl, b3, b4, o2, hb2, xb2, H⟩
  have hmem : ∀ c, c ∈ C ↔ c ∈ C.drop j ++ C.take j := by
    intro c
    conv => lhs; rw [← List.take_append_drop j C]
    rw [List.mem_append, List.mem_append, or_comm]
  have hG : ∀ c, GamL C c ↔ GamL (C.drop j ++ C.take j) c := fun c => ⟨gamL_mem fun k h => (hmem k).1 h, gamL_mem fun k h => (hmem k).2 h⟩
  have hneg : z1 < 0 ↔ z2 < 0 := by rw [o1.neg, o2.neg, Conf.iff hG fun x => Iff.rfl]
  (repeat ((try conv => whnf); first | refine Join_dup ?_ | (refine Br_gate ?_; first | with_reducible refine Br_not ?_ | refine xB ?_ | refine xC ?_) | (refine Ld_gate ?_; refine xL ?_) | (refine LdN_gate ?_; refine xM ?_) | (refine St_gate ?_; refine xS ?_; clear H; intro w H) | (refine StN_gate ?_; refine xN ?_; clear H; intro w H) | (refine Kept_gate ?_; refine xK ?_) | (refine Ar_gate ?_; first | (fail_if_success skip) | refine xA ?_) | (refine Eqv_in ?_) | refine Do_ptr_eq_nil tok rfl ?_ | refine Do_ptr_ne_nil tok rfl ?_ | refine Do_nil_eq_nil tok rfl ?_ | refine Nn_in (by omega) ?_ | refine Nz_in (by omega) ?_))
  refine Do_bool_ne tok rfl ?_
  have hdd : (!(decide (0 ≤ z1) == decide (0 ≤ z2))) = false := by
    by_cases h : z1 < 0
    · have := hneg.1 h
      rw [decide_eq_false (by omega), decide_eq_false (by omega)]; rfl
    · have : ¬ z2 < 0 := fun h2 => h (hneg.2 h2)
      rw [decide_eq_true (by omega), decide_eq_true (by omega)]; rfl
  rw [hdd]
  (repeat ((try conv => whnf); first | refine Join_dup ?_ | (refine Br_gate ?_; first | with_reducible refine Br_not ?_ | refine xB ?_ | refine xC ?_) | (refine Ld_gate ?_; refine xL ?_) | (refine LdN_gate ?_; refine xM ?_) | (refine St_gate ?_; refine xS ?_; clear H; intro w H) | (refine StN_gate ?_; refine xN ?_; clear H; intro w H) | (refine Kept_gate ?_; refine xK ?_) | (refine Ar_gate ?_; first | (fail_if_success skip) | refine xA ?_) | (refine Eqv_in ?_) | refine Do_ptr_eq_nil tok rfl ?_ | refine Do_ptr_ne_nil tok rfl ?_ | refine Do_nil_eq_nil tok rfl ?_ | refine Nn_in (by omega) ?_ | refine Nz_in (by omega) ?_))
  refine Loop_intro (fun q : Nat => [(21, .int .i64 ((q + 1 : Nat) : Int))]) (fun q w => q ≤ k ∧ Sep W w [engR eb sb2, engR ea sa2, cellsR fb 24 [.int .i64 (k : Int), .slice a C.length c]]) (fun q => k - q) 0 ⟨rfl, trivial⟩ ⟨Nat.zero_le _, H⟩ ?_
  clear H
  rintro q w ⟨hq, H⟩
  simp only [] at hq H ⊢
  (repeat ((try conv => whnf); first | refine Join_dup ?_ | (refine Br_gate ?_; first | with_reducible refine Br_not ?_ | refine xB ?_ | refine xC ?_) | (refine Ld_gate ?_; refine xL ?_) | (refine LdN_gate ?_; refine xM ?_) | (refine St_gate ?_; refine xS ?_; clear H; intro w H) | (refine StN_gate ?_; refine xN ?_; clear H; intro w H) | (refine Kept_gate ?_; refine xK ?_) | (refine Ar_gate ?_; first | (fail_if_success skip) | refine xA ?_) | (refine Eqv_in ?_) | refine Do_ptr_eq_nil tok rfl ?_ | refine Do_ptr_ne_nil tok rfl ?_ | refine Do_nil_eq_nil tok rfl ?_ | refine Nn_in (by omega) ?_ | refine Nz_in (by omega) ?_))
  by_cases hqk : q < k
  case neg =>
    (repeat ((try conv => whnf); first | refine Join_dup ?_ | (refine Br_gate ?_; first | with_reducible refine Br_not ?_ | refine xB ?_ | refine xC ?_) | (refine Ld_gate ?_; refine xL ?_) | (refine LdN_gate ?_; refine xM ?_) | (refine St_gate ?_; refine xS ?_; clear H; intro w H) | (refine StN_gate ?_; refine xN ?_; clear H; intro w H) | (refine Kept_gate ?_; refine xK ?_) | (refine Ar_gate ?_; first | (fail_if_success skip) | refine xA ?_) | (refine Eqv_in ?_) | refine Do_ptr_eq_nil tok rfl ?_ | refine Do_ptr_ne_nil tok rfl ?_ | refine Do_nil_eq_nil tok rfl ?_ | refine Nn_in (by omega) ?_ | refine Nz_in (by omega) ?_))
    exact Ret_in ⟨rfl, H.all⟩
  by_cases hz : z1 < 0
  case neg =>
    (repeat ((try conv => whnf); first | refine Join_dup ?_ | (refine Br_gate ?_; first | with_reducible refine Br_not ?_ | refine xB ?_ | refine xC ?_) | (refine Ld_gate ?_; refine xL ?_) | (refine LdN_gate ?_; refine xM ?_) | (refine St_gate ?_; refine xS ?_; clear H; intro w H) | (refine StN_gate ?_; refine xN ?_; clear H; intro w H) | (refine Kept_gate ?_; refine xK ?_) | (refine Ar_gate ?_; first | (fail_if_success skip) | refine xA ?_) | (refine Eqv_in ?_) | refine Do_ptr_eq_nil tok rfl ?_ | refine Do_ptr_ne_nil tok rfl ?_ | refine Do_nil_eq_nil tok rfl ?_ | refine Nn_in (by omega) ?_ | refine Nz_in (by omega) ?_))
    exact Ret_in ⟨rfl, H.all⟩
  have hc1 := (o1.closed hz).1
  have hc2 := (o2.closed (hneg.1 hz)).1
  have hvok : okLit ((q + 1 : Nat) : Int) = true := Trail.okLit_iff.2 ⟨by omega, by omega, by omega⟩
  have hval := val_same ha2.good hb2.good hvok fun x => (hc1 x).trans ((Fo.iff hG (fun _ => Iff.rfl) x).trans (hc2 x).symm)
  (repeat ((try conv => whnf); first | refine Join_dup ?_ | (refine Br_gate ?_; first | with_reducible refine Br_not ?_ | refine xB ?_ | refine xC ?_) | (refine Ld_gate ?_; refine xL ?_) | (refine LdN_gate ?_; refine xM ?_) | (refine St_gate ?_; refine xS ?_; clear H; intro w H) | (refine StN_gate ?_; refine xN ?_; clear H; intro w H) | (refine Kept_gate ?_; refine xK ?_) | (refine Ar_gate ?_; first | (fail_if_success skip) | refine xA ?_) | (refine Eqv_in ?_) | refine Do_ptr_eq_nil tok rfl ?_ | refine Do_ptr_ne_nil tok rfl ?_ | refine Do_nil_eq_nil tok rfl ?_ | refine Nn_in (by omega) ?_ | refine Nz_in (by omega) ?_))
  refine Draw_intro mixed [0, 1, 2, 3, 4, 5, 7, 8, 9, 10, 11, 12, 6, 13, 14] (by decide +kernel) (fun w _ fd => ?_); replace H := H.fr fd; clear fd
  obtain ⟨rb, hrb, H⟩ := engOpen H
  replace H := H.top 8 rfl (by simp only [List.eraseIdx_cons_succ, List.eraseIdx_cons_zero]; rfl)
  obtain ⟨ra, hra, H⟩ := engOpen H
  (repeat ((try conv => whnf); first | refine Join_dup ?_ | (refine Br_gate ?_; first | with_reducible refine Br_not ?_ | refine xB ?_ | refine xC ?_) | (refine Ld_gate ?_; refine xL ?_) | (refine LdN_gate ?_; refine xM ?_) | (refine St_gate ?_; refine xS ?_; clear H; intro w H) | (refine StN_gate ?_; refine xN ?_; clear H; intro w H) | (refine Kept_gate ?_; refine xK ?_) | (refine Ar_gate ?_; first | (fail_if_success skip) | refine xA ?_) | (refine Eqv_in ?_) | refine Do_ptr_eq_nil tok rfl ?_ | refine Do_ptr_ne_nil tok rfl ?_ | refine Do_nil_eq_nil tok rfl ?_ | refine Nn_in (by omega) ?_ | refine Nz_in (by omega) ?_))
  (try conv => whnf)
  refine Call_of (sTrailValue H (.tail _ (.head _))) ?_
  rintro _ _ ⟨rfl, rfl⟩
  (try conv => whnf)
  (repeat (refine Kept_gate ?_; first | refine Kept_in (Sep.cellAt H (by repeat first | exact List.Mem.head _ | refine List.Mem.tail _ ?_) (by rfl)) ?_ | refine Kept_in (Sep.cellN H (by repeat first | exact List.Mem.head _ | refine List.Mem.tail _ ?_)) ?_))
  (try conv => whnf)
  refine Call_of (sTrailValue H (.tail _ (.tail _ (.tail _ (.tail _ (.tail _ (.tail _ (.tail _ (.tail _ (.tail _ (.head _))))))))))) ?_
  rintro _ _ ⟨rfl, rfl⟩
  rw [hval]
  (repeat ((try conv => whnf); first | refine Join_dup ?_ | (refine Br_gate ?_; first | with_reducible refine Br_not ?_ | refine xB ?_ | refine xC ?_) | (refine Ld_gate ?_; refine xL ?_) | (refine LdN_gate ?_; refine xM ?_) | (refine St_gate ?_; refine xS ?_; clear H; intro w H) | (refine StN_gate ?_; refine xN ?_; clear H; intro w H) | (refine Kept_gate ?_; refine xK ?_) | (refine Ar_gate ?_; first | (fail_if_success skip) | refine xA ?_) | (refine Eqv_in ?_) | refine Do_ptr_eq_nil tok rfl ?_ | refine Do_ptr_ne_nil tok rfl ?_ | refine Do_nil_eq_nil tok rfl ?_ | refine Nn_in (by omega) ?_ | refine Nz_in (by omega) ?_))
  refine ⟨q + 1, ⟨congrArg some (vint (by omega)), trivial⟩, ⟨by omega, ?_⟩, by omega⟩
  exact engClose hrb (engSink (engClose hra H))
end
end Go.Proofs.Ytodabklhbagljaa
