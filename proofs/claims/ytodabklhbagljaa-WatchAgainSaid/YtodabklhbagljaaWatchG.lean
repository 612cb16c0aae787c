/- The law of going back and on again: its function answers true. -/
import Derived.Test.YtodabklhbagljaaWatchT
import Derived.Test.YtodabklhbagljaaLitE
set_option linter.unusedVariables false
set_option linter.unusedSimpArgs false
namespace Go.Watch
open Go.Trail
section
variable {S : Nat → Prop} {s s' : St} {n m : Nat} {L : List (List Int)} {Δ : Int → Prop}
theorem Has.back (h : Has (fun _ => True) s n L Δ m) (hc : s.h = s.E.length) {k : Nat} (hk : k ≤ s.D) : ∃ Δ', (∀ x, Δ' x → Δ x) ∧ Has (fun _ => True) (Watch.back s k) n L Δ' (2 * m) ∧ (Watch.back s k).h = (Watch.back s k).E.length ∧ (Watch.back s k).E = upto s.E k ∧ (Watch.back s k).D = k := by
  have hf := back_few s k s.Y.length
  have hm := h.few
  refine ⟨Dec (Watch.back s k), ?_, ⟨h.good.back trivial hk, h.n, fun c => h.gam c, fun x => Iff.rfl, h.len, ?_⟩, ?_, rfl, rfl⟩
  · rintro x ⟨e, he, h1, h2⟩
    refine (h.dec x).1 ⟨e, ?_, h1, h2⟩
    have he' : e ∈ upto s.E k := he
    unfold upto at he'
    exact (List.mem_filter.1 he').1
  · rw [back_all]
    show (backF s k s.Y.length).length + (backY s k s.Y.length).length ≤ 2 * m
    omega
  · have : (upto s.E k).length ≤ s.E.length := List.length_filter_le _ _
    show min s.h (upto s.E k).length = (upto s.E k).length
    omega
theorem upto_zero (hg : Good S s) (hD : s.D = 0) : upto s.E 0 = s.E := by
  rw [← hD]
  exact Go.Proofs.Ytodabklhbagljaa.upto_all hg.inv
theorem Has.yBound (h : Has S s n L Δ m) {d : Nat} (hL : L.length ≤ 1000000) (hD : s.D ≤ 1000000) : ∀ p ∈ s.Y, p.1 ≤ 1048576 ∧ p.2 ≤ 1000000 := by
  intro p hp
  obtain ⟨h1, c, h2, _⟩ := h.good.yo p hp
  have h3 := (List.getElem?_eq_some_iff.1 h2).1
  have h4 := h.len
  omega
theorem Has.tru_fo (h : Has S s n L Δ m) {x : Int} (ht : tru s.E x) : Fo (GamL L) Δ x := (Fo.iff h.gam h.dec x).1 (h.good.tru_fo ht)
end
def litL (s : St) : List Int := s.E.map fun e => e.lit
theorem litL_len (s : St) : (litL s).length = s.E.length := List.length_map ..
theorem litL_mem {s : St} (x : Int) : x ∈ litL s ↔ tru s.E x := List.mem_map
end Go.Watch
namespace Go.Proofs.Ytodabklhbagljaa
open Go Go.Vc Go.Watch
open Go.Trail (Ent value find upto okLit litsV)
set_option maxHeartbeats 4000000
set_option maxRecDepth 100000
section
variable {w0 w W : World} {l : List Res} {eb : Nat} {s : St} {S : Nat → Prop} {m : Nat} {Δ : Int → Prop} {a xa : Option Addr} {c cx : Nat} {C : List (List Int)} {R : List Fl} {X : List Int} {n : Int}

theorem eTrue2 (H : Sep w0 w (engR eb s :: l)) (hE : s.E.length ≤ 1000000) : Does Try.prog 16 #[.pointer (some ⟨eb, 0, none⟩)] w fun v w' =>
    ∃ a c, v = .slice a (litL s).length c ∧ Sep w0 w' (ownR a (litL s).length c 32 1 ((litL s).map lV) :: engR eb s :: l) := by
  rw [litL_len]
  exact eTrue H hE

theorem uAgain (hs : FSrc W a C R) (hCl : C.length ≤ 9223372036854775807) (hx : Src W xa X.length 1 (X.map lV)) (hX : X.length ≤ 9223372036854775807) :
    Does Try.prog 5 #[.agg #[.int .i64 n, .slice a C.length c], .slice xa X.length cx] W fun v w' => v = .bool true ∧ Sep W w' [] := by
  refine Does_intro tok (Try.call5 _ _) Try.func5 rfl (by rfl) ?_
  have H := Sep.nil W
  (repeat ((try conv => whnf); first | refine Join_dup ?_ | (refine Br_gate ?_; first | with_reducible refine Br_not ?_ | refine xB ?_ | refine xC ?_) | (refine Ld_gate ?_; refine xL ?_) | (refine LdN_gate ?_; refine xM ?_) | (refine St_gate ?_; refine xS ?_; clear H; intro w H) | (refine StN_gate ?_; refine xN ?_; clear H; intro w H) | (refine Kept_gate ?_; refine xK ?_) | (refine Ar_gate ?_; first | (fail_if_success skip) | refine xA ?_) | (refine Eqv_in ?_) | refine Do_ptr_eq_nil tok rfl ?_ | refine Do_ptr_ne_nil tok rfl ?_ | refine Do_nil_eq_nil tok rfl ?_ | refine Nn_in (by omega) ?_ | refine Nz_in (by omega) ?_))
  (refine Nw_sep H ?_; clear H; intro fb w H; (try simp only [Value.cells, List.toList_toArray, List.append_nil, List.cons_append, List.nil_append] at H))
  (repeat ((try conv => whnf); first | refine Join_dup ?_ | (refine Br_gate ?_; first | with_reducible refine Br_not ?_ | refine xB ?_ | refine xC ?_) | (refine Ld_gate ?_; refine xL ?_) | (refine LdN_gate ?_; refine xM ?_) | (refine St_gate ?_; refine xS ?_; clear H; intro w H) | (refine StN_gate ?_; refine xN ?_; clear H; intro w H) | (refine Kept_gate ?_; refine xK ?_) | (refine Ar_gate ?_; first | (fail_if_success skip) | refine xA ?_) | (refine Eqv_in ?_) | refine Do_ptr_eq_nil tok rfl ?_ | refine Do_ptr_ne_nil tok rfl ?_ | refine Do_nil_eq_nil tok rfl ?_ | refine Nn_in (by omega) ?_ | refine Nz_in (by omega) ?_))
  refine Call_of (wAlive w) ?_
  rintro _ w' ⟨rfl, HH⟩
  replace H := H.add HH
  clear HH
  by_cases b1 : n < 0
  · (repeat ((try conv => whnf); first | refine Join_dup ?_ | (refine Br_gate ?_; first | with_reducible refine Br_not ?_ | refine xB ?_ | refine xC ?_) | (refine Ld_gate ?_; refine xL ?_) | (refine LdN_gate ?_; refine xM ?_) | (refine St_gate ?_; refine xS ?_; clear H; intro w H) | (refine StN_gate ?_; refine xN ?_; clear H; intro w H) | (refine Kept_gate ?_; refine xK ?_) | (refine Ar_gate ?_; first | (fail_if_success skip) | refine xA ?_) | (refine Eqv_in ?_) | refine Do_ptr_eq_nil tok rfl ?_ | refine Do_ptr_ne_nil tok rfl ?_ | refine Do_nil_eq_nil tok rfl ?_ | refine Nn_in (by omega) ?_ | refine Nz_in (by omega) ?_))
    exact Ret_in ⟨rfl, H.all⟩
  by_cases b2 : 30 < n
  · (repeat ((try conv => whnf); first | refine Join_dup ?_ | (refine Br_gate ?_; first | with_reducible refine Br_not ?_ | refine xB ?_ | refine xC ?_) | (refine Ld_gate ?_; refine xL ?_) | (refine LdN_gate ?_; refine xM ?_) | (refine St_gate ?_; refine xS ?_; clear H; intro w H) | (refine StN_gate ?_; refine xN ?_; clear H; intro w H) | (refine Kept_gate ?_; refine xK ?_) | (refine Ar_gate ?_; first | (fail_if_success skip) | refine xA ?_) | (refine Eqv_in ?_) | refine Do_ptr_eq_nil tok rfl ?_ | refine Do_ptr_ne_nil tok rfl ?_ | refine Do_nil_eq_nil tok rfl ?_ | refine Nn_in (by omega) ?_ | refine Nz_in (by omega) ?_))
    exact Ret_in ⟨rfl, H.all⟩
  by_cases b3 : 60 < C.length
  · (repeat ((try conv => whnf); first | refine Join_dup ?_ | (refine Br_gate ?_; first | with_reducible refine Br_not ?_ | refine xB ?_ | refine xC ?_) | (refine Ld_gate ?_; refine xL ?_) | (refine LdN_gate ?_; refine xM ?_) | (refine St_gate ?_; refine xS ?_; clear H; intro w H) | (refine StN_gate ?_; refine xN ?_; clear H; intro w H) | (refine Kept_gate ?_; refine xK ?_) | (refine Ar_gate ?_; first | (fail_if_success skip) | refine xA ?_) | (refine Eqv_in ?_) | refine Do_ptr_eq_nil tok rfl ?_ | refine Do_ptr_ne_nil tok rfl ?_ | refine Do_nil_eq_nil tok rfl ?_ | refine Nn_in (by omega) ?_ | refine Nz_in (by omega) ?_))
    exact Ret_in ⟨rfl, H.all⟩
  by_cases b4 : 20 < X.length
  · (repeat ((try conv => whnf); first | refine Join_dup ?_ | (refine Br_gate ?_; first | with_reducible refine Br_not ?_ | refine xB ?_ | refine xC ?_) | (refine Ld_gate ?_; refine xL ?_) | (refine LdN_gate ?_; refine xM ?_) | (refine St_gate ?_; refine xS ?_; clear H; intro w H) | (refine StN_gate ?_; refine xN ?_; clear H; intro w H) | (refine Kept_gate ?_; refine xK ?_) | (refine Ar_gate ?_; first | (fail_if_success skip) | refine xA ?_) | (refine Eqv_in ?_) | refine Do_ptr_eq_nil tok rfl ?_ | refine Do_ptr_ne_nil tok rfl ?_ | refine Do_nil_eq_nil tok rfl ?_ | refine Nn_in (by omega) ?_ | refine Nz_in (by omega) ?_))
    exact Ret_in ⟨rfl, H.all⟩
  obtain ⟨k, rfl⟩ : ∃ k : Nat, n = k := ⟨n.toNat, by omega⟩
  (repeat ((try conv => whnf); first | refine Join_dup ?_ | (refine Br_gate ?_; first | with_reducible refine Br_not ?_ | refine xB ?_ | refine xC ?_) | (refine Ld_gate ?_; refine xL ?_) | (refine LdN_gate ?_; refine xM ?_) | (refine St_gate ?_; refine xS ?_; clear H; intro w H) | (refine StN_gate ?_; refine xN ?_; clear H; intro w H) | (refine Kept_gate ?_; refine xK ?_) | (refine Ar_gate ?_; first | (fail_if_success skip) | refine xA ?_) | (refine Eqv_in ?_) | refine Do_ptr_eq_nil tok rfl ?_ | refine Do_ptr_ne_nil tok rfl ?_ | refine Do_nil_eq_nil tok rfl ?_ | refine Nn_in (by omega) ?_ | refine Nz_in (by omega) ?_))
  have hkn : (max 0 (min (k : Int) 262144)).toNat = k := by omega
  refine Call_of (eNew H (k : Int)) ?_
  clear H
  rintro _ w ⟨eb, rfl, H⟩
  rw [hkn] at H
  (repeat ((try conv => whnf); first | refine Join_dup ?_ | (refine Br_gate ?_; first | with_reducible refine Br_not ?_ | refine xB ?_ | refine xC ?_) | (refine Ld_gate ?_; refine xL ?_) | (refine LdN_gate ?_; refine xM ?_) | (refine St_gate ?_; refine xS ?_; clear H; intro w H) | (refine StN_gate ?_; refine xN ?_; clear H; intro w H) | (refine Kept_gate ?_; refine xK ?_) | (refine Ar_gate ?_; first | (fail_if_success skip) | refine xA ?_) | (refine Eqv_in ?_) | refine Do_ptr_eq_nil tok rfl ?_ | refine Do_ptr_ne_nil tok rfl ?_ | refine Do_nil_eq_nil tok rfl ?_ | refine Nn_in (by omega) ?_ | refine Nz_in (by omega) ?_))
  replace H : Vc.Sep W w [engR eb (st0 k), cellsR fb 24 [.int .i64 (k : Int), .slice a C.length c]] := H
  have hnew := Has.new (n := k) (by omega) (S := fun _ => True) trivial
  refine Loop_intro (fun q : Nat × St => [(47, .int .i64 (q.1 : Int))]) (fun q w => (q.1 ≤ C.length ∧ Has (fun _ => True) q.2 k ((C.take q.1).filter (fitB k)) (fun _ => False) q.1 ∧ q.2.E = [] ∧ q.2.D = 0) ∧
    Sep W w [engR eb q.2, cellsR fb 24 [.int .i64 (k : Int), .slice a C.length c]]) (fun q => C.length - q.1)
    (0, st0 k) ⟨rfl, trivial⟩ ⟨⟨Nat.zero_le _, by simpa using hnew, rfl, rfl⟩, H⟩ ?_
  clear H
  rintro ⟨i, s⟩ w ⟨⟨hi, ha, hEa⟩, H⟩
  simp only [] at hi ha hEa H ⊢
  refine Br_dec (fun k1 => ?_) (fun k1 => ?_)
  · have hlt : i < C.length := by omega
    obtain ⟨⟨ya, yc, ys⟩, hy, hyC, hys, hyl⟩ := hs.at hlt
    simp only [] at hyC hys hyl
    obtain ⟨rb, ro, rfl⟩ := hs.rows.addr (by rw [List.length_map, hs.len]; omega)
    have hnx := filter_next (n := k) hyC
    have hfl := filter_len (n := k) (C := C) (i := i)
    refine Ix_in i rfl hlt ?_
    refine Ld_src (j := i) (H.rd hs.rows) (v := .slice ya ys.length yc) (by rw [List.getElem?_map, hy]; rfl) ?_
    (repeat ((try conv => whnf); first | refine Join_dup ?_ | (refine Br_gate ?_; first | with_reducible refine Br_not ?_ | refine xB ?_ | refine xC ?_) | (refine Ld_gate ?_; refine xL ?_) | (refine LdN_gate ?_; refine xM ?_) | (refine St_gate ?_; refine xS ?_; clear H; intro w H) | (refine StN_gate ?_; refine xN ?_; clear H; intro w H) | (refine Kept_gate ?_; refine xK ?_) | (refine Ar_gate ?_; first | (fail_if_success skip) | refine xA ?_) | (refine Eqv_in ?_) | refine Do_ptr_eq_nil tok rfl ?_ | refine Do_ptr_ne_nil tok rfl ?_ | refine Do_nil_eq_nil tok rfl ?_ | refine Nn_in (by omega) ?_ | refine Nz_in (by omega) ?_))
    by_cases h20 : 20 < ys.length
    · (repeat ((try conv => whnf); first | refine Join_dup ?_ | (refine Br_gate ?_; first | with_reducible refine Br_not ?_ | refine xB ?_ | refine xC ?_) | (refine Ld_gate ?_; refine xL ?_) | (refine LdN_gate ?_; refine xM ?_) | (refine St_gate ?_; refine xS ?_; clear H; intro w H) | (refine StN_gate ?_; refine xN ?_; clear H; intro w H) | (refine Kept_gate ?_; refine xK ?_) | (refine Ar_gate ?_; first | (fail_if_success skip) | refine xA ?_) | (refine Eqv_in ?_) | refine Do_ptr_eq_nil tok rfl ?_ | refine Do_ptr_ne_nil tok rfl ?_ | refine Do_nil_eq_nil tok rfl ?_ | refine Nn_in (by omega) ?_ | refine Nz_in (by omega) ?_))
      exact Ret_in ⟨rfl, H.all⟩
    (repeat ((try conv => whnf); first | refine Join_dup ?_ | (refine Br_gate ?_; first | with_reducible refine Br_not ?_ | refine xB ?_ | refine xC ?_) | (refine Ld_gate ?_; refine xL ?_) | (refine LdN_gate ?_; refine xM ?_) | (refine St_gate ?_; refine xS ?_; clear H; intro w H) | (refine StN_gate ?_; refine xN ?_; clear H; intro w H) | (refine Kept_gate ?_; refine xK ?_) | (refine Ar_gate ?_; first | (fail_if_success skip) | refine xA ?_) | (refine Eqv_in ?_) | refine Do_ptr_eq_nil tok rfl ?_ | refine Do_ptr_ne_nil tok rfl ?_ | refine Do_nil_eq_nil tok rfl ?_ | refine Nn_in (by omega) ?_ | refine Nz_in (by omega) ?_))
    refine Call_of (hAdd H ha (fun h => h.rd hys) (by omega) (by omega) (by omega)) ?_
    clear H
    rintro v1 w hB
    have hB2 : ∃ sa2, Has (fun _ => True) sa2 k ((C.take (i + 1)).filter (fitB k)) (fun _ => False) (i + 1) ∧ sa2.E = [] ∧ sa2.D = 0 ∧ Sep W w [engR eb sa2, cellsR fb 24 [.int .i64 (k : Int), .slice (some ⟨rb, ro, none⟩) C.length c]] := by
      rw [hnx]
      rcases hB with ⟨h1, _, H⟩ | ⟨h1, _, s2, h2, e2, d2, _, _, H⟩
      · rw [h1, if_neg Bool.false_ne_true]; exact ⟨s, { ha with few := by have := ha.few; omega }, hEa.1, hEa.2, H⟩
      · rw [h1, if_pos rfl]; exact ⟨s2, h2, by rw [e2, hEa.1], by rw [d2, hEa.2], H⟩
    obtain ⟨sa2, ha2, hEa2, hDa2, H⟩ := hB2
    (repeat ((try conv => whnf); first | refine Join_dup ?_ | (refine Br_gate ?_; first | with_reducible refine Br_not ?_ | refine xB ?_ | refine xC ?_) | (refine Ld_gate ?_; refine xL ?_) | (refine LdN_gate ?_; refine xM ?_) | (refine St_gate ?_; refine xS ?_; clear H; intro w H) | (refine StN_gate ?_; refine xN ?_; clear H; intro w H) | (refine Kept_gate ?_; refine xK ?_) | (refine Ar_gate ?_; first | (fail_if_success skip) | refine xA ?_) | (refine Eqv_in ?_) | refine Do_ptr_eq_nil tok rfl ?_ | refine Do_ptr_ne_nil tok rfl ?_ | refine Do_nil_eq_nil tok rfl ?_ | refine Nn_in (by omega) ?_ | refine Nz_in (by omega) ?_))
    exact ⟨(i + 1, sa2), ⟨congrArg some (vint (by simp)), trivial⟩, ⟨⟨by omega, ha2, hEa2, hDa2⟩, H⟩, by simp; omega⟩
  obtain rfl : i = C.length := by omega
  rw [List.take_length] at ha
  have hLa : (C.filter (fitB k)).length ≤ 60 := Nat.le_trans (List.length_filter_le _ _) (by omega)
  generalize C.filter (fitB k) = L at ha hLa
  have hmul : (k + 1) * (L.length + 1) ≤ 1900 := Nat.le_trans (Nat.mul_le_mul (show k + 1 ≤ 31 by omega) (show L.length + 1 ≤ 61 by omega)) (by decide)
  (repeat ((try conv => whnf); first | refine Join_dup ?_ | (refine Br_gate ?_; first | with_reducible refine Br_not ?_ | refine xB ?_ | refine xC ?_) | (refine Ld_gate ?_; refine xL ?_) | (refine LdN_gate ?_; refine xM ?_) | (refine St_gate ?_; refine xS ?_; clear H; intro w H) | (refine StN_gate ?_; refine xN ?_; clear H; intro w H) | (refine Kept_gate ?_; refine xK ?_) | (refine Ar_gate ?_; first | (fail_if_success skip) | refine xA ?_) | (refine Eqv_in ?_) | refine Do_ptr_eq_nil tok rfl ?_ | refine Do_ptr_ne_nil tok rfl ?_ | refine Do_nil_eq_nil tok rfl ?_ | refine Nn_in (by omega) ?_ | refine Nz_in (by omega) ?_))
  refine Call_of (hProp H ha (by omega) (by omega)) ?_
  clear H
  rintro _ w ⟨s1, z1, rfl, b5, b6, o1, h1, x1, H⟩
  (repeat ((try conv => whnf); first | refine Join_dup ?_ | (refine Br_gate ?_; first | with_reducible refine Br_not ?_ | refine xB ?_ | refine xC ?_) | (refine Ld_gate ?_; refine xL ?_) | (refine LdN_gate ?_; refine xM ?_) | (refine St_gate ?_; refine xS ?_; clear H; intro w H) | (refine StN_gate ?_; refine xN ?_; clear H; intro w H) | (refine Kept_gate ?_; refine xK ?_) | (refine Ar_gate ?_; first | (fail_if_success skip) | refine xA ?_) | (refine Eqv_in ?_) | refine Do_ptr_eq_nil tok rfl ?_ | refine Do_ptr_ne_nil tok rfl ?_ | refine Do_nil_eq_nil tok rfl ?_ | refine Nn_in (by omega) ?_ | refine Nz_in (by omega) ?_))
  by_cases hz1 : 0 ≤ z1
  · (repeat ((try conv => whnf); first | refine Join_dup ?_ | (refine Br_gate ?_; first | with_reducible refine Br_not ?_ | refine xB ?_ | refine xC ?_) | (refine Ld_gate ?_; refine xL ?_) | (refine LdN_gate ?_; refine xM ?_) | (refine St_gate ?_; refine xS ?_; clear H; intro w H) | (refine StN_gate ?_; refine xN ?_; clear H; intro w H) | (refine Kept_gate ?_; refine xK ?_) | (refine Ar_gate ?_; first | (fail_if_success skip) | refine xA ?_) | (refine Eqv_in ?_) | refine Do_ptr_eq_nil tok rfl ?_ | refine Do_ptr_ne_nil tok rfl ?_ | refine Do_nil_eq_nil tok rfl ?_ | refine Nn_in (by omega) ?_ | refine Nz_in (by omega) ?_))
    exact Ret_in ⟨rfl, H.all⟩
  obtain rfl : z1 = -1 := by omega
  (repeat ((try conv => whnf); first | refine Join_dup ?_ | (refine Br_gate ?_; first | with_reducible refine Br_not ?_ | refine xB ?_ | refine xC ?_) | (refine Ld_gate ?_; refine xL ?_) | (refine LdN_gate ?_; refine xM ?_) | (refine St_gate ?_; refine xS ?_; clear H; intro w H) | (refine StN_gate ?_; refine xN ?_; clear H; intro w H) | (refine Kept_gate ?_; refine xK ?_) | (refine Ar_gate ?_; first | (fail_if_success skip) | refine xA ?_) | (refine Eqv_in ?_) | refine Do_ptr_eq_nil tok rfl ?_ | refine Do_ptr_ne_nil tok rfl ?_ | refine Do_nil_eq_nil tok rfl ?_ | refine Nn_in (by omega) ?_ | refine Nz_in (by omega) ?_))
  (refine Nw_sep H ?_; clear H; intro nb w H; (try simp only [Value.cells, List.toList_toArray, List.append_nil, List.cons_append, List.nil_append] at H))
  replace H := H.row 0 0 1 rfl rfl (by decide) (by simp only [List.set_cons_succ, List.set_cons_zero]; rfl)
  (repeat ((try conv => whnf); first | refine Join_dup ?_ | (refine Br_gate ?_; first | with_reducible refine Br_not ?_ | refine xB ?_ | refine xC ?_) | (refine Ld_gate ?_; refine xL ?_) | (refine LdN_gate ?_; refine xM ?_) | (refine St_gate ?_; refine xS ?_; clear H; intro w H) | (refine StN_gate ?_; refine xN ?_; clear H; intro w H) | (refine Kept_gate ?_; refine xK ?_) | (refine Ar_gate ?_; first | (fail_if_success skip) | refine xA ?_) | (refine Eqv_in ?_) | refine Do_ptr_eq_nil tok rfl ?_ | refine Do_ptr_ne_nil tok rfl ?_ | refine Do_nil_eq_nil tok rfl ?_ | refine Nn_in (by omega) ?_ | refine Nz_in (by omega) ?_))
  have hD1 : s1.D = 0 := x1.D.trans hEa.2
  refine Loop_intro (fun q : Nat × St × List Int × Option Addr × Nat => [(64, .int .i64 (q.1 : Int)), (8, .slice q.2.2.2.1 q.2.2.1.length q.2.2.2.2)]) (fun q w => (q.1 ≤ X.length ∧ Has (fun _ => True) q.2.1 k L (fun x => x ∈ q.2.2.1) (2000 + q.1 * 2000) ∧ Out L (fun x => x ∈ q.2.2.1) q.2.1 (-1) ∧ q.2.1.D = q.2.2.1.length ∧ q.2.2.1.length ≤ q.1 ∧ ∀ y ∈ q.2.2.1, okLit y = true ∧ Trail.var y ≤ k) ∧
    Sep W w [engR eb q.2.1, ownR q.2.2.2.1 q.2.2.1.length q.2.2.2.2 32 1 (q.2.2.1.map lV), cellsR fb 24 [.int .i64 (k : Int), .slice a C.length c]]) (fun q => X.length - q.1)
    (0, s1, [], some ⟨nb, 0, none⟩, 0) ⟨rfl, rfl, trivial⟩ ⟨⟨Nat.zero_le _, ⟨h1.good, h1.n, h1.gam, fun x => (h1.dec x).trans (by simp), h1.len, by have := h1.few; show s1.F.length + s1.Y.length ≤ 2000 + 0 * 2000; omega⟩, ?_, hD1, Nat.zero_le _, by simp⟩, ?_⟩ ?_
  · cases o1 with
    | fine p1 p2 p3 p4 => exact .fine (fun h => p1 ((Conf.iff (fun _ => Iff.rfl) (fun x => by simp)).1 h)) (fun x => (p2 x).trans (Fo.iff (fun _ => Iff.rfl) (fun x => by simp) x)) p3 p4
  · exact H.top 1 rfl rfl
  clear H ha h1 o1 x1 hEa hD1 s s1
  rintro ⟨i, s, Dn, da, dc⟩ w ⟨⟨hi, ha, oa, hD, hDi, hok⟩, H⟩
  simp only [] at hi ha oa hD hDi hok H ⊢
  have hcl := oa.closed (by decide)
  refine Br_dec (fun k3 => ?_) (fun k3 => ?_)
  · have hlt : i < X.length := by omega
    obtain ⟨xb, xo, rfl⟩ := hx.addr (by rw [List.length_map]; omega)
    have hxi : X[i]? = some X[i] := List.getElem?_eq_getElem hlt
    generalize X[i] = y at hxi
    refine Ix_in i rfl hlt ?_
    refine Ld_src (j := i) (H.rd hx) (v := lV y) (by rw [List.getElem?_map, hxi]; rfl) ?_
    (repeat ((try conv => whnf); first | refine Join_dup ?_ | (refine Br_gate ?_; first | with_reducible refine Br_not ?_ | refine xB ?_ | refine xC ?_) | (refine Ld_gate ?_; refine xL ?_) | (refine LdN_gate ?_; refine xM ?_) | (refine St_gate ?_; refine xS ?_; clear H; intro w H) | (refine StN_gate ?_; refine xN ?_; clear H; intro w H) | (refine Kept_gate ?_; refine xK ?_) | (refine Ar_gate ?_; first | (fail_if_success skip) | refine xA ?_) | (refine Eqv_in ?_) | refine Do_ptr_eq_nil tok rfl ?_ | refine Do_ptr_ne_nil tok rfl ?_ | refine Do_nil_eq_nil tok rfl ?_ | refine Nn_in (by omega) ?_ | refine Nz_in (by omega) ?_))
    refine Call_of (hDecide H ha (S' := fun _ => True) (x := y) (by omega) (fun L h => .inl trivial) trivial (fun e he L h _ => by rw [hcl.2.1, List.drop_length] at he; cases he)) ?_
    clear H
    rintro _ w (⟨rfl, hf0, hyo, h2, H⟩ | ⟨⟨z, rfl, hz0, hz1, hz2⟩, hf0, H⟩)
    · have hyk := (free_fit hf0).2.1
      rw [ha.n] at hyk
      (repeat ((try conv => whnf); first | refine Join_dup ?_ | (refine Br_gate ?_; first | with_reducible refine Br_not ?_ | refine xB ?_ | refine xC ?_) | (refine Ld_gate ?_; refine xL ?_) | (refine LdN_gate ?_; refine xM ?_) | (refine St_gate ?_; refine xS ?_; clear H; intro w H) | (refine StN_gate ?_; refine xN ?_; clear H; intro w H) | (refine Kept_gate ?_; refine xK ?_) | (refine Ar_gate ?_; first | (fail_if_success skip) | refine xA ?_) | (refine Eqv_in ?_) | refine Do_ptr_eq_nil tok rfl ?_ | refine Do_ptr_ne_nil tok rfl ?_ | refine Do_nil_eq_nil tok rfl ?_ | refine Nn_in (by omega) ?_ | refine Nz_in (by omega) ?_))
      (refine Nw_sep H ?_; clear H; intro nb2 w H; (try simp only [Value.cells, List.toList_toArray, List.append_nil, List.cons_append, List.nil_append] at H))
      (repeat ((try conv => whnf); first | refine Join_dup ?_ | (refine Br_gate ?_; first | with_reducible refine Br_not ?_ | refine xB ?_ | refine xC ?_) | (refine Ld_gate ?_; refine xL ?_) | (refine LdN_gate ?_; refine xM ?_) | (refine St_gate ?_; refine xS ?_; clear H; intro w H) | (refine StN_gate ?_; refine xN ?_; clear H; intro w H) | (refine Kept_gate ?_; refine xK ?_) | (refine Ar_gate ?_; first | (fail_if_success skip) | refine xA ?_) | (refine Eqv_in ?_) | refine Do_ptr_eq_nil tok rfl ?_ | refine Do_ptr_ne_nil tok rfl ?_ | refine Do_nil_eq_nil tok rfl ?_ | refine Nn_in (by omega) ?_ | refine Nz_in (by omega) ?_))
      (refine DoN_gate ?_; refine append_one tok H rfl rfl rfl rfl rfl (by decide) (by repeat first | exact List.Mem.head _ | refine List.Mem.tail _ ?_) (m := 1) rfl (by simp [oneCell]) (by omega) (by unfold maxLen; omega) ?_; clear H; intro da' dc' w H; replace H := H _ (by repeat first | exact Upd.head | apply Upd.tail))
      (repeat ((try conv => whnf); first | refine Join_dup ?_ | (refine Br_gate ?_; first | with_reducible refine Br_not ?_ | refine xB ?_ | refine xC ?_) | (refine Ld_gate ?_; refine xL ?_) | (refine LdN_gate ?_; refine xM ?_) | (refine St_gate ?_; refine xS ?_; clear H; intro w H) | (refine StN_gate ?_; refine xN ?_; clear H; intro w H) | (refine Kept_gate ?_; refine xK ?_) | (refine Ar_gate ?_; first | (fail_if_success skip) | refine xA ?_) | (refine Eqv_in ?_) | refine Do_ptr_eq_nil tok rfl ?_ | refine Do_ptr_ne_nil tok rfl ?_ | refine Do_nil_eq_nil tok rfl ?_ | refine Nn_in (by omega) ?_ | refine Nz_in (by omega) ?_))
      have e1 : Dn.map lV ++ [lV y] = (Dn ++ [y]).map lV := by simp
      have e2 : Dn.length + 1 = (Dn ++ [y]).length := by simp
      rw [e1] at H
      have h3 : Has (fun _ => True) (Watch.decide' s y) k L (fun x => x ∈ Dn ++ [y]) (2000 + i * 2000) := { h2 with dec := fun x => (h2.dec x).trans (by simp) }
      refine Call_of (hProp H h3 (by omega) (by omega)) ?_
      clear H
      rintro _ w ⟨s2, z, rfl, b7, b8, o2, h4, x2, H⟩
      have hD2 : s2.D = Dn.length + 1 := by rw [x2.D]; show s.D + 1 = _; omega
      (repeat ((try conv => whnf); first | refine Join_dup ?_ | (refine Br_gate ?_; first | with_reducible refine Br_not ?_ | refine xB ?_ | refine xC ?_) | (refine Ld_gate ?_; refine xL ?_) | (refine LdN_gate ?_; refine xM ?_) | (refine St_gate ?_; refine xS ?_; clear H; intro w H) | (refine StN_gate ?_; refine xN ?_; clear H; intro w H) | (refine Kept_gate ?_; refine xK ?_) | (refine Ar_gate ?_; first | (fail_if_success skip) | refine xA ?_) | (refine Eqv_in ?_) | refine Do_ptr_eq_nil tok rfl ?_ | refine Do_ptr_ne_nil tok rfl ?_ | refine Do_nil_eq_nil tok rfl ?_ | refine Nn_in (by omega) ?_ | refine Nz_in (by omega) ?_))
      by_cases hz : 0 ≤ z
      · (repeat ((try conv => whnf); first | refine Join_dup ?_ | (refine Br_gate ?_; first | with_reducible refine Br_not ?_ | refine xB ?_ | refine xC ?_) | (refine Ld_gate ?_; refine xL ?_) | (refine LdN_gate ?_; refine xM ?_) | (refine St_gate ?_; refine xS ?_; clear H; intro w H) | (refine StN_gate ?_; refine xN ?_; clear H; intro w H) | (refine Kept_gate ?_; refine xK ?_) | (refine Ar_gate ?_; first | (fail_if_success skip) | refine xA ?_) | (refine Eqv_in ?_) | refine Do_ptr_eq_nil tok rfl ?_ | refine Do_ptr_ne_nil tok rfl ?_ | refine Do_nil_eq_nil tok rfl ?_ | refine Nn_in (by omega) ?_ | refine Nz_in (by omega) ?_))
        obtain ⟨r, hr, H⟩ := engOpen H
        (repeat ((try conv => whnf); first | refine Join_dup ?_ | (refine Br_gate ?_; first | with_reducible refine Br_not ?_ | refine xB ?_ | refine xC ?_) | (refine Ld_gate ?_; refine xL ?_) | (refine LdN_gate ?_; refine xM ?_) | (refine St_gate ?_; refine xS ?_; clear H; intro w H) | (refine StN_gate ?_; refine xN ?_; clear H; intro w H) | (refine Kept_gate ?_; refine xK ?_) | (refine Ar_gate ?_; first | (fail_if_success skip) | refine xA ?_) | (refine Eqv_in ?_) | refine Do_ptr_eq_nil tok rfl ?_ | refine Do_ptr_ne_nil tok rfl ?_ | refine Do_nil_eq_nil tok rfl ?_ | refine Nn_in (by omega) ?_ | refine Nz_in (by omega) ?_))
        refine Call_of (sTrailDepth H (by repeat first | exact List.Mem.head _ | refine List.Mem.tail _ ?_)) ?_
        rintro _ _ ⟨rfl, rfl⟩
        (repeat ((try conv => whnf); first | refine Join_dup ?_ | (refine Br_gate ?_; first | with_reducible refine Br_not ?_ | refine xB ?_ | refine xC ?_) | (refine Ld_gate ?_; refine xL ?_) | (refine LdN_gate ?_; refine xM ?_) | (refine St_gate ?_; refine xS ?_; clear H; intro w H) | (refine StN_gate ?_; refine xN ?_; clear H; intro w H) | (refine Kept_gate ?_; refine xK ?_) | (refine Ar_gate ?_; first | (fail_if_success skip) | refine xA ?_) | (refine Eqv_in ?_) | refine Do_ptr_eq_nil tok rfl ?_ | refine Do_ptr_ne_nil tok rfl ?_ | refine Do_nil_eq_nil tok rfl ?_ | refine Nn_in (by omega) ?_ | refine Nz_in (by omega) ?_))
        replace H := engClose hr H
        have hdl := h4.good.deepLe
        have hhd := h4.good.hd
        have hfew := h4.few
        have e3 : (s2.D : Int) - 1 = (Dn.length : Nat) := by omega
        rw [e3]
        refine Call_of (eBack H (by omega) (by omega) (by omega) (by omega) (by omega) (h4.yBound (d := 0) (by omega) (by omega))) ?_
        clear H
        rintro _ w ⟨rfl, H⟩
        (repeat ((try conv => whnf); first | refine Join_dup ?_ | (refine Br_gate ?_; first | with_reducible refine Br_not ?_ | refine xB ?_ | refine xC ?_) | (refine Ld_gate ?_; refine xL ?_) | (refine LdN_gate ?_; refine xM ?_) | (refine St_gate ?_; refine xS ?_; clear H; intro w H) | (refine StN_gate ?_; refine xN ?_; clear H; intro w H) | (refine Kept_gate ?_; refine xK ?_) | (refine Ar_gate ?_; first | (fail_if_success skip) | refine xA ?_) | (refine Eqv_in ?_) | refine Do_ptr_eq_nil tok rfl ?_ | refine Do_ptr_ne_nil tok rfl ?_ | refine Do_nil_eq_nil tok rfl ?_ | refine Nn_in (by omega) ?_ | refine Nz_in (by omega) ?_))
        exact Ret_in ⟨rfl, H.all⟩
      · obtain rfl : z = -1 := by omega
        (repeat ((try conv => whnf); first | refine Join_dup ?_ | (refine Br_gate ?_; first | with_reducible refine Br_not ?_ | refine xB ?_ | refine xC ?_) | (refine Ld_gate ?_; refine xL ?_) | (refine LdN_gate ?_; refine xM ?_) | (refine St_gate ?_; refine xS ?_; clear H; intro w H) | (refine StN_gate ?_; refine xN ?_; clear H; intro w H) | (refine Kept_gate ?_; refine xK ?_) | (refine Ar_gate ?_; first | (fail_if_success skip) | refine xA ?_) | (refine Eqv_in ?_) | refine Do_ptr_eq_nil tok rfl ?_ | refine Do_ptr_ne_nil tok rfl ?_ | refine Do_nil_eq_nil tok rfl ?_ | refine Nn_in (by omega) ?_ | refine Nz_in (by omega) ?_))
        refine ⟨(i + 1, s2, Dn ++ [y], da', dc'), ⟨congrArg some (vint (by simp)), congrArg some (by rw [e2]), trivial⟩, ⟨⟨by omega, { h4 with few := by have := h4.few; show s2.F.length + s2.Y.length ≤ 2000 + (i + 1) * 2000; omega }, o2, by rw [hD2, e2], by simp; omega, ?_⟩, ?_⟩, by simp; omega⟩
        · intro x hx2
          rw [List.mem_append, List.mem_singleton] at hx2
          rcases hx2 with hx2 | rfl
          · exact hok x hx2
          · exact ⟨hyo, hyk⟩
        · rw [← e2]; exact H
    · (repeat ((try conv => whnf); first | refine Join_dup ?_ | (refine Br_gate ?_; first | with_reducible refine Br_not ?_ | refine xB ?_ | refine xC ?_) | (refine Ld_gate ?_; refine xL ?_) | (refine LdN_gate ?_; refine xM ?_) | (refine St_gate ?_; refine xS ?_; clear H; intro w H) | (refine StN_gate ?_; refine xN ?_; clear H; intro w H) | (refine Kept_gate ?_; refine xK ?_) | (refine Ar_gate ?_; first | (fail_if_success skip) | refine xA ?_) | (refine Eqv_in ?_) | refine Do_ptr_eq_nil tok rfl ?_ | refine Do_ptr_ne_nil tok rfl ?_ | refine Do_nil_eq_nil tok rfl ?_ | refine Nn_in (by omega) ?_ | refine Nz_in (by omega) ?_))
      exact ⟨(i + 1, s, Dn, da, dc), ⟨congrArg some (vint (by simp)), rfl, trivial⟩, ⟨⟨by omega, { ha with few := by have := ha.few; show s.F.length + s.Y.length ≤ 2000 + (i + 1) * 2000; omega }, oa, hD, Nat.le_succ_of_le hDi, hok⟩, H⟩, by simp; omega⟩
  obtain rfl : i = X.length := by omega
  have hdl := ha.good.deepLe
  have hhd := ha.good.hd
  have hfew := ha.few
  rw [ha.n] at hdl
  (repeat ((try conv => whnf); first | refine Join_dup ?_ | (refine Br_gate ?_; first | with_reducible refine Br_not ?_ | refine xB ?_ | refine xC ?_) | (refine Ld_gate ?_; refine xL ?_) | (refine LdN_gate ?_; refine xM ?_) | (refine St_gate ?_; refine xS ?_; clear H; intro w H) | (refine StN_gate ?_; refine xN ?_; clear H; intro w H) | (refine Kept_gate ?_; refine xK ?_) | (refine Ar_gate ?_; first | (fail_if_success skip) | refine xA ?_) | (refine Eqv_in ?_) | refine Do_ptr_eq_nil tok rfl ?_ | refine Do_ptr_ne_nil tok rfl ?_ | refine Do_nil_eq_nil tok rfl ?_ | refine Nn_in (by omega) ?_ | refine Nz_in (by omega) ?_))
  refine Call_of (eTrue2 H (by omega)) ?_
  clear H
  rintro _ w ⟨ta, tc, rfl, H⟩
  (repeat ((try conv => whnf); first | refine Join_dup ?_ | (refine Br_gate ?_; first | with_reducible refine Br_not ?_ | refine xB ?_ | refine xC ?_) | (refine Ld_gate ?_; refine xL ?_) | (refine LdN_gate ?_; refine xM ?_) | (refine St_gate ?_; refine xS ?_; clear H; intro w H) | (refine StN_gate ?_; refine xN ?_; clear H; intro w H) | (refine Kept_gate ?_; refine xK ?_) | (refine Ar_gate ?_; first | (fail_if_success skip) | refine xA ?_) | (refine Eqv_in ?_) | refine Do_ptr_eq_nil tok rfl ?_ | refine Do_ptr_ne_nil tok rfl ?_ | refine Do_nil_eq_nil tok rfl ?_ | refine Nn_in (by omega) ?_ | refine Nz_in (by omega) ?_))
  replace H := H.top 1 rfl (by simp only [List.eraseIdx_cons_succ, List.eraseIdx_cons_zero]; rfl)
  refine Call_of (eBack (k := 0) H (by omega) (by omega) (by omega) (by omega) (by omega) (ha.yBound (d := 0) (by omega) (by omega))) ?_
  clear H
  rintro _ w ⟨rfl, H⟩
  obtain ⟨Δ0, hΔ0, hb, hbh, hbE, hbD⟩ := ha.back hcl.2.1 (k := 0) (by omega)
  generalize Watch.back s 0 = s0 at H hb hbh hbE hbD
  (repeat ((try conv => whnf); first | refine Join_dup ?_ | (refine Br_gate ?_; first | with_reducible refine Br_not ?_ | refine xB ?_ | refine xC ?_) | (refine Ld_gate ?_; refine xL ?_) | (refine LdN_gate ?_; refine xM ?_) | (refine St_gate ?_; refine xS ?_; clear H; intro w H) | (refine StN_gate ?_; refine xN ?_; clear H; intro w H) | (refine Kept_gate ?_; refine xK ?_) | (refine Ar_gate ?_; first | (fail_if_success skip) | refine xA ?_) | (refine Eqv_in ?_) | refine Do_ptr_eq_nil tok rfl ?_ | refine Do_ptr_ne_nil tok rfl ?_ | refine Do_nil_eq_nil tok rfl ?_ | refine Nn_in (by omega) ?_ | refine Nz_in (by omega) ?_))
  refine Loop_intro (fun q : Nat × St × (Int → Prop) => [(96, .int .i64 (q.1 : Int))]) (fun q w => (q.1 ≤ Dn.length ∧ Has (fun _ => True) q.2.1 k L q.2.2 (100000 + q.1 * 2000) ∧ (∀ x, q.2.2 x → x ∈ Dn) ∧ q.2.1.h = q.2.1.E.length ∧ (∀ y ∈ Dn.take q.1, tru q.2.1.E y) ∧ q.2.1.D ≤ q.1 ∧ ((q.1 = 0 ∧ q.2.1.E = upto s.E 0) ∨ Out L q.2.2 q.2.1 (-1))) ∧
    Sep W w [engR eb q.2.1, ownR ta (litL s).length tc 32 1 ((litL s).map lV), ownR da Dn.length dc 32 1 (Dn.map lV), cellsR fb 24 [.int .i64 (k : Int), .slice a C.length c]]) (fun q => Dn.length - q.1)
    (0, s0, Δ0) ⟨rfl, trivial⟩ ⟨⟨Nat.zero_le _, { hb with few := by have := hb.few; show s0.F.length + s0.Y.length ≤ 100000 + 0 * 2000; omega }, hΔ0, hbh, by simp, by rw [hbD]; exact Nat.le_refl _, .inl ⟨rfl, hbE⟩⟩, H⟩ ?_
  clear H hb hbh hbE hbD hΔ0 s0 Δ0
  rintro ⟨j, s', Δ'⟩ w ⟨⟨hj, hb, hsub, hbh, hyet, hbD, hone⟩, H⟩
  simp only [] at hj hb hsub hbh hyet hbD hone H ⊢
  have hback : ∀ x, tru s'.E x → tru s.E x := fun x h => (hcl.1 x).2 ((hb.tru_fo h).mono (fun _ h => h) fun x hx => .dec (hsub x hx))
  refine Br_dec (fun k4 => ?_) (fun k4 => ?_)
  · have hlt : j < Dn.length := by omega
    have hdsrc : Src w da Dn.length 1 (Dn.map lV) := H.srcM (by repeat first | exact List.Mem.head _ | refine List.Mem.tail _ ?_)
    obtain ⟨xb, xo, rfl⟩ := hdsrc.addr (by rw [List.length_map]; omega)
    have hxi : Dn[j]? = some Dn[j] := List.getElem?_eq_getElem hlt
    have hyD := List.getElem_mem hlt
    generalize Dn[j] = y at hxi hyD
    obtain ⟨hyo, hyk⟩ := hok y hyD
    have hty : tru s.E y := (hcl.1 y).2 (.dec hyD)
    refine Ix_in j rfl hlt ?_
    refine Ld_src (j := j) hdsrc (v := lV y) (by rw [List.getElem?_map, hxi]; rfl) ?_
    (repeat ((try conv => whnf); first | refine Join_dup ?_ | (refine Br_gate ?_; first | with_reducible refine Br_not ?_ | refine xB ?_ | refine xC ?_) | (refine Ld_gate ?_; refine xL ?_) | (refine LdN_gate ?_; refine xM ?_) | (refine St_gate ?_; refine xS ?_; clear H; intro w H) | (refine StN_gate ?_; refine xN ?_; clear H; intro w H) | (refine Kept_gate ?_; refine xK ?_) | (refine Ar_gate ?_; first | (fail_if_success skip) | refine xA ?_) | (refine Eqv_in ?_) | refine Do_ptr_eq_nil tok rfl ?_ | refine Do_ptr_ne_nil tok rfl ?_ | refine Do_nil_eq_nil tok rfl ?_ | refine Nn_in (by omega) ?_ | refine Nz_in (by omega) ?_))
    obtain ⟨r, hr, H⟩ := engOpen H
    (repeat ((try conv => whnf); first | refine Join_dup ?_ | (refine Br_gate ?_; first | with_reducible refine Br_not ?_ | refine xB ?_ | refine xC ?_) | (refine Ld_gate ?_; refine xL ?_) | (refine LdN_gate ?_; refine xM ?_) | (refine St_gate ?_; refine xS ?_; clear H; intro w H) | (refine StN_gate ?_; refine xN ?_; clear H; intro w H) | (refine Kept_gate ?_; refine xK ?_) | (refine Ar_gate ?_; first | (fail_if_success skip) | refine xA ?_) | (refine Eqv_in ?_) | refine Do_ptr_eq_nil tok rfl ?_ | refine Do_ptr_ne_nil tok rfl ?_ | refine Do_nil_eq_nil tok rfl ?_ | refine Nn_in (by omega) ?_ | refine Nz_in (by omega) ?_))
    refine Call_of (sTrailValue H (by repeat first | exact List.Mem.head _ | refine List.Mem.tail _ ?_)) ?_
    rintro _ _ ⟨rfl, rfl⟩
    replace H := engClose hr H
    have hnx : ∀ y', y' ∈ Dn.take (j + 1) ↔ y' ∈ Dn.take j ∨ y' = y := by
      intro y'
      rw [List.take_add_one, hxi, List.mem_append]
      simp
    -- the rest of a round
    have hgo : ∀ {Δ2 : Int → Prop} {s3 : St} {z : Int}, (∀ x, Δ2 x → x ∈ Dn) → Out L Δ2 s3 z → z = -1 := by
      intro Δ2 s3 z h1 h2
      cases h2 with
      | fine _ _ _ _ => rfl
      | bad id hc => exact (oa.neg.1 (by decide) (hc.mono (fun _ h => h) fun x hx => .dec (h1 x hx))).elim
    rcases val_cases s'.E y with hv | hv | hv
    · have hy := (hb.good.val1 hyo).1 hv
      rw [hv]
      (repeat ((try conv => whnf); first | refine Join_dup ?_ | (refine Br_gate ?_; first | with_reducible refine Br_not ?_ | refine xB ?_ | refine xC ?_) | (refine Ld_gate ?_; refine xL ?_) | (refine LdN_gate ?_; refine xM ?_) | (refine St_gate ?_; refine xS ?_; clear H; intro w H) | (refine StN_gate ?_; refine xN ?_; clear H; intro w H) | (refine Kept_gate ?_; refine xK ?_) | (refine Ar_gate ?_; first | (fail_if_success skip) | refine xA ?_) | (refine Eqv_in ?_) | refine Do_ptr_eq_nil tok rfl ?_ | refine Do_ptr_ne_nil tok rfl ?_ | refine Do_nil_eq_nil tok rfl ?_ | refine Nn_in (by omega) ?_ | refine Nz_in (by omega) ?_))
      refine Call_of (hProp H hb (by omega) (by omega)) ?_
      clear H
      rintro _ w ⟨s2, z, rfl, b7, b8, o2, h4, x2, H⟩
      obtain rfl := hgo hsub o2
      obtain ⟨G, hG, _⟩ := x2.E
      (repeat ((try conv => whnf); first | refine Join_dup ?_ | (refine Br_gate ?_; first | with_reducible refine Br_not ?_ | refine xB ?_ | refine xC ?_) | (refine Ld_gate ?_; refine xL ?_) | (refine LdN_gate ?_; refine xM ?_) | (refine St_gate ?_; refine xS ?_; clear H; intro w H) | (refine StN_gate ?_; refine xN ?_; clear H; intro w H) | (refine Kept_gate ?_; refine xK ?_) | (refine Ar_gate ?_; first | (fail_if_success skip) | refine xA ?_) | (refine Eqv_in ?_) | refine Do_ptr_eq_nil tok rfl ?_ | refine Do_ptr_ne_nil tok rfl ?_ | refine Do_nil_eq_nil tok rfl ?_ | refine Nn_in (by omega) ?_ | refine Nz_in (by omega) ?_))
      refine ⟨(j + 1, s2, Δ'), ⟨congrArg some (vint (by simp)), trivial⟩, ⟨⟨by omega, { h4 with few := by have := h4.few; show s2.F.length + s2.Y.length ≤ 100000 + (j + 1) * 2000; omega }, hsub, (o2.closed (by decide)).2.1, fun y' hy' => ?_, by rw [x2.D]; exact Nat.le_succ_of_le hbD, .inr o2⟩, H⟩, by simp; omega⟩
      rw [hG]
      rcases (hnx y').1 hy' with h | rfl
      · exact (hyet y' h).mono
      · exact hy.mono
    · rw [hv]
      (repeat ((try conv => whnf); first | refine Join_dup ?_ | (refine Br_gate ?_; first | with_reducible refine Br_not ?_ | refine xB ?_ | refine xC ?_) | (refine Ld_gate ?_; refine xL ?_) | (refine LdN_gate ?_; refine xM ?_) | (refine St_gate ?_; refine xS ?_; clear H; intro w H) | (refine StN_gate ?_; refine xN ?_; clear H; intro w H) | (refine Kept_gate ?_; refine xK ?_) | (refine Ar_gate ?_; first | (fail_if_success skip) | refine xA ?_) | (refine Eqv_in ?_) | refine Do_ptr_eq_nil tok rfl ?_ | refine Do_ptr_ne_nil tok rfl ?_ | refine Do_nil_eq_nil tok rfl ?_ | refine Nn_in (by omega) ?_ | refine Nz_in (by omega) ?_))
      refine Call_of (hDecide H hb (S' := fun _ => True) (x := y) (by omega) (fun L h => .inl trivial) trivial (fun e he L h _ => by rw [hbh, List.drop_length] at he; cases he)) ?_
      clear H
      rintro _ w (⟨rfl, hf0, _, h2, H⟩ | ⟨_, hf0, _⟩)
      case inr => exact (hf0 (hb.good.free_no hyo (by rw [hb.n]; exact hyk) hv)).elim
      have hsub2 : ∀ x, (Δ' x ∨ x = y) → x ∈ Dn := by
        rintro x (h | rfl)
        · exact hsub x h
        · exact hyD
      (repeat ((try conv => whnf); first | refine Join_dup ?_ | (refine Br_gate ?_; first | with_reducible refine Br_not ?_ | refine xB ?_ | refine xC ?_) | (refine Ld_gate ?_; refine xL ?_) | (refine LdN_gate ?_; refine xM ?_) | (refine St_gate ?_; refine xS ?_; clear H; intro w H) | (refine StN_gate ?_; refine xN ?_; clear H; intro w H) | (refine Kept_gate ?_; refine xK ?_) | (refine Ar_gate ?_; first | (fail_if_success skip) | refine xA ?_) | (refine Eqv_in ?_) | refine Do_ptr_eq_nil tok rfl ?_ | refine Do_ptr_ne_nil tok rfl ?_ | refine Do_nil_eq_nil tok rfl ?_ | refine Nn_in (by omega) ?_ | refine Nz_in (by omega) ?_))
      refine Call_of (hProp H h2 (by omega) (by omega)) ?_
      clear H
      rintro _ w ⟨s2, z, rfl, b7, b8, o2, h4, x2, H⟩
      obtain rfl := hgo hsub2 o2
      obtain ⟨G, hG, _⟩ := x2.E
      have hG2 : s2.E = (s'.E ++ [(⟨y, s'.D + 1, -1⟩ : Ent)]) ++ G := hG
      have hD2 : s2.D = s'.D + 1 := x2.D
      (repeat ((try conv => whnf); first | refine Join_dup ?_ | (refine Br_gate ?_; first | with_reducible refine Br_not ?_ | refine xB ?_ | refine xC ?_) | (refine Ld_gate ?_; refine xL ?_) | (refine LdN_gate ?_; refine xM ?_) | (refine St_gate ?_; refine xS ?_; clear H; intro w H) | (refine StN_gate ?_; refine xN ?_; clear H; intro w H) | (refine Kept_gate ?_; refine xK ?_) | (refine Ar_gate ?_; first | (fail_if_success skip) | refine xA ?_) | (refine Eqv_in ?_) | refine Do_ptr_eq_nil tok rfl ?_ | refine Do_ptr_ne_nil tok rfl ?_ | refine Do_nil_eq_nil tok rfl ?_ | refine Nn_in (by omega) ?_ | refine Nz_in (by omega) ?_))
      refine ⟨(j + 1, s2, _), ⟨congrArg some (vint (by simp)), trivial⟩, ⟨⟨by omega, { h4 with few := by have := h4.few; show s2.F.length + s2.Y.length ≤ 100000 + (j + 1) * 2000; omega }, hsub2, (o2.closed (by decide)).2.1, fun y' hy' => ?_, by show s2.D ≤ j + 1; omega, .inr o2⟩, H⟩, by simp; omega⟩
      rw [hG2]
      rcases (hnx y').1 hy' with h | rfl
      · exact (hyet y' h).mono.mono
      · exact tru.mono ⟨_, List.mem_append_right _ (List.mem_singleton.2 rfl), rfl⟩
    · exact (not_both ha.good.inv.once hyo hty (hback _ ((hb.good.valn hyo).1 hv))).elim
  obtain rfl : j = Dn.length := by omega
  rw [List.take_length] at hyet
  have hsame : ∀ x, tru s.E x ↔ tru s'.E x := by
    intro x
    refine ⟨fun h => ?_, hback x⟩
    rcases hone with ⟨h0, hE⟩ | o2
    · rw [hE, upto_zero ha.good (by omega)]; exact h
    · exact ((o2.closed (by decide)).1 x).2 (((hcl.1 x).1 h).mono (fun _ h => h) fun y hy => hb.tru_fo (hyet y hy))
  have hdl' := hb.good.deepLe
  rw [hb.n] at hdl'
  have hone1 : ∀ {s3 : St}, Watch.Good (fun _ => True) s3 → ∀ x ∈ litL s3, Lit.one x = true := by
    intro s3 hg x hx
    obtain ⟨e, he, rfl⟩ := List.mem_map.1 hx
    rw [one_ok]
    exact (hg.inv.ok e he).1
  (repeat ((try conv => whnf); first | refine Join_dup ?_ | (refine Br_gate ?_; first | with_reducible refine Br_not ?_ | refine xB ?_ | refine xC ?_) | (refine Ld_gate ?_; refine xL ?_) | (refine LdN_gate ?_; refine xM ?_) | (refine St_gate ?_; refine xS ?_; clear H; intro w H) | (refine StN_gate ?_; refine xN ?_; clear H; intro w H) | (refine Kept_gate ?_; refine xK ?_) | (refine Ar_gate ?_; first | (fail_if_success skip) | refine xA ?_) | (refine Eqv_in ?_) | refine Do_ptr_eq_nil tok rfl ?_ | refine Do_ptr_ne_nil tok rfl ?_ | refine Do_nil_eq_nil tok rfl ?_ | refine Nn_in (by omega) ?_ | refine Nz_in (by omega) ?_))
  refine Call_of (rClean H (fun h => h.srcM (List.mem_append_right _ (.tail _ (.head _)))) (by rw [litL_len]; omega) (hone1 ha.good)) ?_
  clear H
  rintro _ w ⟨ca, cc, out1, rfl, hcl1, hln1, H⟩
  (repeat ((try conv => whnf); first | refine Join_dup ?_ | (refine Br_gate ?_; first | with_reducible refine Br_not ?_ | refine xB ?_ | refine xC ?_) | (refine Ld_gate ?_; refine xL ?_) | (refine LdN_gate ?_; refine xM ?_) | (refine St_gate ?_; refine xS ?_; clear H; intro w H) | (refine StN_gate ?_; refine xN ?_; clear H; intro w H) | (refine Kept_gate ?_; refine xK ?_) | (refine Ar_gate ?_; first | (fail_if_success skip) | refine xA ?_) | (refine Eqv_in ?_) | refine Do_ptr_eq_nil tok rfl ?_ | refine Do_ptr_ne_nil tok rfl ?_ | refine Do_nil_eq_nil tok rfl ?_ | refine Nn_in (by omega) ?_ | refine Nz_in (by omega) ?_))
  replace H := H.top 1 rfl (by simp only [List.eraseIdx_cons_succ, List.eraseIdx_cons_zero]; rfl)
  refine Call_of (eTrue2 H (by omega)) ?_
  clear H
  rintro _ w ⟨ta2, tc2, rfl, H⟩
  (repeat ((try conv => whnf); first | refine Join_dup ?_ | (refine Br_gate ?_; first | with_reducible refine Br_not ?_ | refine xB ?_ | refine xC ?_) | (refine Ld_gate ?_; refine xL ?_) | (refine LdN_gate ?_; refine xM ?_) | (refine St_gate ?_; refine xS ?_; clear H; intro w H) | (refine StN_gate ?_; refine xN ?_; clear H; intro w H) | (refine Kept_gate ?_; refine xK ?_) | (refine Ar_gate ?_; first | (fail_if_success skip) | refine xA ?_) | (refine Eqv_in ?_) | refine Do_ptr_eq_nil tok rfl ?_ | refine Do_ptr_ne_nil tok rfl ?_ | refine Do_nil_eq_nil tok rfl ?_ | refine Nn_in (by omega) ?_ | refine Nz_in (by omega) ?_))
  refine Call_of (rClean H (fun h => h.srcM (List.mem_append_right _ (.head _))) (by rw [litL_len]; omega) (hone1 hb.good)) ?_
  clear H
  rintro _ w ⟨ca2, cc2, out2, rfl, hcl2, hln2, H⟩
  have hout : out1 = out2 := hcl1.same (hone1 ha.good) hcl2 fun x => (litL_mem x).trans ((hsame x).trans (litL_mem x).symm)
  subst hout
  (repeat ((try conv => whnf); first | refine Join_dup ?_ | (refine Br_gate ?_; first | with_reducible refine Br_not ?_ | refine xB ?_ | refine xC ?_) | (refine Ld_gate ?_; refine xL ?_) | (refine LdN_gate ?_; refine xM ?_) | (refine St_gate ?_; refine xS ?_; clear H; intro w H) | (refine StN_gate ?_; refine xN ?_; clear H; intro w H) | (refine Kept_gate ?_; refine xK ?_) | (refine Ar_gate ?_; first | (fail_if_success skip) | refine xA ?_) | (refine Eqv_in ?_) | refine Do_ptr_eq_nil tok rfl ?_ | refine Do_ptr_ne_nil tok rfl ?_ | refine Do_nil_eq_nil tok rfl ?_ | refine Nn_in (by omega) ?_ | refine Nz_in (by omega) ?_))
  refine Call_of (rSame (H.srcM (.tail _ (.tail _ (.tail _ (.head _))))) (H.srcM (.head _)) (by rw [litL_len] at hln1; omega)) ?_
  rintro _ w' ⟨rfl, HH⟩
  replace H := H.add HH
  (repeat ((try conv => whnf); first | refine Join_dup ?_ | (refine Br_gate ?_; first | with_reducible refine Br_not ?_ | refine xB ?_ | refine xC ?_) | (refine Ld_gate ?_; refine xL ?_) | (refine LdN_gate ?_; refine xM ?_) | (refine St_gate ?_; refine xS ?_; clear H; intro w H) | (refine StN_gate ?_; refine xN ?_; clear H; intro w H) | (refine Kept_gate ?_; refine xK ?_) | (refine Ar_gate ?_; first | (fail_if_success skip) | refine xA ?_) | (refine Eqv_in ?_) | refine Do_ptr_eq_nil tok rfl ?_ | refine Do_ptr_ne_nil tok rfl ?_ | refine Do_nil_eq_nil tok rfl ?_ | refine Nn_in (by omega) ?_ | refine Nz_in (by omega) ?_))
  exact Ret_in ⟨vbool (decide_eq_true rfl), H.all⟩
end
end Go.Proofs.Ytodabklhbagljaa
