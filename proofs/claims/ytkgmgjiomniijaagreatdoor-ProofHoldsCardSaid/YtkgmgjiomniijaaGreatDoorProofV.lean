/- The law's function: what is proved holds. -/
import Derived.Test.YtkgmgjiomniijaaGreatDoorProofN
import Derived.Test.YtkgmgjiomniijaaGreatDoorProofS
set_option linter.unusedVariables false
set_option linter.unusedSimpArgs false
namespace Go.Proofs.YtkgmgjiomniijaaGreatDoor
open Go Go.Vc Go.Watch Go.Lit
open Go.Trail (Ent value find upto okLit litsV)
set_option maxHeartbeats 4000000
set_option maxRecDepth 100000
theorem Eqv_shrAny {n : Nat} {x : Int} {b : Nat} {K : Int → Prop} (hk : ∀ m : Nat, K (m : Int)) : Eqv ((n : Int).fdiv (2 ^ min x.toNat b)) K := by
  refine Eqv_is ((n / 2 ^ min x.toNat b : Nat) : Int) ?_ (hk _)
  rw [Int.fdiv_eq_ediv_of_nonneg _ (by exact Int.le_of_lt (Int.pow_pos (by decide)))]
  rw [Int.natCast_ediv, Int.natCast_pow]; rfl
theorem Eqv_rem2 {m : Nat} {K : Int → Prop} (hk : ∀ r : Nat, r ≤ 1 → K (r : Int)) : Eqv ((m : Int).tmod 2) K :=
  Eqv_is ((m % 2 : Nat) : Int) rfl (hk _ (by omega))
section
variable {w0 w : World} {l : List Res} {z : Int} {y : Nat} {C : List (List Int)} {R : List Fl} {ca : Option Addr} {cc : Nat} {G : List Stp} {la : Option Addr} {lc : Nat}
theorem zB (n : Nat) : zcells (Value.bool false).cells.toList n = (List.replicate n false).map fun b => Value.bool b := by
  show zcells [Value.bool false] n = _
  rw [zcells_one, List.map_replicate]
theorem holds_all {vs : List Bool} {K : List (List Int)} {o : Option Nat} (ho : openZ vs.length C (logL G) [] = true) (hK : K.length = C.length) (hc : ∀ (i : Nat) c k, C[i]? = some c → K[i]? = some k → Lit.Clean c k)
    (hr : ∀ L, Steps G L → Run (K.map fun k => (k, true)) L o) (hC : ∀ c ∈ C, ∃ x ∈ c, tvB vs x = true) : ∀ (i : Nat) x, G[i]? = some x → (∀ n, o = some n → i < n) → x.1 = false → ∃ y ∈ x.2.2.2, tvB vs y = true := by
  unfold openZ rightZ at ho
  simp only [Bool.and_eq_true] at ho
  obtain ⟨⟨⟨_, hfC⟩, _⟩, hfL, _⟩ := ho
  have hfc : ∀ c ∈ C, ∀ y ∈ c, y ≠ 0 := fun c h y hy => (fit_bound (List.all_eq_true.1 hfC c h) y hy).2.1
  have hfg : ∀ x ∈ G, ∀ y ∈ x.2.2.2, Lit.one y = true ∧ y ≠ 0 := fun x h y hy => by
    have := fit_bound (List.all_eq_true.1 hfL x.2.2.2 (List.mem_map.2 ⟨x, h, rfl⟩)) y hy
    exact ⟨this.1, this.2.1⟩
  obtain ⟨L, hL⟩ := steps_ex (G := G) fun x hx y hy => (hfg x hx y hy).1
  intro i x hx hlt hgone
  have hi : i < G.length := (List.getElem?_eq_some_iff.1 hx).1
  have hs : L[i]? = some (L[i]'(by rw [hL.1]; exact hi)) := List.getElem?_eq_getElem _
  obtain ⟨e1, e2⟩ := hL.2 i x _ hx hs
  obtain ⟨y, hy, _, hT⟩ := Run.holds (T := fun x => x ≠ 0 ∧ tvB vs x = true) (hr L hL) (fun c hcm => by
      obtain ⟨k, hk, he⟩ := List.mem_map.1 hcm
      obtain rfl : k = c := congrArg Prod.fst he
      obtain ⟨j, hj⟩ := List.getElem?_of_mem hk
      have hjl : j < C.length := by rw [← hK]; exact (List.getElem?_eq_some_iff.1 hj).1
      have hcj : C[j]? = some C[j] := List.getElem?_eq_getElem hjl
      obtain ⟨z, hz, hzt⟩ := hC C[j] (List.getElem_mem hjl)
      exact ⟨z, ((hc j _ _ hcj hj).mem z).2 hz, hfc _ (List.getElem_mem hjl) z hz, hzt⟩)
    (fun x ⟨h0, hx⟩ ⟨_, hx'⟩ => by rw [tvB_neg h0, hx] at hx'; exact absurd hx' (by decide))
    (fun s hsm y hy hn => by
      obtain ⟨j, hj⟩ := List.getElem?_of_mem hsm
      have hjl : j < G.length := by rw [← hL.1]; exact (List.getElem?_eq_some_iff.1 hj).1
      have hgj : G[j]? = some G[j] := List.getElem?_eq_getElem hjl
      have h0 := (hfg _ (List.getElem_mem hjl) y (((hL.2 j _ _ hgj hj).2.mem y).1 hy)).2
      refine ⟨by omega, ?_⟩
      rw [tvB_neg h0]
      cases ht : tvB vs y with
      | true => exact absurd ⟨h0, ht⟩ hn
      | false => rfl) i _ hs hlt (by rw [e1]; exact hgone)
  exact ⟨y, (e2.mem y).1 hy, hT⟩
theorem pHolds (H : Sep w0 w l) (hp : Pow w0) (hs : ∀ {w' : World} {l' : List Res}, Sep w0 w' (l' ++ l) → FSrc w' ca C R) (hcap : C.length ≤ cc) (hl : ∀ {w' : World} {l' : List Res}, Sep w0 w' (l' ++ l) → LSrc w' la G) :
    Does Tryz.prog 3 #[.agg #[.int .i64 z, .slice ca C.length cc], .slice la G.length lc, .int .u64 (y : Int)] w fun v w' => v = .bool true ∧ Sep w0 w' l := by
  refine Does_intro tok (Tryz.call3 _ _) Tryz.func3 rfl (by rfl) ?_
  (repeat first | refine goN ?_ | ((try conv => whnf); first | (refine Ar_gate ?_; first | (fail_if_success skip) | refine xA ?_) | (first | with_reducible refine Eqv_shrAny (fun mm => ?_) | with_reducible refine Eqv_rem2 (fun rr hrr => ?_) | refine Eqv_in ?_)) | ((try conv => whnf); (first | (refine St_gate ?_; refine xS ?_) | (refine StN_gate ?_; refine xN ?_)); clear H; intro w H))
  (refine Nw_sep H ?_; clear H; intro fb w H; (try simp only [Value.cells, List.toList_toArray, List.append_nil, List.cons_append, List.nil_append] at H))
  (repeat first | refine goN ?_ | ((try conv => whnf); first | (refine Ar_gate ?_; first | (fail_if_success skip) | refine xA ?_) | (first | with_reducible refine Eqv_shrAny (fun mm => ?_) | with_reducible refine Eqv_rem2 (fun rr hrr => ?_) | refine Eqv_in ?_)) | ((try conv => whnf); (first | (refine St_gate ?_; refine xS ?_) | (refine StN_gate ?_; refine xN ?_)); clear H; intro w H))
  refine Call_of (pAlive H hp) ?_
  clear H
  rintro _ w ⟨rfl, H⟩
  (repeat first | refine goN ?_ | ((try conv => whnf); first | (refine Ar_gate ?_; first | (fail_if_success skip) | refine xA ?_) | (first | with_reducible refine Eqv_shrAny (fun mm => ?_) | with_reducible refine Eqv_rem2 (fun rr hrr => ?_) | refine Eqv_in ?_)) | ((try conv => whnf); (first | (refine St_gate ?_; refine xS ?_) | (refine StN_gate ?_; refine xN ?_)); clear H; intro w H))
  refine Call_of (gGreat H (fun {w'} {l'} h => hs (l' := l' ++ [_]) (by simpa using h)) hcap (fun {w'} {l'} h => hl (l' := l' ++ [_]) (by simpa using h))) ?_
  clear H
  rintro _ w ⟨b, rfl, hb, H⟩
  cases b with
  | true =>
    (repeat first | refine goN ?_ | ((try conv => whnf); first | (refine Ar_gate ?_; first | (fail_if_success skip) | refine xA ?_) | (first | with_reducible refine Eqv_shrAny (fun mm => ?_) | with_reducible refine Eqv_rem2 (fun rr hrr => ?_) | refine Eqv_in ?_)) | ((try conv => whnf); (first | (refine St_gate ?_; refine xS ?_) | (refine StN_gate ?_; refine xN ?_)); clear H; intro w H))
    exact Ret_in ⟨rfl, H.tail⟩
  | false =>
    obtain ⟨hz, hC, hG, hc20, hg20⟩ := hb rfl
    by_cases hz0 : z < 0
    · (repeat first | refine goN ?_ | ((try conv => whnf); first | (refine Ar_gate ?_; first | (fail_if_success skip) | refine xA ?_) | (first | with_reducible refine Eqv_shrAny (fun mm => ?_) | with_reducible refine Eqv_rem2 (fun rr hrr => ?_) | refine Eqv_in ?_)) | ((try conv => whnf); (first | (refine St_gate ?_; refine xS ?_) | (refine StN_gate ?_; refine xN ?_)); clear H; intro w H))
      exact Ret_in ⟨rfl, H.tail⟩
    by_cases hz3 : 30 < z
    · (repeat first | refine goN ?_ | ((try conv => whnf); first | (refine Ar_gate ?_; first | (fail_if_success skip) | refine xA ?_) | (first | with_reducible refine Eqv_shrAny (fun mm => ?_) | with_reducible refine Eqv_rem2 (fun rr hrr => ?_) | refine Eqv_in ?_)) | ((try conv => whnf); (first | (refine St_gate ?_; refine xS ?_) | (refine StN_gate ?_; refine xN ?_)); clear H; intro w H))
      exact Ret_in ⟨rfl, H.tail⟩
    obtain ⟨n, rfl⟩ : ∃ n : Nat, z = n := ⟨z.toNat, by omega⟩
    have hsm : ∀ x ∈ R, x.2.2.length ≤ 35184372087808 := fun x hx => by
      have := hc20 x.2.2 (by rw [← (hs (l' := [_]) H).eq]; exact List.mem_map.2 ⟨x, hx, rfl⟩)
      omega
    (repeat first | refine goN ?_ | ((try conv => whnf); first | (refine Ar_gate ?_; first | (fail_if_success skip) | refine xA ?_) | (first | with_reducible refine Eqv_shrAny (fun mm => ?_) | with_reducible refine Eqv_rem2 (fun rr hrr => ?_) | refine Eqv_in ?_)) | ((try conv => whnf); (first | (refine St_gate ?_; refine xS ?_) | (refine StN_gate ?_; refine xN ?_)); clear H; intro w H))
    refine Call_of (pCheck H hp (fun {w'} {l'} h => hs (l' := l' ++ [_]) (by simpa using h)) hsm (by omega) (fun {w'} {l'} h => hl (l' := l' ++ [_]) (by simpa using h)) (by omega) (fun x hx => by have := hg20 x hx; omega) hz) ?_
    clear H
    rintro v0 w ⟨hv, H⟩
    obtain ⟨nv, e, rfl, hfact⟩ : ∃ nv e : Int, v0 = .tuple #[.int .i64 nv, .int .i64 e] ∧ (e = 91 ∨ e = 0 ∧ ∃ (K : List (List Int)) (o : Option Nat), nv = outV o ∧ openZ n C (logL G) [] = true ∧ K.length = C.length ∧ (∀ (i : Nat) c k, C[i]? = some c → K[i]? = some k → Lit.Clean c k) ∧
        ∀ L, Steps G L → Run (K.map fun k => (k, true)) L o) := by
      rcases hv with ⟨_, rfl⟩ | ⟨ho, n', K, o, _, _, rfl, hK, hc, hr⟩
      · exact ⟨_, _, rfl, .inl rfl⟩
      · exact ⟨_, _, rfl, .inr ⟨rfl, K, o, rfl, ho, hK, hc, hr⟩⟩
    clear hv
    (repeat first | refine goN ?_ | ((try conv => whnf); first | (refine Ar_gate ?_; first | (fail_if_success skip) | refine xA ?_) | (first | with_reducible refine Eqv_shrAny (fun mm => ?_) | with_reducible refine Eqv_rem2 (fun rr hrr => ?_) | refine Eqv_in ?_)) | ((try conv => whnf); (first | (refine St_gate ?_; refine xS ?_) | (refine StN_gate ?_; refine xN ?_)); clear H; intro w H))
    refine make_sep tok H rfl rfl rfl rfl rfl (by decide) n n rfl rfl (by omega) (by omega) (by unfold maxLen; omega) ?_
    clear H
    intro b0 w H
    (repeat first | refine goN ?_ | ((try conv => whnf); first | (refine Ar_gate ?_; first | (fail_if_success skip) | refine xA ?_) | (first | with_reducible refine Eqv_shrAny (fun mm => ?_) | with_reducible refine Eqv_rem2 (fun rr hrr => ?_) | refine Eqv_in ?_)) | ((try conv => whnf); (first | (refine St_gate ?_; refine xS ?_) | (refine StN_gate ?_; refine xN ?_)); clear H; intro w H))
    rw [zB] at H
    refine Loop_intro (fun q : Nat × List Bool => [(43, .int .i64 (q.1 : Int))]) (fun q w => (q.1 ≤ n ∧ q.2.length = n) ∧ Sep w0 w (ownR (some ⟨b0, 0, none⟩) n n 4 1 (q.2.map fun b => Value.bool b) :: cellsR fb 24 [.int .i64 n, .slice ca C.length cc] :: l)) (fun q => n - q.1)
      (0, List.replicate n false) ⟨rfl, trivial⟩ ⟨⟨Nat.zero_le _, List.length_replicate⟩, H⟩ ?_
    clear H
    rintro ⟨i, vs⟩ w ⟨⟨hi, hvs⟩, H⟩
    simp only [] at hi hvs H ⊢
    refine Br_dec (fun k1 => ?_) (fun k1 => ?_)
    · (repeat first | refine goN ?_ | ((try conv => whnf); first | (refine Ar_gate ?_; first | (fail_if_success skip) | refine xA ?_) | (first | with_reducible refine Eqv_shrAny (fun mm => ?_) | with_reducible refine Eqv_rem2 (fun rr hrr => ?_) | refine Eqv_in ?_)) | ((try conv => whnf); (first | (refine St_gate ?_; refine xS ?_) | (refine StN_gate ?_; refine xN ?_)); clear H; intro w H))
      refine Ix_in i rfl (by omega) ?_
      (repeat first | refine goN ?_ | ((try conv => whnf); first | (refine Ar_gate ?_; first | (fail_if_success skip) | refine xA ?_) | (first | with_reducible refine Eqv_shrAny (fun mm => ?_) | with_reducible refine Eqv_rem2 (fun rr hrr => ?_) | refine Eqv_in ?_)) | ((try conv => whnf); (first | (refine St_gate ?_; refine xS ?_) | (refine StN_gate ?_; refine xN ?_)); clear H; intro w H))
      refine St_uO H .head rfl (by rw [List.length_map]; omega) rfl ?_
      clear H; intro w H
      have hset : ∀ z : Bool, (vs.map fun b => Value.bool b).set i (.bool z) = (vs.set i z).map fun b => Value.bool b := fun z => by rw [List.map_set]
      rw [hset] at H
      (repeat first | refine goN ?_ | ((try conv => whnf); first | (refine Ar_gate ?_; first | (fail_if_success skip) | refine xA ?_) | (first | with_reducible refine Eqv_shrAny (fun mm => ?_) | with_reducible refine Eqv_rem2 (fun rr hrr => ?_) | refine Eqv_in ?_)) | ((try conv => whnf); (first | (refine St_gate ?_; refine xS ?_) | (refine StN_gate ?_; refine xN ?_)); clear H; intro w H))
      refine ⟨(i + 1, vs.set i ((rr : Int) == 1)), ⟨congrArg some (vint (by simp)), trivial⟩, ⟨⟨by simp only []; omega, by simp only [List.length_set]; exact hvs⟩, H⟩, by simp; omega⟩
    · clear hi k1
      subst hvs
      (repeat first | refine goN ?_ | ((try conv => whnf); first | (refine Ar_gate ?_; first | (fail_if_success skip) | refine xA ?_) | (first | with_reducible refine Eqv_shrAny (fun mm => ?_) | with_reducible refine Eqv_rem2 (fun rr hrr => ?_) | refine Eqv_in ?_)) | ((try conv => whnf); (first | (refine St_gate ?_; refine xS ?_) | (refine StN_gate ?_; refine xN ?_)); clear H; intro w H))
      refine Call_of (rFalse2 H (fun {w'} {l'} h => hs (l' := l' ++ [_, _]) (by simpa using h)) hsm (by omega) (fun h => h.srcM (List.mem_append_right _ (.head _))) (by omega)) ?_
      clear H
      rintro v1 w ⟨hv, H⟩
      have hv2 : v1 = .tuple #[.int .i64 0, .int .i64 21] ∨ (∃ j : Nat, v1 = .tuple #[.int .i64 (j : Int), .int .i64 0]) ∨ (v1 = .tuple #[.int .i64 (-1), .int .i64 0] ∧ ∀ c ∈ C, ∃ x ∈ c, tvB vs x = true) := by
        rcases hv with ⟨_, h⟩ | ⟨_, o2, h, ho2⟩
        · exact .inl h
        · cases o2 with
          | none => exact .inr (.inr ⟨h, ho2.1 rfl⟩)
          | some j => exact .inr (.inl ⟨j, h⟩)
      clear hv
      rcases hfact with rfl | ⟨rfl, K, o, rfl, ho, hK, hc, hr⟩
      · rcases hv2 with rfl | ⟨j, rfl⟩ | ⟨rfl, _⟩
        · (repeat first | refine goN ?_ | ((try conv => whnf); first | (refine Ar_gate ?_; first | (fail_if_success skip) | refine xA ?_) | (first | with_reducible refine Eqv_shrAny (fun mm => ?_) | with_reducible refine Eqv_rem2 (fun rr hrr => ?_) | refine Eqv_in ?_)) | ((try conv => whnf); (first | (refine St_gate ?_; refine xS ?_) | (refine StN_gate ?_; refine xN ?_)); clear H; intro w H))
          exact Ret_in ⟨rfl, H.tail.tail⟩
        · (repeat first | refine goN ?_ | ((try conv => whnf); first | (refine Ar_gate ?_; first | (fail_if_success skip) | refine xA ?_) | (first | with_reducible refine Eqv_shrAny (fun mm => ?_) | with_reducible refine Eqv_rem2 (fun rr hrr => ?_) | refine Eqv_in ?_)) | ((try conv => whnf); (first | (refine St_gate ?_; refine xS ?_) | (refine StN_gate ?_; refine xN ?_)); clear H; intro w H))
          exact Ret_in ⟨rfl, H.tail.tail⟩
        · (repeat first | refine goN ?_ | ((try conv => whnf); first | (refine Ar_gate ?_; first | (fail_if_success skip) | refine xA ?_) | (first | with_reducible refine Eqv_shrAny (fun mm => ?_) | with_reducible refine Eqv_rem2 (fun rr hrr => ?_) | refine Eqv_in ?_)) | ((try conv => whnf); (first | (refine St_gate ?_; refine xS ?_) | (refine StN_gate ?_; refine xN ?_)); clear H; intro w H))
          exact Ret_in ⟨rfl, H.tail.tail⟩
      rcases hv2 with rfl | ⟨j, rfl⟩ | ⟨rfl, hC2⟩
      · (repeat first | refine goN ?_ | ((try conv => whnf); first | (refine Ar_gate ?_; first | (fail_if_success skip) | refine xA ?_) | (first | with_reducible refine Eqv_shrAny (fun mm => ?_) | with_reducible refine Eqv_rem2 (fun rr hrr => ?_) | refine Eqv_in ?_)) | ((try conv => whnf); (first | (refine St_gate ?_; refine xS ?_) | (refine StN_gate ?_; refine xN ?_)); clear H; intro w H))
        exact Ret_in ⟨rfl, H.tail.tail⟩
      · (repeat first | refine goN ?_ | ((try conv => whnf); first | (refine Ar_gate ?_; first | (fail_if_success skip) | refine xA ?_) | (first | with_reducible refine Eqv_shrAny (fun mm => ?_) | with_reducible refine Eqv_rem2 (fun rr hrr => ?_) | refine Eqv_in ?_)) | ((try conv => whnf); (first | (refine St_gate ?_; refine xS ?_) | (refine StN_gate ?_; refine xN ?_)); clear H; intro w H))
        exact Ret_in ⟨rfl, H.tail.tail⟩
      have hall : ∀ (i : Nat) x, G[i]? = some x → ¬ (0 ≤ outV o ∧ outV o ≤ i) → x.1 = false → ∃ y ∈ x.2.2.2, tvB vs y = true := fun i x hx hno hg => holds_all ho hK hc hr hC2 i x hx (fun n hn => by
        subst hn
        have e : outV (some n) = (n : Int) := rfl
        rw [e] at hno
        omega) hg
      clear hK hc hr hC2
      generalize outV o = nv at *
      have hfit : ∀ x ∈ G, fitZ vs.length x.2.2.2 = true := fun x hx => by
        unfold openZ at ho
        simp only [Bool.and_eq_true] at ho
        exact List.all_eq_true.1 ho.2.1 _ (List.mem_map.2 ⟨x, hx, rfl⟩)
      (repeat first | refine goN ?_ | ((try conv => whnf); first | (refine Ar_gate ?_; first | (fail_if_success skip) | refine xA ?_) | (first | with_reducible refine Eqv_shrAny (fun mm => ?_) | with_reducible refine Eqv_rem2 (fun rr hrr => ?_) | refine Eqv_in ?_)) | ((try conv => whnf); (first | (refine St_gate ?_; refine xS ?_) | (refine StN_gate ?_; refine xN ?_)); clear H; intro w H))
      refine Loop_intro (fun i : Nat => [(73, .int .i64 (i : Int))]) (fun i w => i ≤ G.length ∧ Sep w0 w (ownR (some ⟨b0, 0, none⟩) vs.length vs.length 4 1 (vs.map fun b => Value.bool b) :: cellsR fb 24 [.int .i64 vs.length, .slice ca C.length cc] :: l)) (fun i => G.length - i)
        0 ⟨rfl, trivial⟩ ⟨Nat.zero_le _, H⟩ ?_
      clear H
      rintro i w ⟨hi, H⟩
      refine Br_dec (fun k1 => ?_) (fun k1 => ?_)
      · have hlt : i < G.length := by omega
        have hs1 := (hl (l' := [_, _]) H).rows
        have hx : G[i]? = some G[i] := List.getElem?_eq_getElem hlt
        have hax := hall i _ hx
        have hfx := hfit _ (List.getElem_mem hlt)
        have h20 := hg20 _ (List.getElem_mem hlt)
        have hxs : ∀ {w' : World} {l' : List Res}, Sep w0 w' (l' ++ l) → Src w' G[i].2.1 G[i].2.2.2.length 1 (G[i].2.2.2.map lV) := fun h => (hl h).each _ (List.getElem_mem hlt)
        generalize G[i] = x at *
        obtain ⟨g, xa, xc, xs⟩ := x
        simp only [] at hax hfx h20 hxs
        obtain ⟨b, o', rfl⟩ := hs1.addr (by rw [rowLen stepV_len]; omega)
        refine Ix_in i rfl hlt ?_
        refine LdN_src hs1 (vs := [.bool g, .slice xa xs.length xc]) (rowPart stepV_len hx) rfl ?_
        clear hs1
        (repeat first | refine goN ?_ | ((try conv => whnf); first | (refine Ar_gate ?_; first | (fail_if_success skip) | refine xA ?_) | (first | with_reducible refine Eqv_shrAny (fun mm => ?_) | with_reducible refine Eqv_rem2 (fun rr hrr => ?_) | refine Eqv_in ?_)) | ((try conv => whnf); (first | (refine St_gate ?_; refine xS ?_) | (refine StN_gate ?_; refine xN ?_)); clear H; intro w H))
        (refine Nw_sep H ?_; clear H; intro sb w H; (try simp only [Value.cells, List.toList_toArray, List.append_nil, List.cons_append, List.nil_append] at H))
        by_cases hno : 0 ≤ nv ∧ nv ≤ i
        · (repeat first | refine goN ?_ | ((try conv => whnf); first | (refine Ar_gate ?_; first | (fail_if_success skip) | refine xA ?_) | (first | with_reducible refine Eqv_shrAny (fun mm => ?_) | with_reducible refine Eqv_rem2 (fun rr hrr => ?_) | refine Eqv_in ?_)) | ((try conv => whnf); (first | (refine St_gate ?_; refine xS ?_) | (refine StN_gate ?_; refine xN ?_)); clear H; intro w H))
          exact Ret_in ⟨rfl, H.tail.tail.tail⟩
        have hax := hax hno
        by_cases hn0 : 0 ≤ nv
        case' pos => have hn1 : (i : Int) < nv := by omega
        case' pos => (repeat first | refine goN ?_ | ((try conv => whnf); first | (refine Ar_gate ?_; first | (fail_if_success skip) | refine xA ?_) | (first | with_reducible refine Eqv_shrAny (fun mm => ?_) | with_reducible refine Eqv_rem2 (fun rr hrr => ?_) | refine Eqv_in ?_)) | ((try conv => whnf); (first | (refine St_gate ?_; refine xS ?_) | (refine StN_gate ?_; refine xN ?_)); clear H; intro w H))
        case' neg => (repeat first | refine goN ?_ | ((try conv => whnf); first | (refine Ar_gate ?_; first | (fail_if_success skip) | refine xA ?_) | (first | with_reducible refine Eqv_shrAny (fun mm => ?_) | with_reducible refine Eqv_rem2 (fun rr hrr => ?_) | refine Eqv_in ?_)) | ((try conv => whnf); (first | (refine St_gate ?_; refine xS ?_) | (refine StN_gate ?_; refine xN ?_)); clear H; intro w H))
        all_goals
          refine Nw_sep H ?_; clear H; intro kb w H
          (repeat first | refine goN ?_ | ((try conv => whnf); first | (refine Ar_gate ?_; first | (fail_if_success skip) | refine xA ?_) | (first | with_reducible refine Eqv_shrAny (fun mm => ?_) | with_reducible refine Eqv_rem2 (fun rr hrr => ?_) | refine Eqv_in ?_)) | ((try conv => whnf); (first | (refine St_gate ?_; refine xS ?_) | (refine StN_gate ?_; refine xN ?_)); clear H; intro w H))
          replace H : Sep w0 w (cellsR kb 35 [.slice xa xs.length xc] :: cellsR sb 37 [.bool g, .slice xa xs.length xc] :: ownR (some ⟨b0, 0, none⟩) vs.length vs.length 4 1 (vs.map fun b => Value.bool b) :: cellsR fb 24 [.int .i64 vs.length, .slice ca C.length cc] :: l) := H
          (repeat first | refine goN ?_ | ((try conv => whnf); first | (refine Ar_gate ?_; first | (fail_if_success skip) | refine xA ?_) | (first | with_reducible refine Eqv_shrAny (fun mm => ?_) | with_reducible refine Eqv_rem2 (fun rr hrr => ?_) | refine Eqv_in ?_)) | ((try conv => whnf); (first | (refine St_gate ?_; refine xS ?_) | (refine StN_gate ?_; refine xN ?_)); clear H; intro w H))
          refine Call_of (rFalse2 (C := [xs]) (R := [(xa, xc, xs)]) H (fun {w'} {l'} h => ⟨rfl, h.srcCM 1 1 (List.mem_append_right _ (.head _)) rfl (by decide), fun x hx => by
              simp only [List.mem_cons, List.not_mem_nil, or_false] at hx
              subst hx
              exact ⟨hxs (l' := l' ++ [_, _, _, _]) (by simpa using h), by show xs.length ≤ _; omega⟩⟩) (fun x hx => by
              simp only [List.mem_cons, List.not_mem_nil, or_false] at hx
              subst hx
              show xs.length ≤ _; omega) (show 1 ≤ _ by decide) (fun h => h.srcM (List.mem_append_right _ (.tail _ (.tail _ (.head _))))) (by omega)) ?_
          clear H
          rintro v1 w ⟨hv, H⟩
          have hr1 : rightZ vs.length [xs] = true := by
            unfold rightZ
            simp only [Bool.and_eq_true, decide_eq_true_eq]
            refine ⟨⟨⟨⟨by omega, by omega⟩, by show 1 ≤ _; decide⟩, by simp [sumL]; omega⟩, by simp [hfx]⟩
          rcases hv with ⟨hno2, _⟩ | ⟨_, o2, hv1, ho2⟩
          · exact absurd ⟨hr1, rfl⟩ hno2
          cases g with
          | true =>
            subst hv1
            (repeat first | refine goN ?_ | ((try conv => whnf); first | (refine Ar_gate ?_; first | (fail_if_success skip) | refine xA ?_) | (first | with_reducible refine Eqv_shrAny (fun mm => ?_) | with_reducible refine Eqv_rem2 (fun rr hrr => ?_) | refine Eqv_in ?_)) | ((try conv => whnf); (first | (refine St_gate ?_; refine xS ?_) | (refine StN_gate ?_; refine xN ?_)); clear H; intro w H))
            exact ⟨i + 1, ⟨congrArg some (vint (by omega)), trivial⟩, ⟨by omega, H.tail.tail⟩, by omega⟩
          | false =>
            obtain rfl : o2 = none := ho2.2 fun c hc => by
              simp only [List.mem_cons, List.not_mem_nil, or_false] at hc
              subst hc
              exact hax rfl
            replace hv1 : v1 = .tuple #[.int .i64 (-1), .int .i64 0] := hv1
            subst hv1
            (repeat first | refine goN ?_ | ((try conv => whnf); first | (refine Ar_gate ?_; first | (fail_if_success skip) | refine xA ?_) | (first | with_reducible refine Eqv_shrAny (fun mm => ?_) | with_reducible refine Eqv_rem2 (fun rr hrr => ?_) | refine Eqv_in ?_)) | ((try conv => whnf); (first | (refine St_gate ?_; refine xS ?_) | (refine StN_gate ?_; refine xN ?_)); clear H; intro w H))
            exact ⟨i + 1, ⟨congrArg some (vint (by omega)), trivial⟩, ⟨by omega, H.tail.tail⟩, by omega⟩
      · (repeat first | refine goN ?_ | ((try conv => whnf); first | (refine Ar_gate ?_; first | (fail_if_success skip) | refine xA ?_) | (first | with_reducible refine Eqv_shrAny (fun mm => ?_) | with_reducible refine Eqv_rem2 (fun rr hrr => ?_) | refine Eqv_in ?_)) | ((try conv => whnf); (first | (refine St_gate ?_; refine xS ?_) | (refine StN_gate ?_; refine xN ?_)); clear H; intro w H))
        exact Ret_in ⟨rfl, H.tail.tail⟩
end
end Go.Proofs.YtkgmgjiomniijaaGreatDoor
