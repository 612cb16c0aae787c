/- The library's DeleteFunc and Compact, at literals. -/
import Derived.Test.YtcibiidebknkgaaGreatLitS
import Derived.Lib.SliceRun
namespace Go.Proofs.YtcibiidebknkgaaGreat
open Go Go.Vc Go.Lit
set_option linter.unusedVariables false
set_option linter.unusedSimpArgs false
set_option maxHeartbeats 4000000
set_option maxRecDepth 100000

theorem setCells_kit {b : Nat} : ∀ (vs : List Value) (o k : Nat) (w : World), w.setCells b (o + k) vs = Vc.setCells w ⟨b, o, none⟩ vs k
  | [], _, _, _ => rfl
  | v :: r, o, k, w => by
    unfold World.setCells Vc.setCells
    rw [add_mk, Nat.add_assoc]
    exact setCells_kit r o (k + 1) _

/-- The end of a row is cleared: what is left of it. -/
theorem DoN_clear {w0 w : World} {l : List Res} {b n cap el k c t ty : Nat} {z : Value} {xs : List Value} (H : Sep w0 w l) (hm : ownR (some ⟨b, 0, none⟩) n cap el 1 xs ∈ l) (hk : k < n) (hd : Tab.d tab t = some (.slice el)) (hz : Tab.z tab el = some z)
    (h1 : oneCell z = true) {cb : Array Bool} {K : Value → World → Prop} (hK : ∀ w', SepU w0 w' l (ownR (some ⟨b, 0, none⟩) n cap el 1 xs) (ownR (some ⟨b, 0, none⟩) k cap el 1 (xs.take k)) → K (.tuple #[]) w') :
    DoN Tryz.prog (builtin .clear #[t] ty cb #[.slice (some ⟨b, 0 + k, none⟩) (n - k) c]) w K := by
  obtain ⟨S1, g1, g2, g3⟩ := H.at hm
  obtain ⟨o1, o2, o3, o4⟩ := g1.own
  rcases o4 with ⟨h, _⟩ | ⟨b', rest, h, hat, hl⟩
  · cases h
  · cases h
    rw [Nat.mul_one] at o1
    have hzc := cells_of_one h1
    have hrun := Lib.run_clear_slice (P := Tryz.prog) w t el ty z (tok.d _ (find_mem hd)) (fun w => tok.z _ (find_mem hz) w) hzc (by rw [← oneCell_eq]; exact h1) b (0 + k) (n - k) c (by omega)
      (fun j hj => by rw [hat.cell, List.getElem?_eq_getElem (by rw [List.length_append]; omega)]; rfl) (fun j _ => hat.frozen _)
    rw [setCells_kit] at hrun
    obtain ⟨a1, a2, a3⟩ := setCells_at (vs := List.replicate (n - k) z) (o := 0) (k := k) hat (by rw [List.length_replicate, List.length_append]; omega)
    refine ⟨.inl ⟨.tuple #[], _, ?_, hK _ (g3 _ _ S1 (a2.mono fun x _ hx => g1.b_in x (by rw [hx]; rfl)) ⟨g1.b_in, ?_⟩ fun x hx => .inl hx)⟩⟩
    · show (do pure (Next.value (← Builtin.clear_ #[t] ty #[.slice (some ⟨b, 0 + k, none⟩) (n - k) c])) : Sem Next).run Tryz.prog w = _
      rw [Sem.run_bind, hrun, Result.andThen_ok, Sem.run_pure]
    · refine ⟨by rw [List.length_take]; omega, by omega, o3, .inr ⟨b, List.replicate (n - k) z ++ (xs ++ rest).drop (0 + k + (n - k)), rfl, ?_, ?_⟩⟩
      · rw [List.length_replicate] at a1
        have e : (xs ++ rest).take (0 + k) = xs.take k := by rw [Nat.zero_add, List.take_append_of_le_length (by omega)]
        rw [e, List.append_assoc] at a1
        exact a1
      · rw [List.length_append] at hl
        simp only [List.length_append, List.length_take, List.length_replicate, List.length_drop]
        omega

theorem sliceAddr {b k cap : Nat} (h : cap ≠ k) : (if cap = k then some (⟨b, 0, none⟩ : Addr) else (some (⟨b, 0, none⟩ : Addr)).map (·.add (k * 1))) = some ⟨b, 0 + k, none⟩ := by
  rw [if_neg h, Option.map_some, Nat.mul_one, add_mk]

theorem cutRow {w0 w : World} {l l' : List Res} {a : Option Addr} {n cap el : Nat} {xs ys : List Value} {k : Nat} (H : Sep w0 w l) (u : Upd (ownR a n cap el 1 xs) (ownR a k cap el 1 ys) l l') (hk : k ≤ n) (hy : xs.take k = ys) : Sep w0 w l' := by
  obtain ⟨r, hp, hp'⟩ := u.cut
  refine Sep.perm ((H.perm hp).head (R' := ownR a k cap el 1 ys) fun S hS => ⟨hS.1, ?_⟩) hp'.symm
  have := hS.2.cut hk
  rw [Nat.mul_one, hy] at this
  exact this

theorem litDelete {w0 w : World} {l : List Res} {a : Option Addr} {n cap : Nat} {xs : List Int} (H : Sep w0 w l) (hm : ownR a n cap 29 1 (xs.map lV) ∈ l) {k : FuncId} {cv : Value} {p : Int → Bool} (hmax : n ≤ 1000000000)
    (hf : ∀ {w' : World} {ys : List Value}, SepU w0 w' l (ownR a n cap 29 1 (xs.map lV)) (ownR a n cap 29 1 ys) → ∀ x ∈ xs, Does Tryz.prog k #[lV x, cv] w' fun v w'' => v = .bool (p x) ∧ w' = w'') :
    Does Tryz.prog 128 #[.slice a n cap, .func (.func k) #[] #[cv]] w fun v w' => v = .slice a (xs.filter fun x => !p x).length cap ∧ SepU w0 w' l (ownR a n cap 29 1 (xs.map lV)) (ownR a (xs.filter fun x => !p x).length cap 29 1 ((xs.filter fun x => !p x).map lV)) := by
  have hO := H.ownM hm
  have hlen : xs.length = n := by have := hO.1; simpa using this
  have hcap := hO.2.1
  have hs := H.srcM hm
  subst hlen
  refine Does_intro tok (Tryz.call128 _ _) Tryz.func128 rfl (by rfl) ?_
  (repeat first | refine go ?_ | ((try conv => whnf); (first | (refine St_gate ?_; refine xS ?_) | (refine StN_gate ?_; refine xN ?_)); clear H; intro w H))
  refine Call_of (litCIndex hs (by unfold maxLen; omega) (hf H.same)) ?_
  rintro _ _ ⟨rfl, rfl⟩
  cases hfi : xs.findIdx? p with
  | none =>
    have hno : xs.filter (fun x => !p x) = xs := by
      rw [List.filter_eq_self]
      intro x hx
      rw [List.findIdx?_eq_none_iff] at hfi
      rw [hfi x hx]; rfl
    rw [hno]
    simp only []
    (repeat first | refine go ?_ | ((try conv => whnf); (first | (refine St_gate ?_; refine xS ?_) | (refine StN_gate ?_; refine xN ?_)); clear H; intro w H))
    exact Ret_in ⟨rfl, H.same⟩
  | some i0 =>
    obtain ⟨hi0, hp0, hbe⟩ := List.findIdx?_eq_some_iff_getElem.1 hfi
    obtain ⟨b, rfl⟩ := hO.some (by omega)
    obtain ⟨r, hp⟩ := mem_cut hm
    have H1 := H.perm hp
    have hpre : (xs.take (i0 + 1)).filter (fun x => !p x) = xs.take i0 := by
      rw [List.take_add_one, List.getElem?_eq_getElem hi0, List.filter_append]
      have e1 : (xs.take i0).filter (fun x => !p x) = xs.take i0 := by
        rw [List.filter_eq_self]
        intro x hx
        obtain ⟨j, hj⟩ := List.getElem?_of_mem hx
        obtain ⟨hj1, hj2⟩ := List.getElem?_eq_some_iff.1 hj
        rw [List.length_take] at hj1
        rw [List.getElem_take] at hj2
        have := hbe j (by omega)
        rw [hj2] at this
        simpa using this
      rw [e1]
      simp [hp0]
    simp only []
    (repeat first | refine go ?_ | ((try conv => whnf); (first | (refine St_gate ?_; refine xS ?_) | (refine StN_gate ?_; refine xN ?_)); clear H; intro w H))
    refine Loop_intro (fun s : Nat × List Value => [(6, .int .i64 (s.1 : Int)), (5, .int .i64 (((xs.take s.1).filter fun x => !p x).length : Int))])
      (fun s w => s.1 ≤ xs.length ∧ i0 < s.1 ∧ s.2.length = xs.length ∧ s.2.take ((xs.take s.1).filter fun x => !p x).length = ((xs.take s.1).filter fun x => !p x).map lV ∧ s.2.drop s.1 = (xs.map lV).drop s.1 ∧ ((xs.take s.1).filter fun x => !p x).length < s.1 ∧
        Sep w0 w (ownR (some ⟨b, 0, none⟩) xs.length cap 29 1 s.2 :: r)) (fun s => xs.length - s.1) (i0 + 1, xs.map lV) ⟨?_, ?_, trivial⟩ ⟨by omega, by omega, by simp, ?_, rfl, ?_, H1⟩ ?_
    · exact congrArg some (vint (by simp))
    · simp only []
      rw [hpre, List.length_take]
      exact congrArg some (vint (by omega))
    · simp only []
      rw [hpre, List.length_take, Nat.min_eq_left (by omega), List.map_take]
    · simp only []
      rw [hpre, List.length_take]; omega
    clear H H1
    rintro ⟨j, ys⟩ w ⟨hj, hij, hyl, htk, hdr, hlt, H⟩
    simp only [] at hj hij hyl htk hdr hlt H ⊢
    refine Br_dec (fun k1 => ?_) (fun k1 => ?_)
    · have hjl : j < xs.length := by omega
      have hxj : xs[j]? = some xs[j] := List.getElem?_eq_getElem hjl
      have hyj : ys[j]? = some (lV xs[j]) := by
        have : (ys.drop j)[0]? = ((xs.map lV).drop j)[0]? := by rw [hdr]
        rw [List.getElem?_drop, List.getElem?_drop, Nat.add_zero, List.getElem?_map, hxj] at this
        exact this
      have hnext : (xs.take (j + 1)).filter (fun x => !p x) = (xs.take j).filter (fun x => !p x) ++ (if p xs[j] then [] else [xs[j]]) := by
        rw [List.take_add_one, hxj, List.filter_append]
        congr 1
        cases hpx : p xs[j] <;> simp [hpx]
      (repeat first | refine go ?_ | ((try conv => whnf); (first | (refine St_gate ?_; refine xS ?_) | (refine StN_gate ?_; refine xN ?_)); clear H; intro w H))
      refine Ix_in j rfl hjl ?_
      refine Ld_mO H mm hyj ?_
      (repeat first | refine go ?_ | ((try conv => whnf); (first | (refine St_gate ?_; refine xS ?_) | (refine StN_gate ?_; refine xN ?_)); clear H; intro w H))
      refine Call_of (hf (SepU.mk hp H) _ (List.getElem_mem hjl)) ?_
      rintro _ _ ⟨rfl, rfl⟩
      have hdr2 : ys.drop (j + 1) = (xs.map lV).drop (j + 1) := by
        have := congrArg (List.drop 1) hdr
        rw [List.drop_drop, List.drop_drop] at this
        exact this
      cases hpx : p xs[j] with
      | true =>
        rw [hpx, if_pos rfl, List.append_nil] at hnext
        (repeat first | refine go ?_ | ((try conv => whnf); (first | (refine St_gate ?_; refine xS ?_) | (refine StN_gate ?_; refine xN ?_)); clear H; intro w H))
        refine ⟨(j + 1, ys), ⟨congrArg some (vint (by simp)), congrArg some (vint (by simp only []; rw [hnext])), trivial⟩, ⟨by omega, by omega, hyl, by simp only []; rw [hnext]; exact htk, hdr2, by simp only []; rw [hnext]; omega, H⟩, by simp; omega⟩
      | false =>
        rw [hpx, if_neg Bool.false_ne_true] at hnext
        have hnl : ((xs.take (j + 1)).filter fun x => !p x).length = ((xs.take j).filter fun x => !p x).length + 1 := by rw [hnext, List.length_append]; rfl
        generalize hq : ((xs.take j).filter fun x => !p x).length = q at *
        (repeat first | refine go ?_ | ((try conv => whnf); (first | (refine St_gate ?_; refine xS ?_) | (refine StN_gate ?_; refine xN ?_)); clear H; intro w H))
        refine Ix_in q rfl (by omega) ?_
        refine St_uO H (by repeat first | exact Upd.head | apply Upd.tail) rfl (by omega) rfl ?_
        clear H; intro w H
        (repeat first | refine go ?_ | ((try conv => whnf); (first | (refine St_gate ?_; refine xS ?_) | (refine StN_gate ?_; refine xN ?_)); clear H; intro w H))
        refine ⟨(j + 1, ys.set q (lV xs[j])), ⟨congrArg some (vint (by simp)), congrArg some (vint (by simp only []; rw [hnl]; omega)), trivial⟩, ⟨by omega, by omega, by simpa using hyl, ?_, ?_, by simp only []; rw [hnl]; omega, H⟩, by simp; omega⟩
        · simp only []
          rw [hnl, hnext, List.map_append, ← htk, List.take_add_one, List.getElem?_set_self (by omega), List.take_set_of_le (by omega)]
          rfl
        · simp only []
          rw [List.drop_set_of_lt (by omega)]
          exact hdr2
    · obtain rfl : j = xs.length := by omega
      rw [List.take_length] at htk hlt ⊢
      generalize hq : xs.filter (fun x => !p x) = zs at *
      (repeat first | refine go ?_ | ((try conv => whnf); (first | (refine St_gate ?_; refine xS ?_) | (refine StN_gate ?_; refine xN ?_)); clear H; intro w H))
      refine Do_slice tok rfl rfl zs.length xs.length (.inr ⟨_, rfl⟩) (.inl ⟨rfl, rfl⟩) (by omega) (by omega) ?_
      rw [sliceAddr (by omega)]
      (repeat first | refine go ?_ | ((try conv => whnf); (first | (refine St_gate ?_; refine xS ?_) | (refine StN_gate ?_; refine xN ?_)); clear H; intro w H))
      refine DoN_clear H (.head _) hlt rfl rfl rfl ?_
      clear H
      intro w H
      replace H := H _ .head
      rw [htk] at H
      (repeat first | refine go ?_ | ((try conv => whnf); (first | (refine St_gate ?_; refine xS ?_) | (refine StN_gate ?_; refine xN ?_)); clear H; intro w H))
      refine Do_slice tok rfl rfl 0 zs.length (.inl ⟨rfl, rfl⟩) (.inr ⟨_, rfl⟩) (by omega) (by omega) ?_
      rw [add_zero_map]
      (repeat first | refine go ?_ | ((try conv => whnf); (first | (refine St_gate ?_; refine xS ?_) | (refine StN_gate ?_; refine xN ?_)); clear H; intro w H))
      exact Ret_in ⟨rfl, SepU.mk hp H⟩

theorem litCompact {w0 w : World} {l : List Res} {a : Option Addr} {n cap : Nat} {xs : List Int} (H : Sep w0 w l) (hm : ownR a n cap 29 1 (xs.map lV) ∈ l) (hmax : n ≤ 35184372087808) :
    Does Tryz.prog 67 #[.slice a n cap] w fun v w' => v = .slice a (squeeze xs).length cap ∧ SepU w0 w' l (ownR a n cap 29 1 (xs.map lV)) (ownR a (squeeze xs).length cap 29 1 ((squeeze xs).map lV)) := by
  have hO := H.ownM hm
  have hlen : xs.length = n := by have := hO.1; simpa using this
  have hcap := hO.2.1
  subst hlen
  refine Does_intro tok (Tryz.call67 _ _) Tryz.func67 rfl (by rfl) ?_
  have hpre0 := fun h => squeeze_pre (xs := xs) (m := xs.length) (Nat.le_refl _) h
  rw [List.take_length] at hpre0
  have hg : ∀ j, j < xs.length → (xs.map lV)[j]? = some (lV (xs.getD j 0)) := fun j hj => by rw [List.getElem?_map, List.getD_eq_getElem?_getD, List.getElem?_eq_getElem hj]; rfl
  by_cases h2 : xs.length < 2
  · rw [hpre0 (fun j h1 h3 => by omega)]
    (repeat first | refine go ?_ | ((try conv => whnf); (first | (refine St_gate ?_; refine xS ?_) | (refine StN_gate ?_; refine xN ?_)); clear H; intro w H))
    exact Ret_in ⟨rfl, H.same⟩
  obtain ⟨b, rfl⟩ := hO.some (by omega)
  obtain ⟨r, hp⟩ := mem_cut hm
  replace H := H.perm hp
  (repeat first | refine go ?_ | ((try conv => whnf); (first | (refine St_gate ?_; refine xS ?_) | (refine StN_gate ?_; refine xN ?_)); clear H; intro w H))
  refine Loop_intro (fun k : Nat => [(3, .int .i64 ((k : Int) + 1))]) (fun k w => k < xs.length ∧ (∀ j, 0 < j → j < k + 1 → xs.getD j 0 ≠ xs.getD (j - 1) 0) ∧ Sep w0 w (ownR (some ⟨b, 0, none⟩) xs.length cap 29 1 (xs.map lV) :: r)) (fun k => xs.length - k) 0 ⟨rfl, trivial⟩ ⟨by omega, fun j h1 h2 => by omega, H⟩ ?_
  clear H
  rintro k w ⟨hk, hno, H⟩
  simp only [] at hk hno H ⊢
  (repeat first | refine go ?_ | ((try conv => whnf); (first | (refine St_gate ?_; refine xS ?_) | (refine StN_gate ?_; refine xN ?_)); clear H; intro w H))
  refine Br_dec (fun k1 => ?_) (fun k1 => ?_)
  · have hk1 : k + 1 < xs.length := by omega
    (repeat first | refine go ?_ | ((try conv => whnf); (first | (refine St_gate ?_; refine xS ?_) | (refine StN_gate ?_; refine xN ?_)); clear H; intro w H))
    refine Draw_intro mixed [0, 1, 2, 3, 4, 5, 6, 7, 8, 9] (by decide +kernel) (fun w _ fd => ?_); replace H := H.fr fd; clear fd
    (repeat first | refine go ?_ | ((try conv => whnf); (first | (refine St_gate ?_; refine xS ?_) | (refine StN_gate ?_; refine xN ?_)); clear H; intro w H))
    refine Ix_in (k + 1) (by omega) hk1 ?_
    refine Ld_mO H mm (hg (k + 1) hk1) ?_
    (repeat first | refine go ?_ | ((try conv => whnf); (first | (refine St_gate ?_; refine xS ?_) | (refine StN_gate ?_; refine xN ?_)); clear H; intro w H))
    refine Ix_in k (by omega) (by omega) ?_
    refine Ld_mO H mm (hg k (by omega)) ?_
    (repeat first | refine go ?_ | ((try conv => whnf); (first | (refine St_gate ?_; refine xS ?_) | (refine StN_gate ?_; refine xN ?_)); clear H; intro w H))
    by_cases he : xs.getD (k + 1) 0 = xs.getD k 0
    · have hsq := squeeze_take (xs := xs) (m := k + 1) (by omega) hk1
      rw [Nat.add_sub_cancel, if_pos he, squeeze_pre (by omega) hno] at hsq
      refine Br_eq_yes he ?_
      (repeat first | refine go ?_ | ((try conv => whnf); (first | (refine St_gate ?_; refine xS ?_) | (refine StN_gate ?_; refine xN ?_)); clear H; intro w H))
      refine Do_slice tok rfl rfl (k + 1) xs.length (.inr ⟨.i64, congrArg some (vint (by omega))⟩) (.inl ⟨rfl, rfl⟩) (by omega) (by omega) ?_
      rw [sliceAddr (by omega)]
      (repeat first | refine go ?_ | ((try conv => whnf); (first | (refine St_gate ?_; refine xS ?_) | (refine StN_gate ?_; refine xN ?_)); clear H; intro w H))
      refine Loop_intro (fun s : Nat × List Value => [(5, .int .i64 ((s.1 : Int) + 1)), (3, .int .i64 ((squeeze (xs.take (k + 1 + s.1 + 1))).length : Int))])
        (fun s w => k + 1 + s.1 < xs.length ∧ s.2.length = xs.length ∧ s.2.take (squeeze (xs.take (k + 1 + s.1 + 1))).length = (squeeze (xs.take (k + 1 + s.1 + 1))).map lV ∧ s.2.drop (k + 1 + s.1) = (xs.map lV).drop (k + 1 + s.1) ∧ (squeeze (xs.take (k + 1 + s.1 + 1))).length < k + 1 + s.1 + 1 ∧
          Sep w0 w (ownR (some ⟨b, 0, none⟩) xs.length cap 29 1 s.2 :: r)) (fun s => xs.length - s.1) (0, xs.map lV) ⟨rfl, ?_, trivial⟩ ⟨hk1, by simp, ?_, rfl, ?_, H⟩ ?_
      · simp only [Nat.add_zero]
        rw [hsq, List.length_take]
        exact congrArg some (vint (by omega))
      · simp only [Nat.add_zero]
        rw [hsq, List.length_take, Nat.min_eq_left (by omega), List.map_take]
      · simp only [Nat.add_zero]
        rw [hsq, List.length_take]; omega
      clear H
      rintro ⟨q, ys⟩ w ⟨hq, hyl, htk, hdr, hlt, H⟩
      simp only [] at hq hyl htk hdr hlt H ⊢
      (repeat first | refine go ?_ | ((try conv => whnf); (first | (refine St_gate ?_; refine xS ?_) | (refine StN_gate ?_; refine xN ?_)); clear H; intro w H))
      refine Br_dec (fun k2 => ?_) (fun k2 => ?_)
      · have hq1 : k + 1 + q + 1 < xs.length := by omega
        have hget : ∀ j, k + 1 + q ≤ j → j < xs.length → ys[j]? = some (lV (xs.getD j 0)) := by
          intro j h1 h2
          have := congrArg (fun z => z[j - (k + 1 + q)]?) hdr
          simp only [List.getElem?_drop] at this
          rw [show k + 1 + q + (j - (k + 1 + q)) = j by omega, hg j h2] at this
          exact this
        have hnext := squeeze_take (xs := xs) (m := k + 1 + q + 1) (by omega) hq1
        rw [Nat.add_sub_cancel] at hnext
        have hdr2 : ys.drop (k + 1 + (q + 1)) = (xs.map lV).drop (k + 1 + (q + 1)) := by
          have := congrArg (List.drop 1) hdr
          rw [List.drop_drop, List.drop_drop] at this
          exact this
        have ei : k + 1 + (q + 1) + 1 = k + 1 + q + 1 + 1 := by omega
        (repeat first | refine go ?_ | ((try conv => whnf); (first | (refine St_gate ?_; refine xS ?_) | (refine StN_gate ?_; refine xN ?_)); clear H; intro w H))
        refine Draw_intro mixed [0, 1, 2, 3, 4, 5, 6, 7, 8, 9] (by decide +kernel) (fun w _ fd => ?_); replace H := H.fr fd; clear fd
        (repeat first | refine go ?_ | ((try conv => whnf); (first | (refine St_gate ?_; refine xS ?_) | (refine StN_gate ?_; refine xN ?_)); clear H; intro w H))
        refine Ix_in (q + 1) (by omega) (by omega) ?_
        refine Ld_of (v := lV (xs.getD (k + 1 + q + 1) 0)) (by rw [show 0 + (k + 1) + (q + 1) = 0 + (k + 1 + q + 1) by omega]; exact H.cellAtO mm (hget _ (by omega) hq1)) ?_
        (repeat first | refine go ?_ | ((try conv => whnf); (first | (refine St_gate ?_; refine xS ?_) | (refine StN_gate ?_; refine xN ?_)); clear H; intro w H))
        refine Ix_in q (by omega) (by omega) ?_
        refine Ld_of (v := lV (xs.getD (k + 1 + q) 0)) (by rw [show 0 + (k + 1) + q = 0 + (k + 1 + q) by omega]; exact H.cellAtO mm (hget _ (by omega) (by omega))) ?_
        (repeat first | refine go ?_ | ((try conv => whnf); (first | (refine St_gate ?_; refine xS ?_) | (refine StN_gate ?_; refine xN ?_)); clear H; intro w H))
        by_cases he2 : xs.getD (k + 1 + q + 1) 0 = xs.getD (k + 1 + q) 0
        · rw [if_pos he2] at hnext
          refine Br_ne_no he2 ?_
          (repeat first | refine go ?_ | ((try conv => whnf); (first | (refine St_gate ?_; refine xS ?_) | (refine StN_gate ?_; refine xN ?_)); clear H; intro w H))
          exact ⟨(q + 1, ys), ⟨congrArg some (vint (by simp)), congrArg some (vint (by simp only []; rw [ei, hnext])), trivial⟩, ⟨by omega, hyl, by simp only []; rw [ei, hnext]; exact htk, hdr2, by simp only []; rw [ei, hnext]; omega, H⟩, by simp; omega⟩
        · rw [if_neg he2] at hnext
          refine Br_ne_yes he2 ?_
          have hnl : (squeeze (xs.take (k + 1 + q + 1 + 1))).length = (squeeze (xs.take (k + 1 + q + 1))).length + 1 := by rw [hnext, List.length_append]; rfl
          generalize hm2 : (squeeze (xs.take (k + 1 + q + 1))).length = m at *
          (repeat first | refine go ?_ | ((try conv => whnf); (first | (refine St_gate ?_; refine xS ?_) | (refine StN_gate ?_; refine xN ?_)); clear H; intro w H))
          refine Ix_in (q + 1) (by omega) (by omega) ?_
          refine Ld_of (v := lV (xs.getD (k + 1 + q + 1) 0)) (by rw [show 0 + (k + 1) + (q + 1) = 0 + (k + 1 + q + 1) by omega]; exact H.cellAtO mm (hget _ (by omega) hq1)) ?_
          (repeat first | refine go ?_ | ((try conv => whnf); (first | (refine St_gate ?_; refine xS ?_) | (refine StN_gate ?_; refine xN ?_)); clear H; intro w H))
          refine Ix_in m rfl (by omega) ?_
          refine St_uO H (by repeat first | exact Upd.head | apply Upd.tail) rfl (by omega) rfl ?_
          clear H; intro w H
          (repeat first | refine go ?_ | ((try conv => whnf); (first | (refine St_gate ?_; refine xS ?_) | (refine StN_gate ?_; refine xN ?_)); clear H; intro w H))
          refine ⟨(q + 1, ys.set m (lV (xs.getD (k + 1 + q + 1) 0))), ⟨congrArg some (vint (by simp)), congrArg some (vint (by simp only []; rw [ei, hnl]; omega)), trivial⟩, ⟨by omega, by simpa using hyl, ?_, ?_, by simp only []; rw [ei, hnl]; omega, H⟩, by simp; omega⟩
          · simp only []
            rw [ei, hnl, hnext, List.map_append, ← htk, List.take_add_one, List.getElem?_set_self (by omega), List.take_set_of_le (by omega)]
            rfl
          · simp only []
            rw [List.drop_set_of_lt (by omega)]
            exact hdr2
      · have hqe : k + 1 + q + 1 = xs.length := by omega
        rw [hqe, List.take_length] at htk hlt ⊢
        generalize hz : squeeze xs = zs at *
        (repeat first | refine go ?_ | ((try conv => whnf); (first | (refine St_gate ?_; refine xS ?_) | (refine StN_gate ?_; refine xN ?_)); clear H; intro w H))
        refine Do_slice tok rfl rfl zs.length xs.length (.inr ⟨_, rfl⟩) (.inl ⟨rfl, rfl⟩) (by omega) (by omega) ?_
        rw [sliceAddr (by omega)]
        (repeat first | refine go ?_ | ((try conv => whnf); (first | (refine St_gate ?_; refine xS ?_) | (refine StN_gate ?_; refine xN ?_)); clear H; intro w H))
        refine DoN_clear H (.head _) hlt rfl rfl rfl ?_
        clear H
        intro w H
        replace H := H _ .head
        rw [htk] at H
        (repeat first | refine go ?_ | ((try conv => whnf); (first | (refine St_gate ?_; refine xS ?_) | (refine StN_gate ?_; refine xN ?_)); clear H; intro w H))
        refine Do_slice tok rfl rfl 0 zs.length (.inl ⟨rfl, rfl⟩) (.inr ⟨_, rfl⟩) (by omega) (by omega) ?_
        rw [add_zero_map]
        (repeat first | refine go ?_ | ((try conv => whnf); (first | (refine St_gate ?_; refine xS ?_) | (refine StN_gate ?_; refine xN ?_)); clear H; intro w H))
        exact Ret_in ⟨rfl, SepU.mk hp H⟩
    · refine Br_eq_no he ?_
      (repeat first | refine go ?_ | ((try conv => whnf); (first | (refine St_gate ?_; refine xS ?_) | (refine StN_gate ?_; refine xN ?_)); clear H; intro w H))
      refine ⟨k + 1, ⟨congrArg some (vint (by omega)), trivial⟩, ⟨hk1, fun j h1 h2 => ?_, H⟩, by omega⟩
      by_cases hj : j = k + 1
      · subst hj; rw [Nat.add_sub_cancel]; exact he
      · exact hno j h1 (by omega)
  · have hke : k + 1 = xs.length := by omega
    rw [hpre0 (fun j h1 h3 => hno j h1 (by omega))]
    (repeat first | refine go ?_ | ((try conv => whnf); (first | (refine St_gate ?_; refine xS ?_) | (refine StN_gate ?_; refine xN ?_)); clear H; intro w H))
    exact Ret_in ⟨rfl, SepU.mk hp H⟩

end Go.Proofs.YtcibiidebknkgaaGreat
