/- The statements of the chapter on ranks, closed: what the laws' functions answer is what the statements say. -/
import Derived.Test.YtdcoljkefnkobaaRankU
import Derived.Test.YtdcoljkefnkobaaClose
import Derived.Deep.Strs
namespace Go.Proofs.Ytdcoljkefnkobaa
open Go Go.Vc Go.Rank Go.ChangeShapes Go.WideShapes Go.ChangeAt Go.RowKit
set_option linter.unusedVariables false

theorem act_each {H : Type} {enc : TypeId × Value → H} {w : World} : ∀ n cs y, DataW.trod enc Try.prog w 0 (fun _ => true) true n 37 cs = some y → cs.length = 3 → ∃ x : Act, cs = act3 x ∧ True := by
  intro n cs y h hl
  obtain ⟨y0, y1, y2, k, _, _, h0, h1, h2⟩ := Go.Deep.trod_struct3 Try.underlying37 h
  match cs, hl with
  | [c0, c1, c2], _ =>
    obtain ⟨a, e0, _, _⟩ := DataW.trod_int Try.underlying3 (show DataW.trod enc Try.prog w 0 (fun _ => true) true k 3 [c0] = some y0 from h0)
    obtain ⟨b, e1, _, _⟩ := DataW.trod_int Try.underlying3 (show DataW.trod enc Try.prog w 0 (fun _ => true) true k 3 [c1] = some y1 from h1)
    obtain ⟨c, e2, _, _⟩ := DataW.trod_int Try.underlying2 (show DataW.trod enc Try.prog w 0 (fun _ => true) true k 2 [c2] = some y2 from h2)
    simp only [List.cons.injEq, and_true] at e0 e1 e2
    subst e0 e1 e2
    exact ⟨⟨a, b, c⟩, rfl, trivial⟩

/-! ### RankNames -/
set_option maxRecDepth 100000 in
theorem rankNames_lifted (os : Os) (started : os.Started) (H : Type) (enc : TypeId × Value → H) :
    ReturnsInHanded {} Try.checked os 3 .any (Rows.rankNamesSpec.pre6 enc Try.prog Try.f3 Rows.rankNamesRow.domain false) (Rows.rankNamesSpec.post enc Try.prog Try.f3 false true false false) := by
  refine returnsInHanded_of_change (C := Try.checked) own_ started (by kernel_rfl) Try.func3
    (ChangeSpec.witness6 (enc := enc) (C := Try.checked) false ⟨#[], #[], []⟩ 8 (by kernel_rfl) (by kernel_rfl) (by kernel_rfl) (by kernel_rfl)) ?_
  intro W base args ds gs before hval0 hW hcnd _
  have hval : ∀ (j : Nat) t v, Try.f3.params[j]? = some t → args[j]? = some v → Value.okWide Try.prog W .any base t v := hval0
  have hW' := hW
  obtain ⟨p, q, hA0, hV, rfl, hfz, hnd⟩ := hW
  have hA : DataW.TrodAll enc Try.prog W 0 (fun _ => true) true Try.f3.params.toList args.toList ds p := hA0
  have hlt : ∀ x ∈ p ++ q, x.block < W.heap.size := fun x hx => hW'.lt x hx
  rw [Try.params3] at hA hval
  obtain ⟨rfl, rfl, rfl⟩ := trodAll_none hA
  obtain ⟨rfl, rfl⟩ := trodVars_none hV

  refine (Does.toFr (names (W := W))).2.mono fun e W' ⟨v, he, hv, hf⟩ => ?_
  subst he hv
  exact ⟨_, rfl, law_post laid rfl rfl Try.underlying4 (by decide +kernel) rfl hW' hf⟩

theorem rankNames_holds : Rows.RankNamesSaid :=
  OpenClaim.holds_of_wide 3 Try.f3 rfl rfl rfl rfl rfl rfl rfl ⟨rfl, rfl, rfl, rfl, rfl⟩ rfl rfl rfl rfl rfl (by kernel_rfl) Try.func3 (by kernel_rfl)
    (of_decide_eq_true (by kernel_rfl)) (by unfold Func.isWrapper; first | (rw [if_pos (by decide +kernel)]; kernel_rfl) | (rw [if_neg (by decide +kernel)]; exact ⟨rfl, rfl⟩))
    (fun os started H enc _ => rankNames_lifted os started H enc)

/-! ### RankEqual -/
set_option maxRecDepth 100000 in
theorem rankEqual_lifted (os : Os) (started : os.Started) (H : Type) (enc : TypeId × Value → H) :
    ReturnsInHanded {} Try.checked os 4 .any (Rows.rankEqualSpec.pre6 enc Try.prog Try.f4 Rows.rankEqualRow.domain false) (Rows.rankEqualSpec.post enc Try.prog Try.f4 false true false false) := by
  refine returnsInHanded_of_change (C := Try.checked) own_ started (by kernel_rfl) Try.func4
    (ChangeSpec.witness6 (enc := enc) (C := Try.checked) false ⟨#[], #[.slice none 0 0, .int .i64 1], []⟩ 8 (by kernel_rfl) (by kernel_rfl) (by kernel_rfl) (by kernel_rfl)) ?_
  intro W base args ds gs before hval0 hW hcnd _
  have hval : ∀ (j : Nat) t v, Try.f4.params[j]? = some t → args[j]? = some v → Value.okWide Try.prog W .any base t v := hval0
  have hW' := hW
  obtain ⟨p, q, hA0, hV, rfl, hfz, hnd⟩ := hW
  have hA : DataW.TrodAll enc Try.prog W 0 (fun _ => true) true Try.f4.params.toList args.toList ds p := hA0
  have hlt : ∀ x ∈ p ++ q, x.block < W.heap.size := fun x hx => hW'.lt x hx
  rw [Try.params4] at hA hval
  obtain ⟨v0, vs0, d0, ds0, p0, q0, hargs, rfl, rfl, h0, r0⟩ := trodAll_cons hA
  obtain ⟨v1, vs1, d1, ds1, p1, q1, rfl, rfl, rfl, h1, r1⟩ := trodAll_cons r0
  obtain ⟨rfl, rfl, rfl⟩ := trodAll_nil r1
  obtain rfl : args = #[v0, v1] := by cases args; simp_all
  obtain ⟨rfl, rfl⟩ := trodVars_none hV
  obtain ⟨a0, m0, cp0, xs, rfl, hm0, hl0, s0, -⟩ := open_nums Try.underlying29 Try.underlying2 (by decide +kernel) (hval 0 29 v0 rfl rfl) h0
  obtain ⟨g, rfl, rfl, rfl, w_g⟩ := open_int Try.underlying3 (hval 1 3 v1 rfl rfl) h1

  refine (Does.toFr (equals (c := cp0) (g := g) s0 (by have := hm0; unfold maxLen at this; omega))).2.mono fun e W' ⟨v, he, hv, hf⟩ => ?_
  subst he hv
  exact ⟨_, rfl, law_post laid rfl rfl Try.underlying4 (by decide +kernel) rfl hW' hf⟩

theorem rankEqual_holds : Rows.RankEqualSaid :=
  OpenClaim.holds_of_wide 4 Try.f4 rfl rfl rfl rfl rfl rfl rfl ⟨rfl, rfl, rfl, rfl, rfl⟩ rfl rfl rfl rfl rfl (by kernel_rfl) Try.func4 (by kernel_rfl)
    (of_decide_eq_true (by kernel_rfl)) (by unfold Func.isWrapper; first | (rw [if_pos (by decide +kernel)]; kernel_rfl) | (rw [if_neg (by decide +kernel)]; exact ⟨rfl, rfl⟩))
    (fun os started H enc _ => rankEqual_lifted os started H enc)

/-! ### RankRuns -/
set_option maxRecDepth 100000 in
theorem rankRuns_lifted (os : Os) (started : os.Started) (H : Type) (enc : TypeId × Value → H) :
    ReturnsInHanded {} Try.checked os 5 .any (Rows.rankRunsSpec.pre6 enc Try.prog Try.f5 Rows.rankRunsRow.domain false) (Rows.rankRunsSpec.post enc Try.prog Try.f5 false true false false) := by
  refine returnsInHanded_of_change (C := Try.checked) own_ started (by kernel_rfl) Try.func5
    (ChangeSpec.witness6 (enc := enc) (C := Try.checked) false ⟨#[], #[.int .i64 1, .slice none 0 0], []⟩ 8 (by kernel_rfl) (by kernel_rfl) (by kernel_rfl) (by kernel_rfl)) ?_
  intro W base args ds gs before hval0 hW hcnd _
  have hval : ∀ (j : Nat) t v, Try.f5.params[j]? = some t → args[j]? = some v → Value.okWide Try.prog W .any base t v := hval0
  have hW' := hW
  obtain ⟨p, q, hA0, hV, rfl, hfz, hnd⟩ := hW
  have hA : DataW.TrodAll enc Try.prog W 0 (fun _ => true) true Try.f5.params.toList args.toList ds p := hA0
  have hlt : ∀ x ∈ p ++ q, x.block < W.heap.size := fun x hx => hW'.lt x hx
  rw [Try.params5] at hA hval
  obtain ⟨v0, vs0, d0, ds0, p0, q0, hargs, rfl, rfl, h0, r0⟩ := trodAll_cons hA
  obtain ⟨v1, vs1, d1, ds1, p1, q1, rfl, rfl, rfl, h1, r1⟩ := trodAll_cons r0
  obtain ⟨rfl, rfl, rfl⟩ := trodAll_nil r1
  obtain rfl : args = #[v0, v1] := by cases args; simp_all
  obtain ⟨rfl, rfl⟩ := trodVars_none hV
  obtain ⟨k, rfl, rfl, rfl, w_k⟩ := open_int Try.underlying3 (hval 0 3 v0 rfl rfl) h0
  obtain ⟨a1, m1, cp1, A, rfl, hm1, hl1, s1, -⟩ := open_rowOf act3 (fun _ => True) Try.underlying33 (by decide +kernel) (by decide) (fun _ => rfl) act_each (hval 1 33 v1 rfl rfl) h1
  have hk : -9223372036854775808 ≤ k ∧ k ≤ 9223372036854775807 := by
    have := w_k; simp only [Lit.wf, IntKind.min, IntKind.max, Bool.and_eq_true] at this; simp [IntKind.signed, IntKind.bits] at this; omega

  refine (Does.toFr (runs (c := cp1) hk s1 (by have := hm1; unfold maxLen at this; omega))).2.mono fun e W' ⟨v, he, hv, hf⟩ => ?_
  subst he hv
  exact ⟨_, rfl, law_post laid rfl rfl Try.underlying4 (by decide +kernel) rfl hW' hf⟩

theorem rankRuns_holds : Rows.RankRunsSaid :=
  OpenClaim.holds_of_wide 5 Try.f5 rfl rfl rfl rfl rfl rfl rfl ⟨rfl, rfl, rfl, rfl, rfl⟩ rfl rfl rfl rfl rfl (by kernel_rfl) Try.func5 (by kernel_rfl)
    (of_decide_eq_true (by kernel_rfl)) (by unfold Func.isWrapper; first | (rw [if_pos (by decide +kernel)]; kernel_rfl) | (rw [if_neg (by decide +kernel)]; exact ⟨rfl, rfl⟩))
    (fun os started H enc _ => rankRuns_lifted os started H enc)

/-! ### RankSorts -/
set_option maxRecDepth 100000 in
theorem rankSorts_lifted (os : Os) (started : os.Started) (H : Type) (enc : TypeId × Value → H) :
    ReturnsInHanded {} Try.checked os 6 .any (Rows.rankSortsSpec.pre6 enc Try.prog Try.f6 Rows.rankSortsRow.domain false) (Rows.rankSortsSpec.post enc Try.prog Try.f6 false true false false) := by
  refine returnsInHanded_of_change (C := Try.checked) own_ started (by kernel_rfl) Try.func6
    (ChangeSpec.witness6 (enc := enc) (C := Try.checked) false ⟨#[], #[.slice none 0 0, .int .i64 1], []⟩ 8 (by kernel_rfl) (by kernel_rfl) (by kernel_rfl) (by kernel_rfl)) ?_
  intro W base args ds gs before hval0 hW hcnd _
  have hval : ∀ (j : Nat) t v, Try.f6.params[j]? = some t → args[j]? = some v → Value.okWide Try.prog W .any base t v := hval0
  have hW' := hW
  obtain ⟨p, q, hA0, hV, rfl, hfz, hnd⟩ := hW
  have hA : DataW.TrodAll enc Try.prog W 0 (fun _ => true) true Try.f6.params.toList args.toList ds p := hA0
  have hlt : ∀ x ∈ p ++ q, x.block < W.heap.size := fun x hx => hW'.lt x hx
  rw [Try.params6] at hA hval
  obtain ⟨v0, vs0, d0, ds0, p0, q0, hargs, rfl, rfl, h0, r0⟩ := trodAll_cons hA
  obtain ⟨v1, vs1, d1, ds1, p1, q1, rfl, rfl, rfl, h1, r1⟩ := trodAll_cons r0
  obtain ⟨rfl, rfl, rfl⟩ := trodAll_nil r1
  obtain rfl : args = #[v0, v1] := by cases args; simp_all
  obtain ⟨rfl, rfl⟩ := trodVars_none hV
  obtain ⟨a0, m0, cp0, xs, rfl, hm0, hl0, s0, -⟩ := open_nums Try.underlying29 Try.underlying2 (by decide +kernel) (hval 0 29 v0 rfl rfl) h0
  obtain ⟨g, rfl, rfl, rfl, w_g⟩ := open_int Try.underlying3 (hval 1 3 v1 rfl rfl) h1

  refine (Does.toFr (sorts (c := cp0) (hv0 := g) s0 (by have := hm0; unfold maxLen at this; omega))).2.mono fun e W' ⟨v, he, hv, hf⟩ => ?_
  subst he hv
  exact ⟨_, rfl, law_post laid rfl rfl Try.underlying4 (by decide +kernel) rfl hW' hf⟩

theorem rankSorts_holds : Rows.RankSortsSaid :=
  OpenClaim.holds_of_wide 6 Try.f6 rfl rfl rfl rfl rfl rfl rfl ⟨rfl, rfl, rfl, rfl, rfl⟩ rfl rfl rfl rfl rfl (by kernel_rfl) Try.func6 (by kernel_rfl)
    (of_decide_eq_true (by kernel_rfl)) (by unfold Func.isWrapper; first | (rw [if_pos (by decide +kernel)]; kernel_rfl) | (rw [if_neg (by decide +kernel)]; exact ⟨rfl, rfl⟩))
    (fun os started H enc _ => rankSorts_lifted os started H enc)

/-! ### RankHalves -/
set_option maxRecDepth 100000 in
theorem rankHalves_lifted (os : Os) (started : os.Started) (H : Type) (enc : TypeId × Value → H) :
    ReturnsInHanded {} Try.checked os 7 .any (Rows.rankHalvesSpec.pre6 enc Try.prog Try.f7 Rows.rankHalvesRow.domain false) (Rows.rankHalvesSpec.post enc Try.prog Try.f7 false true false false) := by
  refine returnsInHanded_of_change (C := Try.checked) own_ started (by kernel_rfl) Try.func7
    (ChangeSpec.witness6 (enc := enc) (C := Try.checked) false ⟨#[], #[.slice none 0 0, .int .i64 1], []⟩ 8 (by kernel_rfl) (by kernel_rfl) (by kernel_rfl) (by kernel_rfl)) ?_
  intro W base args ds gs before hval0 hW hcnd _
  have hval : ∀ (j : Nat) t v, Try.f7.params[j]? = some t → args[j]? = some v → Value.okWide Try.prog W .any base t v := hval0
  have hW' := hW
  obtain ⟨p, q, hA0, hV, rfl, hfz, hnd⟩ := hW
  have hA : DataW.TrodAll enc Try.prog W 0 (fun _ => true) true Try.f7.params.toList args.toList ds p := hA0
  have hlt : ∀ x ∈ p ++ q, x.block < W.heap.size := fun x hx => hW'.lt x hx
  rw [Try.params7] at hA hval
  obtain ⟨v0, vs0, d0, ds0, p0, q0, hargs, rfl, rfl, h0, r0⟩ := trodAll_cons hA
  obtain ⟨v1, vs1, d1, ds1, p1, q1, rfl, rfl, rfl, h1, r1⟩ := trodAll_cons r0
  obtain ⟨rfl, rfl, rfl⟩ := trodAll_nil r1
  obtain rfl : args = #[v0, v1] := by cases args; simp_all
  obtain ⟨rfl, rfl⟩ := trodVars_none hV
  obtain ⟨a0, m0, cp0, xs, rfl, hm0, hl0, s0, -⟩ := open_nums Try.underlying29 Try.underlying2 (by decide +kernel) (hval 0 29 v0 rfl rfl) h0
  obtain ⟨g, rfl, rfl, rfl, w_g⟩ := open_int Try.underlying3 (hval 1 3 v1 rfl rfl) h1
  have hg : -9223372036854775808 ≤ g ∧ g ≤ 9223372036854775807 := by
    have := w_g; simp only [Lit.wf, IntKind.min, IntKind.max, Bool.and_eq_true] at this; simp [IntKind.signed, IntKind.bits] at this; omega

  refine (Does.toFr (halves (c := cp0) hg s0 (by have := hm0; unfold maxLen at this; omega))).2.mono fun e W' ⟨v, he, hv, hf⟩ => ?_
  subst he hv
  exact ⟨_, rfl, law_post laid rfl rfl Try.underlying4 (by decide +kernel) rfl hW' hf⟩

theorem rankHalves_holds : Rows.RankHalvesSaid :=
  OpenClaim.holds_of_wide 7 Try.f7 rfl rfl rfl rfl rfl rfl rfl ⟨rfl, rfl, rfl, rfl, rfl⟩ rfl rfl rfl rfl rfl (by kernel_rfl) Try.func7 (by kernel_rfl)
    (of_decide_eq_true (by kernel_rfl)) (by unfold Func.isWrapper; first | (rw [if_pos (by decide +kernel)]; kernel_rfl) | (rw [if_neg (by decide +kernel)]; exact ⟨rfl, rfl⟩))
    (fun os started H enc _ => rankHalves_lifted os started H enc)

end Go.Proofs.Ytdcoljkefnkobaa
