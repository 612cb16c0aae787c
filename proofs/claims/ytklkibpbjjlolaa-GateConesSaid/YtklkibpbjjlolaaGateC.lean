/- The statements of the chapter on gates, closed: what the laws' functions answer is what the statements say. -/
import Derived.Test.YtklkibpbjjlolaaGateO
import Derived.Test.YtklkibpbjjlolaaClose
import Derived.Deep.Strs
namespace Go.Proofs.Ytklkibpbjjlolaa
open Go Go.Vc Go.Gate Go.ChangeShapes Go.WideShapes Go.ChangeAt Go.RowKit
set_option linter.unusedVariables false

theorem act_each {H : Type} {enc : TypeId × Value → H} {w : World} : ∀ n cs y, DataW.trod enc Try.prog w 0 (fun _ => true) true n 29 cs = some y → cs.length = 2 → ∃ x : Deed, cs = act2 x ∧ (x.parts.length ≤ maxLen ∧ Src w x.a x.parts.length 1 (x.parts.map iV)) := by
  intro n cs y h hl
  obtain ⟨y0, y1, k, _, _, h0, h1⟩ := trod_struct2 Try.underlying29 h
  match cs, hl with
  | [c0, c1], _ =>
    obtain ⟨a, e0, _, _⟩ := DataW.trod_int Try.underlying3 (show DataW.trod enc Try.prog w 0 (fun _ => true) true k 3 [c0] = some y0 from h0)
    obtain ⟨b, m, c, xs, e1, hm, hl, hs, _⟩ := nums_trod Try.underlying27 Try.underlying3 (by decide +kernel) (show DataW.trod enc Try.prog w 0 (fun _ => true) true k 27 [c1] = some y1 from h1)
    simp only [List.cons.injEq, and_true] at e0 e1
    subst e0 e1 hl
    exact ⟨⟨a, b, c, xs⟩, rfl, hm, hs⟩

/-! ### GateNames -/
set_option maxRecDepth 100000 in
theorem gateNames_lifted (os : Os) (started : os.Started) (H : Type) (enc : TypeId × Value → H) :
    ReturnsInHanded {} Try.checked os 6 .any (Rows.gateNamesSpec.pre6 enc Try.prog Try.f6 Rows.gateNamesRow.domain false) (Rows.gateNamesSpec.post enc Try.prog Try.f6 false true false false) := by
  refine returnsInHanded_of_change (C := Try.checked) own_ started (by kernel_rfl) Try.func6
    (ChangeSpec.witness6 (enc := enc) (C := Try.checked) false ⟨#[], #[], []⟩ 8 (by kernel_rfl) (by kernel_rfl) (by kernel_rfl) (by kernel_rfl)) ?_
  intro W base args ds gs before hval0 hW hcnd _
  have hval : ∀ (j : Nat) t v, Try.f6.params[j]? = some t → args[j]? = some v → Value.okWide Try.prog W .any base t v := hval0
  have hW' := hW
  obtain ⟨p, q, hA0, hV, rfl, hfz, hnd⟩ := hW
  have hA : DataW.TrodAll enc Try.prog W 0 (fun _ => true) true Try.f6.params.toList args.toList ds p := hA0
  have hlt : ∀ x ∈ p ++ q, x.block < W.heap.size := fun x hx => hW'.lt x hx
  rw [Try.params6] at hA hval
  obtain ⟨rfl, rfl, rfl⟩ := trodAll_none hA
  obtain ⟨rfl, rfl⟩ := trodVars_none hV

  refine (Does.toFr (uNames W)).2.mono fun e W' ⟨v, he, hv, hf⟩ => ?_
  subst he hv
  exact ⟨_, rfl, law_post laid rfl rfl Try.underlying4 (by decide +kernel) rfl hW' hf⟩

theorem gateNames_holds : Rows.GateNamesSaid :=
  OpenClaim.holds_of_wide 6 Try.f6 rfl rfl rfl rfl rfl rfl rfl ⟨rfl, rfl, rfl, rfl, rfl⟩ rfl rfl rfl rfl rfl (by kernel_rfl) Try.func6 (by kernel_rfl)
    (of_decide_eq_true (by kernel_rfl)) (by unfold Func.isWrapper; first | (rw [if_pos (by decide +kernel)]; kernel_rfl) | (rw [if_neg (by decide +kernel)]; exact ⟨rfl, rfl⟩))
    (fun os started H enc _ => gateNames_lifted os started H enc)

/-! ### GateRuns -/
set_option maxRecDepth 100000 in
theorem gateRuns_lifted (os : Os) (started : os.Started) (H : Type) (enc : TypeId × Value → H) :
    ReturnsInHanded {} Try.checked os 5 .any (Rows.gateRunsSpec.pre6 enc Try.prog Try.f5 Rows.gateRunsRow.domain false) (Rows.gateRunsSpec.post enc Try.prog Try.f5 false true false false) := by
  refine returnsInHanded_of_change (C := Try.checked) own_ started (by kernel_rfl) Try.func5
    (ChangeSpec.witness6 (enc := enc) (C := Try.checked) false ⟨#[], #[.int .i64 1, .slice none 0 0], []⟩ 8 (by kernel_rfl) (by kernel_rfl) (by kernel_rfl) (by kernel_rfl)) ?_
  intro W base args ds gs before hval0 hW hcnd _
  have hval : ∀ (j : Nat) t v, Try.f5.params[j]? = some t → args[j]? = some v → Value.okWide Try.prog W .any base t v := hval0
  have hW' := hW
  obtain ⟨p, q, hA0, hV, rfl, hfz, hnd⟩ := hW
  have hA : DataW.TrodAll enc Try.prog W 0 (fun _ => true) true Try.f5.params.toList args.toList ds p := hA0
  have hlt : ∀ x ∈ p ++ q, x.block < W.heap.size := fun x hx => hW'.lt x hx
  rw [Try.params5] at hA hval
  obtain ⟨v0, vs0, d0, ds0, p0, q0, hargs, rfl, rfl, h0, r0⟩ := trodAll_cons hA
  obtain ⟨v1, vs1, d1, ds1, p1, q1, rfl, rfl, rfl, h1, r1⟩ := trodAll_cons r0
  obtain ⟨rfl, rfl, rfl⟩ := trodAll_nil r1
  obtain rfl : args = #[v0, v1] := by cases args; simp_all
  obtain ⟨rfl, rfl⟩ := trodVars_none hV
  obtain ⟨k, rfl, rfl, rfl, w_k⟩ := open_int Try.underlying3 (hval 0 3 v0 rfl rfl) h0
  obtain ⟨a1, m1, cp1, A, rfl, hm1, hl1, s1, each1⟩ := open_rowOf act2 (fun x => x.parts.length ≤ maxLen ∧ Src W x.a x.parts.length 1 (x.parts.map iV)) Try.underlying22 (by decide +kernel) (by decide) (fun _ => rfl) act_each (hval 1 22 v1 rfl rfl) h1
  subst hl1

  refine (Does.toFr (uRuns (k := k) (c := cp1) s1 (fun x hx => (each1 x hx).2) (fun x hx => (by have := (each1 x hx).1; unfold maxLen at this; omega)) (by have := hm1; unfold maxLen at this; omega))).2.mono fun e W' ⟨v, he, hv, hf⟩ => ?_
  subst he hv
  exact ⟨_, rfl, law_post laid rfl rfl Try.underlying4 (by decide +kernel) rfl hW' hf⟩

theorem gateRuns_holds : Rows.GateRunsSaid :=
  OpenClaim.holds_of_wide 5 Try.f5 rfl rfl rfl rfl rfl rfl rfl ⟨rfl, rfl, rfl, rfl, rfl⟩ rfl rfl rfl rfl rfl (by kernel_rfl) Try.func5 (by kernel_rfl)
    (of_decide_eq_true (by kernel_rfl)) (by unfold Func.isWrapper; first | (rw [if_pos (by decide +kernel)]; kernel_rfl) | (rw [if_neg (by decide +kernel)]; exact ⟨rfl, rfl⟩))
    (fun os started H enc _ => gateRuns_lifted os started H enc)

/-! ### GateOnce -/
set_option maxRecDepth 100000 in
theorem gateOnce_lifted (os : Os) (started : os.Started) (H : Type) (enc : TypeId × Value → H) :
    ReturnsInHanded {} Try.checked os 4 .any (Rows.gateOnceSpec.pre6 enc Try.prog Try.f4 Rows.gateOnceRow.domain false) (Rows.gateOnceSpec.post enc Try.prog Try.f4 false true false false) := by
  refine returnsInHanded_of_change (C := Try.checked) own_ started (by kernel_rfl) Try.func4
    (ChangeSpec.witness6 (enc := enc) (C := Try.checked) false ⟨#[], #[.int .i64 1, .slice none 0 0], []⟩ 8 (by kernel_rfl) (by kernel_rfl) (by kernel_rfl) (by kernel_rfl)) ?_
  intro W base args ds gs before hval0 hW hcnd _
  have hval : ∀ (j : Nat) t v, Try.f4.params[j]? = some t → args[j]? = some v → Value.okWide Try.prog W .any base t v := hval0
  have hW' := hW
  obtain ⟨p, q, hA0, hV, rfl, hfz, hnd⟩ := hW
  have hA : DataW.TrodAll enc Try.prog W 0 (fun _ => true) true Try.f4.params.toList args.toList ds p := hA0
  have hlt : ∀ x ∈ p ++ q, x.block < W.heap.size := fun x hx => hW'.lt x hx
  rw [Try.params4] at hA hval
  obtain ⟨v0, vs0, d0, ds0, p0, q0, hargs, rfl, rfl, h0, r0⟩ := trodAll_cons hA
  obtain ⟨v1, vs1, d1, ds1, p1, q1, rfl, rfl, rfl, h1, r1⟩ := trodAll_cons r0
  obtain ⟨rfl, rfl, rfl⟩ := trodAll_nil r1
  obtain rfl : args = #[v0, v1] := by cases args; simp_all
  obtain ⟨rfl, rfl⟩ := trodVars_none hV
  obtain ⟨k, rfl, rfl, rfl, w_k⟩ := open_int Try.underlying3 (hval 0 3 v0 rfl rfl) h0
  obtain ⟨a1, m1, cp1, A, rfl, hm1, hl1, s1, each1⟩ := open_rowOf act2 (fun x => x.parts.length ≤ maxLen ∧ Src W x.a x.parts.length 1 (x.parts.map iV)) Try.underlying22 (by decide +kernel) (by decide) (fun _ => rfl) act_each (hval 1 22 v1 rfl rfl) h1
  subst hl1

  refine (Does.toFr (uOnce (k := k) (c := cp1) s1 (fun x hx => (each1 x hx).2) (fun x hx => (by have := (each1 x hx).1; unfold maxLen at this; omega)) (by have := hm1; unfold maxLen at this; omega))).2.mono fun e W' ⟨v, he, hv, hf⟩ => ?_
  subst he hv
  exact ⟨_, rfl, law_post laid rfl rfl Try.underlying4 (by decide +kernel) rfl hW' hf⟩

theorem gateOnce_holds : Rows.GateOnceSaid :=
  OpenClaim.holds_of_wide 4 Try.f4 rfl rfl rfl rfl rfl rfl rfl ⟨rfl, rfl, rfl, rfl, rfl⟩ rfl rfl rfl rfl rfl (by kernel_rfl) Try.func4 (by kernel_rfl)
    (of_decide_eq_true (by kernel_rfl)) (by unfold Func.isWrapper; first | (rw [if_pos (by decide +kernel)]; kernel_rfl) | (rw [if_neg (by decide +kernel)]; exact ⟨rfl, rfl⟩))
    (fun os started H enc _ => gateOnce_lifted os started H enc)

/-! ### GateLaws -/
set_option maxRecDepth 100000 in
theorem gateLaws_lifted (os : Os) (started : os.Started) (H : Type) (enc : TypeId × Value → H) :
    ReturnsInHanded {} Try.checked os 3 .any (Rows.gateLawsSpec.pre6 enc Try.prog Try.f3 Rows.gateLawsRow.domain false) (Rows.gateLawsSpec.post enc Try.prog Try.f3 false true false false) := by
  refine returnsInHanded_of_change (C := Try.checked) own_ started (by kernel_rfl) Try.func3
    (ChangeSpec.witness6 (enc := enc) (C := Try.checked) false ⟨#[], #[.int .i64 1, .slice none 0 0, .agg #[.int .i64 0, .int .i64 0]], []⟩ 8 (by kernel_rfl) (by kernel_rfl) (by kernel_rfl) (by kernel_rfl)) ?_
  intro W base args ds gs before hval0 hW hcnd _
  have hval : ∀ (j : Nat) t v, Try.f3.params[j]? = some t → args[j]? = some v → Value.okWide Try.prog W .any base t v := hval0
  have hW' := hW
  obtain ⟨p, q, hA0, hV, rfl, hfz, hnd⟩ := hW
  have hA : DataW.TrodAll enc Try.prog W 0 (fun _ => true) true Try.f3.params.toList args.toList ds p := hA0
  have hlt : ∀ x ∈ p ++ q, x.block < W.heap.size := fun x hx => hW'.lt x hx
  rw [Try.params3] at hA hval
  obtain ⟨v0, vs0, d0, ds0, p0, q0, hargs, rfl, rfl, h0, r0⟩ := trodAll_cons hA
  obtain ⟨v1, vs1, d1, ds1, p1, q1, rfl, rfl, rfl, h1, r1⟩ := trodAll_cons r0
  obtain ⟨v2, vs2, d2, ds2, p2, q2, rfl, rfl, rfl, h2, r2⟩ := trodAll_cons r1
  obtain ⟨rfl, rfl, rfl⟩ := trodAll_nil r2
  obtain rfl : args = #[v0, v1, v2] := by cases args; simp_all
  obtain ⟨rfl, rfl⟩ := trodVars_none hV
  obtain ⟨k, rfl, rfl, rfl, w_k⟩ := open_int Try.underlying3 (hval 0 3 v0 rfl rfl) h0
  obtain ⟨a1, m1, cp1, A, rfl, hm1, hl1, s1, each1⟩ := open_rowOf act2 (fun x => x.parts.length ≤ maxLen ∧ Src W x.a x.parts.length 1 (x.parts.map iV)) Try.underlying22 (by decide +kernel) (by decide) (fun _ => rfl) act_each (hval 1 22 v1 rfl rfl) h1
  subst hl1
  obtain ⟨p0, p1, rfl, -, -⟩ := open_pair Try.underlying23 Try.underlying3 (by decide +kernel) (by decide +kernel) (hval 2 23 v2 rfl rfl) h2

  refine (Does.toFr (uLaws (k := k) (p0 := p0) (p1 := p1) (c := cp1) s1 (fun x hx => (each1 x hx).2) (fun x hx => (by have := (each1 x hx).1; unfold maxLen at this; omega)) (by have := hm1; unfold maxLen at this; omega))).2.mono fun e W' ⟨v, he, hv, hf⟩ => ?_
  subst he hv
  exact ⟨_, rfl, law_post laid rfl rfl Try.underlying4 (by decide +kernel) rfl hW' hf⟩

theorem gateLaws_holds : Rows.GateLawsSaid :=
  OpenClaim.holds_of_wide 3 Try.f3 rfl rfl rfl rfl rfl rfl rfl ⟨rfl, rfl, rfl, rfl, rfl⟩ rfl rfl rfl rfl rfl (by kernel_rfl) Try.func3 (by kernel_rfl)
    (of_decide_eq_true (by kernel_rfl)) (by unfold Func.isWrapper; first | (rw [if_pos (by decide +kernel)]; kernel_rfl) | (rw [if_neg (by decide +kernel)]; exact ⟨rfl, rfl⟩))
    (fun os started H enc _ => gateLaws_lifted os started H enc)

/-! ### GateCones -/
set_option maxRecDepth 100000 in
theorem gateCones_lifted (os : Os) (started : os.Started) (H : Type) (enc : TypeId × Value → H) :
    ReturnsInHanded {} Try.checked os 7 .any (Rows.gateConesSpec.pre6 enc Try.prog Try.f7 Rows.gateConesRow.domain false) (Rows.gateConesSpec.post enc Try.prog Try.f7 false true false false) := by
  refine returnsInHanded_of_change (C := Try.checked) own_ started (by kernel_rfl) Try.func7
    (ChangeSpec.witness6 (enc := enc) (C := Try.checked) false ⟨#[], #[.int .i64 1, .slice none 0 0, .agg #[.int .i64 0, .int .i64 0]], []⟩ 8 (by kernel_rfl) (by kernel_rfl) (by kernel_rfl) (by kernel_rfl)) ?_
  intro W base args ds gs before hval0 hW hcnd _
  have hval : ∀ (j : Nat) t v, Try.f7.params[j]? = some t → args[j]? = some v → Value.okWide Try.prog W .any base t v := hval0
  have hW' := hW
  obtain ⟨p, q, hA0, hV, rfl, hfz, hnd⟩ := hW
  have hA : DataW.TrodAll enc Try.prog W 0 (fun _ => true) true Try.f7.params.toList args.toList ds p := hA0
  have hlt : ∀ x ∈ p ++ q, x.block < W.heap.size := fun x hx => hW'.lt x hx
  rw [Try.params7] at hA hval
  obtain ⟨v0, vs0, d0, ds0, p0, q0, hargs, rfl, rfl, h0, r0⟩ := trodAll_cons hA
  obtain ⟨v1, vs1, d1, ds1, p1, q1, rfl, rfl, rfl, h1, r1⟩ := trodAll_cons r0
  obtain ⟨v2, vs2, d2, ds2, p2, q2, rfl, rfl, rfl, h2, r2⟩ := trodAll_cons r1
  obtain ⟨rfl, rfl, rfl⟩ := trodAll_nil r2
  obtain rfl : args = #[v0, v1, v2] := by cases args; simp_all
  obtain ⟨rfl, rfl⟩ := trodVars_none hV
  obtain ⟨k, rfl, rfl, rfl, w_k⟩ := open_int Try.underlying3 (hval 0 3 v0 rfl rfl) h0
  obtain ⟨a1, m1, cp1, A, rfl, hm1, hl1, s1, each1⟩ := open_rowOf act2 (fun x => x.parts.length ≤ maxLen ∧ Src W x.a x.parts.length 1 (x.parts.map iV)) Try.underlying22 (by decide +kernel) (by decide) (fun _ => rfl) act_each (hval 1 22 v1 rfl rfl) h1
  subst hl1
  obtain ⟨p0, p1, rfl, -, -⟩ := open_pair Try.underlying23 Try.underlying3 (by decide +kernel) (by decide +kernel) (hval 2 23 v2 rfl rfl) h2

  refine (Does.toFr (uCones (k := k) (p0 := p0) (p1 := p1) (c := cp1) s1 (fun x hx => (each1 x hx).2) (fun x hx => (by have := (each1 x hx).1; unfold maxLen at this; omega)) (by have := hm1; unfold maxLen at this; omega))).2.mono fun e W' ⟨v, he, hv, hf⟩ => ?_
  subst he hv
  exact ⟨_, rfl, law_post laid rfl rfl Try.underlying4 (by decide +kernel) rfl hW' hf⟩

theorem gateCones_holds : Rows.GateConesSaid :=
  OpenClaim.holds_of_wide 7 Try.f7 rfl rfl rfl rfl rfl rfl rfl ⟨rfl, rfl, rfl, rfl, rfl⟩ rfl rfl rfl rfl rfl (by kernel_rfl) Try.func7 (by kernel_rfl)
    (of_decide_eq_true (by kernel_rfl)) (by unfold Func.isWrapper; first | (rw [if_pos (by decide +kernel)]; kernel_rfl) | (rw [if_neg (by decide +kernel)]; exact ⟨rfl, rfl⟩))
    (fun os started H enc _ => gateCones_lifted os started H enc)

end Go.Proofs.Ytklkibpbjjlolaa
