/- The statements of the chapter on watched literals, closed: what the laws' functions answer is what the statements say. -/
import Derived.Test.YtodabklhbagljaaWatchG
import Derived.Test.YtodabklhbagljaaClose
import Derived.Deep.Strs
namespace Go.Proofs.Ytodabklhbagljaa
open Go Go.Vc Go.Watch Go.ChangeShapes Go.WideShapes Go.ChangeAt Go.RowKit
set_option linter.unusedVariables false
set_option maxRecDepth 100000

section
variable {H : Type} {enc : TypeId × Value → H} {w : World}
theorem row_cap {t e : TypeId} {fuel : Nat} {a : Option Addr} {m c : Nat} {d0 : DataW H × List MemPlace} (ht : Try.prog.underlying t = some (.slice e))
    (hd : DataW.trod enc Try.prog w 0 (fun _ => true) true fuel t [.slice a m c] = some d0) : m ≤ c := by
  rcases Go.Deep.open_slice ht hd with ⟨h, _⟩ | ⟨a', m', c', m2, n, D, Pl, h, hb, hl, _⟩
  · simp at h
    omega
  · simp at h
    omega
/-- A formula's clauses. -/
theorem forms_each : ∀ n cs y, DataW.trod enc Try.prog w 0 (fun _ => true) true n 25 cs = some y → cs.length = 1 → ∃ x : Fl, cs = [flV x] ∧ Src w x.1 x.2.2.length 1 (x.2.2.map lV) ∧ x.2.2.length ≤ 9223372036854775807 := by
  intro n cs y h hl
  obtain ⟨b, m, c, xs, e1, hm, hl2, hs, _⟩ := nums_trod Try.underlying25 Try.underlying32 (by decide +kernel) h
  subst e1
  subst hl2
  exact ⟨⟨b, c, xs⟩, rfl, hs, by unfold maxLen at hm; omega⟩
theorem open_formula {r : Reach} {b0 : Nat} {v : Value} {d : DataW H} {ps : List MemPlace} (hv : Value.okWide Try.prog w r b0 24 v) (hd : DataW.Trod enc Try.prog w 0 (fun _ => true) true 24 v d ps) :
    ∃ (n : Int) (a : Option Addr) (c : Nat) (C : List (List Int)) (R : List Fl), v = .agg #[.int .i64 n, .slice a C.length c] ∧ FSrc w a C R ∧ C.length ≤ c ∧ C.length ≤ 9223372036854775807 := by
  simp only [Value.okWide, Try.underlying24] at hv
  obtain ⟨⟨cs⟩, rfl, hl, _⟩ := hv
  obtain ⟨fuel, hd⟩ := hd
  have hl2 : cs.length = 2 := hl.trans (by decide +kernel)
  match cs, hl2 with
  | [c0, c1], _ =>
    obtain ⟨y0, y1, k, _, _, h0, h1⟩ := trod_struct2 Try.underlying24 (show DataW.trod enc Try.prog w 0 (fun _ => true) true fuel 24 [c0, c1] = some (d, ps) from hd)
    obtain ⟨n, e0, _, _⟩ := DataW.trod_int Try.underlying3 (show DataW.trod enc Try.prog w 0 (fun _ => true) true k 3 [c0] = some y0 from h0)
    obtain ⟨a, m, c, A, e1, hm, hAl, hs, hp⟩ := row_trod (sz := 1) (α := Fl) (fun x => [flV x]) (fun x : Fl => Src w x.1 x.2.2.length 1 (x.2.2.map lV) ∧ x.2.2.length ≤ 9223372036854775807) Try.underlying22 (by decide +kernel) (by decide) (fun _ => rfl) forms_each (show DataW.trod enc Try.prog w 0 (fun _ => true) true k 22 [c1] = some y1 from h1)
    simp only [List.cons.injEq, and_true] at e0 e1
    subst e0 e1
    have hcap := row_cap Try.underlying22 (show DataW.trod enc Try.prog w 0 (fun _ => true) true k 22 [.slice a m c] = some y1 from h1)
    have hm2 : m = (A.map fun x : Fl => x.2.2).length := by rw [List.length_map, hAl]
    subst hm2
    refine ⟨n, a, c, A.map (fun x : Fl => x.2.2), A, rfl, ⟨rfl, ?_, fun x hx => hp x hx⟩, hcap, by unfold maxLen at hm; omega⟩
    have e : A.map flV = A.flatMap (fun x => [flV x]) := List.map_eq_flatMap
    show Src w a _ 1 (A.map flV)
    rw [e]; exact hs
end

/-! ### WatchNames -/
set_option maxRecDepth 100000 in
theorem watchNames_lifted (os : Os) (started : os.Started) (H : Type) (enc : TypeId × Value → H) :
    ReturnsInHanded {} Try.checked os 6 .any (Rows.watchNamesSpec.pre6 enc Try.prog Try.f6 Rows.watchNamesRow.domain false) (Rows.watchNamesSpec.post enc Try.prog Try.f6 false true false false) := by
  refine returnsInHanded_of_change (C := Try.checked) own_ started (by kernel_rfl) Try.func6
    (ChangeSpec.witness6 (enc := enc) (C := Try.checked) false ⟨#[], #[], []⟩ 8 (by kernel_rfl) (by kernel_rfl) (by kernel_rfl) (by kernel_rfl)) ?_
  intro W base args ds gs before hval0 hW hcnd _
  have hval : ∀ (j : Nat) t v, Try.f6.params[j]? = some t → args[j]? = some v → Value.okWide Try.prog W .any base t v := hval0
  have hW' := hW
  obtain ⟨p, q, hA0, hV, rfl, hfz, hnd⟩ := hW
  have hA : DataW.TrodAll enc Try.prog W 0 (fun _ => true) true Try.f6.params.toList args.toList ds p := hA0
  have hlt : ∀ x ∈ p ++ q, x.block < W.heap.size := fun x hx => hW'.lt x hx
  rw [Try.params6] at hA hval
  obtain ⟨rfl, rfl, rfl⟩ := trodAll_none hA
  obtain ⟨rfl, rfl⟩ := trodVars_none hV

  refine (Does.toFr (uNames W)).2.mono fun e W' ⟨v, he, hv, hf⟩ => ?_
  subst he hv
  exact ⟨_, rfl, law_post laid rfl rfl Try.underlying4 (by decide +kernel) rfl hW' hf⟩

theorem watchNames_holds : Rows.WatchNamesSaid :=
  OpenClaim.holds_of_wide 6 Try.f6 rfl rfl rfl rfl rfl rfl rfl ⟨rfl, rfl, rfl, rfl, rfl⟩ rfl rfl rfl rfl rfl (by kernel_rfl) Try.func6 (by kernel_rfl)
    (of_decide_eq_true (by kernel_rfl)) (by unfold Func.isWrapper; first | (rw [if_pos (by decide +kernel)]; kernel_rfl) | (rw [if_neg (by decide +kernel)]; exact ⟨rfl, rfl⟩))
    (fun os started H enc _ => watchNames_lifted os started H enc)

/-! ### WatchOrders -/
set_option maxRecDepth 100000 in
theorem watchOrders_lifted (os : Os) (started : os.Started) (H : Type) (enc : TypeId × Value → H) :
    ReturnsInHanded {} Try.checked os 3 .any (Rows.watchOrdersSpec.pre6 enc Try.prog Try.f3 Rows.watchOrdersRow.domain false) (Rows.watchOrdersSpec.post enc Try.prog Try.f3 false true false false) := by
  refine returnsInHanded_of_change (C := Try.checked) own_ started (by kernel_rfl) Try.func3
    (ChangeSpec.witness6 (enc := enc) (C := Try.checked) false ⟨#[], #[.agg #[.int .i64 1, .slice none 0 0], .slice none 0 0, .int .i64 1], []⟩ 8 (by kernel_rfl) (by kernel_rfl) (by kernel_rfl) (by kernel_rfl)) ?_
  intro W base args ds gs before hval0 hW hcnd _
  have hval : ∀ (j : Nat) t v, Try.f3.params[j]? = some t → args[j]? = some v → Value.okWide Try.prog W .any base t v := hval0
  have hW' := hW
  obtain ⟨p, q, hA0, hV, rfl, hfz, hnd⟩ := hW
  have hA : DataW.TrodAll enc Try.prog W 0 (fun _ => true) true Try.f3.params.toList args.toList ds p := hA0
  have hlt : ∀ x ∈ p ++ q, x.block < W.heap.size := fun x hx => hW'.lt x hx
  rw [Try.params3] at hA hval
  obtain ⟨v0, vs0, d0, ds0, p0, q0, hargs, rfl, rfl, h0, r0⟩ := trodAll_cons hA
  obtain ⟨v1, vs1, d1, ds1, p1, q1, rfl, rfl, rfl, h1, r1⟩ := trodAll_cons r0
  obtain ⟨v2, vs2, d2, ds2, p2, q2, rfl, rfl, rfl, h2, r2⟩ := trodAll_cons r1
  obtain ⟨rfl, rfl, rfl⟩ := trodAll_nil r2
  obtain rfl : args = #[v0, v1, v2] := by cases args; simp_all
  obtain ⟨rfl, rfl⟩ := trodVars_none hV
  obtain ⟨n, a0, cp0, C0, R0, rfl, s0, cap0, l0⟩ := open_formula (hval 0 24 v0 rfl rfl) h0
  obtain ⟨a1, m1, cp1, X, rfl, hm1, hl1, s1, -⟩ := open_nums Try.underlying25 Try.underlying32 (by decide +kernel) (hval 1 25 v1 rfl rfl) h1
  subst hl1
  obtain ⟨k, rfl, rfl, rfl, w_k⟩ := open_int Try.underlying3 (hval 2 3 v2 rfl rfl) h2

  refine (Does.toFr (uOrders s0 cap0 l0 s1 (by have := hm1; unfold maxLen at this; omega))).2.mono fun e W' ⟨v, he, hv, hf⟩ => ?_
  subst he hv
  exact ⟨_, rfl, law_post laid rfl rfl Try.underlying4 (by decide +kernel) rfl hW' hf⟩

theorem watchOrders_holds : Rows.WatchOrdersSaid :=
  OpenClaim.holds_of_wide 3 Try.f3 rfl rfl rfl rfl rfl rfl rfl ⟨rfl, rfl, rfl, rfl, rfl⟩ rfl rfl rfl rfl rfl (by kernel_rfl) Try.func3 (by kernel_rfl)
    (of_decide_eq_true (by kernel_rfl)) (by unfold Func.isWrapper; first | (rw [if_pos (by decide +kernel)]; kernel_rfl) | (rw [if_neg (by decide +kernel)]; exact ⟨rfl, rfl⟩))
    (fun os started H enc _ => watchOrders_lifted os started H enc)

/-! ### WatchMore -/
set_option maxRecDepth 100000 in
theorem watchMore_lifted (os : Os) (started : os.Started) (H : Type) (enc : TypeId × Value → H) :
    ReturnsInHanded {} Try.checked os 4 .any (Rows.watchMoreSpec.pre6 enc Try.prog Try.f4 Rows.watchMoreRow.domain false) (Rows.watchMoreSpec.post enc Try.prog Try.f4 false true false false) := by
  refine returnsInHanded_of_change (C := Try.checked) own_ started (by kernel_rfl) Try.func4
    (ChangeSpec.witness6 (enc := enc) (C := Try.checked) false ⟨#[], #[.agg #[.int .i64 1, .slice none 0 0], .slice none 0 0, .agg #[.int .i64 0, .int .i64 0]], []⟩ 8 (by kernel_rfl) (by kernel_rfl) (by kernel_rfl) (by kernel_rfl)) ?_
  intro W base args ds gs before hval0 hW hcnd _
  have hval : ∀ (j : Nat) t v, Try.f4.params[j]? = some t → args[j]? = some v → Value.okWide Try.prog W .any base t v := hval0
  have hW' := hW
  obtain ⟨p, q, hA0, hV, rfl, hfz, hnd⟩ := hW
  have hA : DataW.TrodAll enc Try.prog W 0 (fun _ => true) true Try.f4.params.toList args.toList ds p := hA0
  have hlt : ∀ x ∈ p ++ q, x.block < W.heap.size := fun x hx => hW'.lt x hx
  rw [Try.params4] at hA hval
  obtain ⟨v0, vs0, d0, ds0, p0, q0, hargs, rfl, rfl, h0, r0⟩ := trodAll_cons hA
  obtain ⟨v1, vs1, d1, ds1, p1, q1, rfl, rfl, rfl, h1, r1⟩ := trodAll_cons r0
  obtain ⟨v2, vs2, d2, ds2, p2, q2, rfl, rfl, rfl, h2, r2⟩ := trodAll_cons r1
  obtain ⟨rfl, rfl, rfl⟩ := trodAll_nil r2
  obtain rfl : args = #[v0, v1, v2] := by cases args; simp_all
  obtain ⟨rfl, rfl⟩ := trodVars_none hV
  obtain ⟨n, a0, cp0, C0, R0, rfl, s0, cap0, l0⟩ := open_formula (hval 0 24 v0 rfl rfl) h0
  obtain ⟨a1, m1, cp1, X, rfl, hm1, hl1, s1, -⟩ := open_nums Try.underlying25 Try.underlying32 (by decide +kernel) (hval 1 25 v1 rfl rfl) h1
  subst hl1
  obtain ⟨p0, p1, rfl, -, -⟩ := open_pair Try.underlying44 Try.underlying3 (by decide +kernel) (by decide +kernel) (hval 2 44 v2 rfl rfl) h2

  refine (Does.toFr (uMore s0 l0 s1 (by have := hm1; unfold maxLen at this; omega))).2.mono fun e W' ⟨v, he, hv, hf⟩ => ?_
  subst he hv
  exact ⟨_, rfl, law_post laid rfl rfl Try.underlying4 (by decide +kernel) rfl hW' hf⟩

theorem watchMore_holds : Rows.WatchMoreSaid :=
  OpenClaim.holds_of_wide 4 Try.f4 rfl rfl rfl rfl rfl rfl rfl ⟨rfl, rfl, rfl, rfl, rfl⟩ rfl rfl rfl rfl rfl (by kernel_rfl) Try.func4 (by kernel_rfl)
    (of_decide_eq_true (by kernel_rfl)) (by unfold Func.isWrapper; first | (rw [if_pos (by decide +kernel)]; kernel_rfl) | (rw [if_neg (by decide +kernel)]; exact ⟨rfl, rfl⟩))
    (fun os started H enc _ => watchMore_lifted os started H enc)

/-! ### WatchAgain -/
set_option maxRecDepth 100000 in
theorem watchAgain_lifted (os : Os) (started : os.Started) (H : Type) (enc : TypeId × Value → H) :
    ReturnsInHanded {} Try.checked os 5 .any (Rows.watchAgainSpec.pre6 enc Try.prog Try.f5 Rows.watchAgainRow.domain false) (Rows.watchAgainSpec.post enc Try.prog Try.f5 false true false false) := by
  refine returnsInHanded_of_change (C := Try.checked) own_ started (by kernel_rfl) Try.func5
    (ChangeSpec.witness6 (enc := enc) (C := Try.checked) false ⟨#[], #[.agg #[.int .i64 1, .slice none 0 0], .slice none 0 0], []⟩ 8 (by kernel_rfl) (by kernel_rfl) (by kernel_rfl) (by kernel_rfl)) ?_
  intro W base args ds gs before hval0 hW hcnd _
  have hval : ∀ (j : Nat) t v, Try.f5.params[j]? = some t → args[j]? = some v → Value.okWide Try.prog W .any base t v := hval0
  have hW' := hW
  obtain ⟨p, q, hA0, hV, rfl, hfz, hnd⟩ := hW
  have hA : DataW.TrodAll enc Try.prog W 0 (fun _ => true) true Try.f5.params.toList args.toList ds p := hA0
  have hlt : ∀ x ∈ p ++ q, x.block < W.heap.size := fun x hx => hW'.lt x hx
  rw [Try.params5] at hA hval
  obtain ⟨v0, vs0, d0, ds0, p0, q0, hargs, rfl, rfl, h0, r0⟩ := trodAll_cons hA
  obtain ⟨v1, vs1, d1, ds1, p1, q1, rfl, rfl, rfl, h1, r1⟩ := trodAll_cons r0
  obtain ⟨rfl, rfl, rfl⟩ := trodAll_nil r1
  obtain rfl : args = #[v0, v1] := by cases args; simp_all
  obtain ⟨rfl, rfl⟩ := trodVars_none hV
  obtain ⟨n, a0, cp0, C0, R0, rfl, s0, cap0, l0⟩ := open_formula (hval 0 24 v0 rfl rfl) h0
  obtain ⟨a1, m1, cp1, X, rfl, hm1, hl1, s1, -⟩ := open_nums Try.underlying25 Try.underlying32 (by decide +kernel) (hval 1 25 v1 rfl rfl) h1
  subst hl1

  refine (Does.toFr (uAgain s0 l0 s1 (by have := hm1; unfold maxLen at this; omega))).2.mono fun e W' ⟨v, he, hv, hf⟩ => ?_
  subst he hv
  exact ⟨_, rfl, law_post laid rfl rfl Try.underlying4 (by decide +kernel) rfl hW' hf⟩

theorem watchAgain_holds : Rows.WatchAgainSaid :=
  OpenClaim.holds_of_wide 5 Try.f5 rfl rfl rfl rfl rfl rfl rfl ⟨rfl, rfl, rfl, rfl, rfl⟩ rfl rfl rfl rfl rfl (by kernel_rfl) Try.func5 (by kernel_rfl)
    (of_decide_eq_true (by kernel_rfl)) (by unfold Func.isWrapper; first | (rw [if_pos (by decide +kernel)]; kernel_rfl) | (rw [if_neg (by decide +kernel)]; exact ⟨rfl, rfl⟩))
    (fun os started H enc _ => watchAgain_lifted os started H enc)

end Go.Proofs.Ytodabklhbagljaa
