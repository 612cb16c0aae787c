/- The statements of the chapter on learning, closed: what the laws' functions answer is what the statements say. -/
import Derived.Test.YtajllmlgihbdhaaLearnL
import Derived.Test.YtajllmlgihbdhaaCloseS
import Derived.Deep.Strs
namespace Go.Proofs.Ytajllmlgihbdhaa
open Go Go.Vc Go.Watch Go.ChangeShapes Go.WideShapes Go.ChangeAt Go.RowKit
set_option linter.unusedVariables false
set_option maxRecDepth 100000

section
variable {H : Type} {enc : TypeId × Value → H} {w : World}
theorem litBytes : Try.prog.bytesOf 27 = 4 := by kernel_rfl
/-- A formula's clauses. -/
theorem forms_each : ∀ n cs y, DataW.trod enc Try.prog w 0 (fun _ => true) true n 28 cs = some y → Light Try.prog 28 y.1 → cs.length = 1 → ∃ x : Fl, cs = [flV x] ∧ Src w x.1 x.2.2.length 1 (x.2.2.map lV) ∧ x.2.2.length ≤ 35184372087808 := by
  intro n cs y h hw hl
  obtain ⟨b, m, c, xs, e1, ⟨_, _, hm⟩, hl2, hs, _⟩ := nums_trodS Try.underlying28 Try.underlying27 (by decide +kernel) h hw
  subst e1
  subst hl2
  rw [litBytes] at hm
  unfold reachBytes at hm
  exact ⟨⟨b, c, xs⟩, rfl, hs, by show xs.length ≤ _; omega⟩
theorem open_formula {r : Reach} {b0 : Nat} {v : Value} {d : DataW H} {ps : List MemPlace} (hv : Value.okWide Try.prog w r b0 34 v) (hd : DataW.Trod enc Try.prog w 0 (fun _ => true) true 34 v d ps) (hw : Light Try.prog 34 d) :
    ∃ (n : Int) (a : Option Addr) (c : Nat) (C : List (List Int)) (R : List Fl), v = .agg #[.int .i64 n, .slice a C.length c] ∧ FSrc w a C R ∧ (∀ x ∈ R, x.2.2.length ≤ 35184372087808) ∧ C.length ≤ c ∧ C.length ≤ 9223372036854775807 := by
  simp only [Value.okWide, Try.underlying34] at hv
  obtain ⟨⟨cs⟩, rfl, hl, _⟩ := hv
  obtain ⟨fuel, hd⟩ := hd
  have hl2 : cs.length = 2 := hl.trans (by decide +kernel)
  match cs, hl2 with
  | [c0, c1], _ =>
    obtain ⟨y0, y1, k, hdd, _, h0, h1⟩ := trod_struct2 Try.underlying34 (show DataW.trod enc Try.prog w 0 (fun _ => true) true fuel 34 [c0, c1] = some (d, ps) from hd)
    obtain ⟨rfl, rfl⟩ : d = .agg [y0.1, y1.1] ∧ ps = y0.2 ++ y1.2 := by simpa using hdd
    have hw1 := (hw.struct2 Try.underlying34).2
    obtain ⟨n, e0, _, _⟩ := DataW.trod_int Try.underlying3 (show DataW.trod enc Try.prog w 0 (fun _ => true) true k 3 [c0] = some y0 from h0)
    obtain ⟨a, m, c, A, e1, ⟨hcap, hm, _⟩, hAl, hs, hp⟩ := row_trodS (sz := 1) (α := Fl) (fun x => [flV x]) (fun x : Fl => Src w x.1 x.2.2.length 1 (x.2.2.map lV) ∧ x.2.2.length ≤ 35184372087808) Try.underlying32 (by decide +kernel) (by decide) (fun _ => rfl) forms_each (show DataW.trod enc Try.prog w 0 (fun _ => true) true k 32 [c1] = some y1 from h1) hw1
    simp only [List.cons.injEq, and_true] at e0 e1
    subst e0 e1
    have hm2 : m = (A.map fun x : Fl => x.2.2).length := by rw [List.length_map, hAl]
    subst hm2
    refine ⟨n, a, c, A.map (fun x : Fl => x.2.2), A, rfl, ⟨rfl, ?_, fun x hx => ⟨(hp x hx).1, by have := (hp x hx).2; omega⟩⟩, fun x hx => (hp x hx).2, hcap, by unfold maxLen at hm; omega⟩
    have e : A.map flV = A.flatMap (fun x => [flV x]) := List.map_eq_flatMap
    show Src w a _ 1 (A.map flV)
    rw [e]; exact hs
end

/-! ### LearnRefuses -/
set_option maxRecDepth 100000 in
theorem learnRefuses_lifted (os : Os) (started : os.Started) (H : Type) (enc : TypeId × Value → H) :
    ReturnsInHanded {} Try.checked os 4 .any (Rows.learnRefusesSpec.pre6 enc Try.prog Try.f4 Rows.learnRefusesRow.domain false) (Rows.learnRefusesSpec.post enc Try.prog Try.f4 false true false false) := by
  refine returnsInHanded_of_change_sized (C := Try.checked) own_ started (by kernel_rfl) Try.func4
    (ChangeSpec.witness6 (enc := enc) (C := Try.checked) false ⟨#[], #[.agg #[.int .i64 1, .slice none 0 0], .slice none 0 0, .int .i64 1], []⟩ 8 (by kernel_rfl) (by kernel_rfl) (by kernel_rfl) (by kernel_rfl)) ?_
  intro W base args ds gs before hval0 hW hcnd hz0 _
  have hval : ∀ (j : Nat) t v, Try.f4.params[j]? = some t → args[j]? = some v → Value.okWide Try.prog W .any base t v := hval0
  have hW' := hW
  obtain ⟨p, q, hA0, hV, rfl, hfz, hnd⟩ := hW
  have hA : DataW.TrodAll enc Try.prog W 0 (fun _ => true) true Try.f4.params.toList args.toList ds p := hA0
  have hlt : ∀ x ∈ p ++ q, x.block < W.heap.size := fun x hx => hW'.lt x hx
  rw [Try.params4] at hA hval
  obtain ⟨v0, vs0, d0, ds0, p0, q0, hargs, rfl, rfl, h0, r0⟩ := trodAll_cons hA
  obtain ⟨v1, vs1, d1, ds1, p1, q1, rfl, rfl, rfl, h1, r1⟩ := trodAll_cons r0
  obtain ⟨v2, vs2, d2, ds2, p2, q2, rfl, rfl, rfl, h2, r2⟩ := trodAll_cons r1
  obtain ⟨rfl, rfl, rfl⟩ := trodAll_nil r2
  obtain rfl : args = #[v0, v1, v2] := by cases args; simp_all
  have hz : (DataW.weightsEach Try.prog (34 :: 28 :: 3 :: DataSpec.varTypes Try.prog Rows.learnRefusesSpec.plain) (d0 :: d1 :: d2 :: gs)).all (fun x => decide (x ≤ reachBytes)) = true := by rw [Try.params4] at hz0; exact hz0
  obtain ⟨g0, hz⟩ := Light.head hz
  obtain ⟨g1, hz⟩ := Light.head hz
  obtain ⟨g2, hz⟩ := Light.head hz
  obtain ⟨rfl, rfl⟩ := trodVars_none hV
  obtain ⟨n, a0, cp0, C0, R0, rfl, s0, sm0, cap0, l0⟩ := open_formula (hval 0 34 v0 rfl rfl) h0 g0
  obtain ⟨a1, m1, cp1, X, rfl, hm1, hl1, s1, -⟩ := open_nums Try.underlying28 Try.underlying27 (by decide +kernel) (hval 1 28 v1 rfl rfl) h1
  subst hl1
  obtain ⟨k, rfl, rfl, rfl, w_k⟩ := open_int Try.underlying3 (hval 2 3 v2 rfl rfl) h2

  refine (Does.toFr (uRefuses s0 sm0 cap0 l0 s1 (by have := hm1; unfold maxLen at this; omega))).2.mono fun e W' ⟨v, he, hv, hf⟩ => ?_
  subst he hv
  exact ⟨_, rfl, law_post laid rfl rfl Try.underlying4 (by decide +kernel) rfl hW' hf⟩

theorem learnRefuses_holds : Rows.LearnRefusesSaid :=
  OpenClaim.holds_of_wide 4 Try.f4 rfl rfl rfl rfl rfl rfl rfl ⟨rfl, rfl, rfl, rfl, rfl⟩ rfl rfl rfl rfl rfl (by kernel_rfl) Try.func4 (by kernel_rfl)
    (of_decide_eq_true (by kernel_rfl)) (by unfold Func.isWrapper; first | (rw [if_pos (by decide +kernel)]; kernel_rfl) | (rw [if_neg (by decide +kernel)]; exact ⟨rfl, rfl⟩))
    (fun os started H enc _ => learnRefuses_lifted os started H enc)

end Go.Proofs.Ytajllmlgihbdhaa
