/- The statements of the chapter on solving, closed: what the laws' functions answer is what the statements say. -/
import Derived.Test.YtcibiidebknkgaaGreatSatA5
import Derived.Test.YtcibiidebknkgaaGreatClose
import Derived.Test.YtcibiidebknkgaaGreatCloseS
import Derived.Deep.Strs
namespace Go.Proofs.YtcibiidebknkgaaGreat
open Go Go.Vc Go.Watch Go.ChangeShapes Go.WideShapes Go.ChangeAt Go.RowKit
set_option linter.unusedVariables false
set_option maxRecDepth 100000

section
variable {H : Type} {enc : TypeId × Value → H} {w : World}
theorem litBytes : Tryz.prog.bytesOf 29 = 4 := by kernel_rfl
/-- A formula's clauses. -/
theorem forms_each : ∀ n cs y, DataW.trod enc Tryz.prog w 0 (fun _ => true) true n 37 cs = some y → Light Tryz.prog 37 y.1 → cs.length = 1 → ∃ x : Fl, cs = [flV x] ∧ Src w x.1 x.2.2.length 1 (x.2.2.map lV) ∧ x.2.2.length ≤ 35184372087808 := by
  intro n cs y h hw hl
  obtain ⟨b, m, c, xs, e1, ⟨_, _, hm⟩, hl2, hs, _⟩ := nums_trodS Tryz.underlying37 Tryz.underlying29 (by decide +kernel) h hw
  subst e1
  subst hl2
  rw [litBytes] at hm
  unfold reachBytes at hm
  exact ⟨⟨b, c, xs⟩, rfl, hs, by show xs.length ≤ _; omega⟩
theorem open_formula {r : Reach} {b0 : Nat} {v : Value} {d : DataW H} {ps : List MemPlace} (hv : Value.okWide Tryz.prog w r b0 35 v) (hd : DataW.Trod enc Tryz.prog w 0 (fun _ => true) true 35 v d ps) (hw : Light Tryz.prog 35 d) :
    ∃ (n : Int) (a : Option Addr) (c : Nat) (C : List (List Int)) (R : List Fl), v = .agg #[.int .i64 n, .slice a C.length c] ∧ FSrc w a C R ∧ (∀ x ∈ R, x.2.2.length ≤ 35184372087808) ∧ C.length ≤ c ∧ C.length ≤ 9223372036854775807 := by
  simp only [Value.okWide, Tryz.underlying35] at hv
  obtain ⟨⟨cs⟩, rfl, hl, _⟩ := hv
  obtain ⟨fuel, hd⟩ := hd
  have hl2 : cs.length = 2 := hl.trans (by decide +kernel)
  match cs, hl2 with
  | [c0, c1], _ =>
    obtain ⟨y0, y1, k, hdd, _, h0, h1⟩ := trod_struct2 Tryz.underlying35 (show DataW.trod enc Tryz.prog w 0 (fun _ => true) true fuel 35 [c0, c1] = some (d, ps) from hd)
    obtain ⟨rfl, rfl⟩ : d = .agg [y0.1, y1.1] ∧ ps = y0.2 ++ y1.2 := by simpa using hdd
    have hw1 := (hw.struct2 Tryz.underlying35).2
    obtain ⟨n, e0, _, _⟩ := DataW.trod_int Tryz.underlying3 (show DataW.trod enc Tryz.prog w 0 (fun _ => true) true k 3 [c0] = some y0 from h0)
    obtain ⟨a, m, c, A, e1, ⟨hcap, hm, _⟩, hAl, hs, hp⟩ := row_trodS (sz := 1) (α := Fl) (fun x => [flV x]) (fun x : Fl => Src w x.1 x.2.2.length 1 (x.2.2.map lV) ∧ x.2.2.length ≤ 35184372087808) Tryz.underlying33 (by decide +kernel) (by decide) (fun _ => rfl) forms_each (show DataW.trod enc Tryz.prog w 0 (fun _ => true) true k 33 [c1] = some y1 from h1) hw1
    simp only [List.cons.injEq, and_true] at e0 e1
    subst e0 e1
    have hm2 : m = (A.map fun x : Fl => x.2.2).length := by rw [List.length_map, hAl]
    subst hm2
    refine ⟨n, a, c, A.map (fun x : Fl => x.2.2), A, rfl, ⟨rfl, ?_, fun x hx => ⟨(hp x hx).1, by have := (hp x hx).2; omega⟩⟩, fun x hx => (hp x hx).2, hcap, by unfold maxLen at hm; omega⟩
    have e : A.map flV = A.flatMap (fun x => [flV x]) := List.map_eq_flatMap
    show Src w a _ 1 (A.map flV)
    rw [e]; exact hs
end

/-! ### SatAll -/
set_option maxRecDepth 100000 in
theorem satAll_lifted (os : Os) (started : os.Started) (H : Type) (enc : TypeId × Value → H) :
    ReturnsInHanded {} Tryz.checked os 6 .any (Rows.satAllSpec.pre6 enc Tryz.prog Tryz.f6 Rows.satAllRow.domain false) (Rows.satAllSpec.post enc Tryz.prog Tryz.f6 false true false false) := by
  refine returnsInHanded_of_change_sized (C := Tryz.checked) own_ started (by kernel_rfl) Tryz.func6
    (ChangeSpec.witness6 (enc := enc) (C := Tryz.checked) false ⟨#[], #[.agg #[.int .i64 1, .slice none 0 0], .agg #[.int .u64 0, .int .i64 0, .int .i64 0]], []⟩ 8 (by kernel_rfl) (by kernel_rfl) (by kernel_rfl) (by kernel_rfl)) ?_
  intro W base args ds gs before hval0 hW hcnd hz0 _
  have hval : ∀ (j : Nat) t v, Tryz.f6.params[j]? = some t → args[j]? = some v → Value.okWide Tryz.prog W .any base t v := hval0
  have hW' := hW
  obtain ⟨p, q, hA0, hV, rfl, hfz, hnd⟩ := hW
  have hA : DataW.TrodAll enc Tryz.prog W 0 (fun _ => true) true Tryz.f6.params.toList args.toList ds p := hA0
  have hlt : ∀ x ∈ p ++ q, x.block < W.heap.size := fun x hx => hW'.lt x hx
  rw [Tryz.params6] at hA hval
  obtain ⟨v0, vs0, d0, ds0, p0, q0, hargs, rfl, rfl, h0, r0⟩ := trodAll_cons hA
  obtain ⟨v1, vs1, d1, ds1, p1, q1, rfl, rfl, rfl, h1, r1⟩ := trodAll_cons r0
  obtain ⟨rfl, rfl, rfl⟩ := trodAll_nil r1
  obtain rfl : args = #[v0, v1] := by cases args; simp_all
  have hz : (DataW.weightsEach Tryz.prog (35 :: 26 :: DataSpec.varTypes Tryz.prog Rows.satAllSpec.plain) (d0 :: d1 :: gs)).all (fun x => decide (x ≤ reachBytes)) = true := by rw [Tryz.params6] at hz0; exact hz0
  obtain ⟨g0, hz⟩ := Light.head hz
  obtain ⟨g1, hz⟩ := Light.head hz
  obtain ⟨rfl, rfl⟩ := trodVars_none hV
  obtain ⟨n, a0, cp0, C0, R0, rfl, s0, sm0, cap0, l0⟩ := open_formula (hval 0 35 v0 rfl rfl) h0 g0
  obtain ⟨c0, c1, c2, y0, y1, y2, n0, rfl, rfl, rfl, e0, e1, e2⟩ := Go.Joins.open_agg3 Tryz.underlying26 (by decide +kernel) (by decide +kernel) (hval 1 26 v1 rfl rfl) h1
  obtain ⟨seed, e0, -, -⟩ := DataW.trod_int Tryz.underlying24 e0
  obtain ⟨u, e1, -, -⟩ := DataW.trod_int Tryz.underlying3 e1
  obtain ⟨r, e2, -, -⟩ := DataW.trod_int Tryz.underlying3 e2
  simp only [List.cons.injEq, and_true] at e0 e1 e2
  subst e0 e1 e2

  refine (Does.toFr (uAll8 s0 sm0 l0)).2.mono fun e W' ⟨v, he, hv, hf⟩ => ?_
  subst he hv
  exact ⟨_, rfl, law_post laid rfl rfl Tryz.underlying4 (by decide +kernel) rfl hW' hf⟩

theorem satAll_holds : Rows.SatAllSaid :=
  OpenClaim.holds_of_wide 6 Tryz.f6 rfl rfl rfl rfl rfl rfl rfl ⟨rfl, rfl, rfl, rfl, rfl⟩ rfl rfl rfl rfl rfl (by kernel_rfl) Tryz.func6 (by kernel_rfl)
    (of_decide_eq_true (by kernel_rfl)) (by unfold Func.isWrapper; first | (rw [if_pos (by decide +kernel)]; kernel_rfl) | (rw [if_neg (by decide +kernel)]; exact ⟨rfl, rfl⟩))
    (fun os started H enc _ => satAll_lifted os started H enc)

end Go.Proofs.YtcibiidebknkgaaGreat
