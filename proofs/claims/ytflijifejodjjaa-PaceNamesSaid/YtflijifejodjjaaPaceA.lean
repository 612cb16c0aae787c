/- The statements of the chapter on pace: each law's function answers true. -/
import Derived.Test.YtflijifejodjjaaPaceW
import Derived.Test.YtflijifejodjjaaClose
namespace Go.Proofs.Ytflijifejodjjaa
open Go Go.Vc Go.Luby Go.ChangeShapes Go.WideShapes Go.ChangeAt Go.RowKit
set_option linter.unusedVariables false

theorem names (w : World) : Does Try.prog 3 #[] w fun v w' => v = .bool true ∧ Fr (fun _ => False) w w' := by
  have l : luby 1048575 = 524288 := by decide +kernel
  refine Does_intro tok (Try.call3 _ _) Try.func3 rfl (by rfl) ?_
  refine Call_of (luby_no _ _ (by omega)) ?_
  rintro v w1 ⟨rfl, rfl⟩
  refine Call_of (luby_no _ _ (by omega)) ?_
  rintro v w1 ⟨rfl, rfl⟩
  refine Call_of (luby_yes _ 1048575 _ rfl (by omega) (by omega)) ?_
  rintro v w1 ⟨rfl, rfl⟩
  rw [l]
  refine Call_of (alive _) ?_
  rintro v w2 ⟨rfl, hf⟩
  (repeat (first | refine Br_true ?_ | refine Br_false ?_ | refine Ar_i64 (by omega) (by omega) ?_ | refine Eqv_in ?_ | refine Br_dec_yes (by omega) ?_ | refine Br_dec_no (by omega) ?_ | refine Br_eq_yes (by omega) ?_ | refine Br_eq_no (by omega) ?_ | refine Br_ne_yes (by omega) ?_ | refine Br_ne_no (by omega) ?_ | refine Br_not ?_ | refine Join_dup (Br_dec_yes (by omega) ?_) | refine Join_dup (Br_dec_no (by omega) ?_) | refine Join_dup (Br_eq_yes (by omega) ?_) | refine Join_dup (Br_eq_no (by omega) ?_) | refine Join_dup (Br_ne_yes (by omega) ?_) | refine Join_dup (Br_ne_no (by omega) ?_) | refine Ar_i32 (by omega) (by omega) ?_ | refine Ar_u64 (by omega) (by omega) ?_ | refine Ar_u32 (by omega) (by omega) ?_ | refine Nn_in (by omega) ?_ | refine Nz_in (by omega) ?_))
  exact Ret_in ⟨rfl, hf⟩


/-! ### PaceNames -/
set_option maxRecDepth 100000 in
theorem paceNames_lifted (os : Os) (started : os.Started) (H : Type) (enc : TypeId × Value → H) :
    ReturnsInHanded {} Try.checked os 3 .any (Rows.paceNamesSpec.pre6 enc Try.prog Try.f3 Rows.paceNamesRow.domain false) (Rows.paceNamesSpec.post enc Try.prog Try.f3 false true false false) := by
  refine returnsInHanded_of_change (C := Try.checked) own_ started (by kernel_rfl) Try.func3
    (ChangeSpec.witness6 (enc := enc) (C := Try.checked) false ⟨#[], #[], []⟩ 8 (by kernel_rfl) (by kernel_rfl) (by kernel_rfl) (by kernel_rfl)) ?_
  intro W base args ds gs before hval0 hW hcnd _
  have hval : ∀ (j : Nat) t v, Try.f3.params[j]? = some t → args[j]? = some v → Value.okWide Try.prog W .any base t v := hval0
  have hW' := hW
  obtain ⟨p, q, hA0, hV, rfl, hfz, hnd⟩ := hW
  have hA : DataW.TrodAll enc Try.prog W 0 (fun _ => true) true Try.f3.params.toList args.toList ds p := hA0
  have hlt : ∀ x ∈ p ++ q, x.block < W.heap.size := fun x hx => hW'.lt x hx
  rw [Try.params3] at hA hval
  obtain ⟨rfl, rfl, rfl⟩ := trodAll_none hA
  obtain ⟨rfl, rfl⟩ := trodVars_none hV

  refine (names W).2.mono fun e W' ⟨v, he, hv, hf⟩ => ?_
  subst he hv
  exact ⟨_, rfl, law_post laid rfl rfl Try.underlying4 (by decide +kernel) rfl hW' hf⟩

theorem paceNames_holds : Rows.PaceNamesSaid :=
  OpenClaim.holds_of_wide 3 Try.f3 rfl rfl rfl rfl rfl rfl rfl ⟨rfl, rfl, rfl, rfl, rfl⟩ rfl rfl rfl rfl rfl (by kernel_rfl) Try.func3 (by kernel_rfl)
    (of_decide_eq_true (by kernel_rfl)) (by unfold Func.isWrapper; first | (rw [if_pos (by decide +kernel)]; kernel_rfl) | (rw [if_neg (by decide +kernel)]; exact ⟨rfl, rfl⟩))
    (fun os started H enc _ => paceNames_lifted os started H enc)
#print axioms paceNames_holds
end Go.Proofs.Ytflijifejodjjaa
