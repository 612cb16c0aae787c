/- The statements of the chapter on proofs, closed: what the laws' functions answer is what the cards say. -/
import Derived.Test.YtkgmgjiomniijaaDoorProofJ
import Derived.Test.YtkgmgjiomniijaaDoorCloseS
import Derived.Test.YtkgmgjiomniijaaDoorCards
import Derived.Test.YtkgmgjiomniijaaDoorTie
import Derived.Deep.DeepHandedRow
import Derived.Lib.LaidTab
namespace Go.Proofs.YtkgmgjiomniijaaDoor
open Go Go.Vc Go.Watch Go.ChangeShapes Go.WideShapes Go.ChangeAt Go.RowKit
set_option linter.unusedVariables false
set_option maxRecDepth 100000

def tab32 : List Int := [0, 1, 28, 2, 29, 14, 24, 3, 30, 22, 20, 15, 25, 17, 4, 8, 31, 27, 13, 23, 21, 19, 16, 7, 26, 12, 18, 6, 11, 5, 10, 9]
def tab64 : List Int := [0, 1, 56, 2, 57, 49, 28, 3, 61, 58, 42, 50, 38, 29, 17, 4, 62, 47, 59, 36, 45, 43, 51, 22, 53, 39, 33, 30, 24, 18, 12, 5, 63, 55, 48, 27, 60, 41, 37, 16, 46, 35, 44, 21, 52, 32, 23, 11, 54, 26, 40, 15, 34, 20, 31, 10, 25, 14, 19, 9, 13, 8, 7, 6]
def lays (k : IntKind) (zs : List Int) : Obj → Obj
  | .cells _ t frozen => .cells (zs.map fun z => Value.int k z).toArray t frozen
  | o => o
section
variable {H : Type} {enc : TypeId × Value → H} {w : World}
theorem row_cap {t e : TypeId} {fuel : Nat} {a : Option Addr} {m c : Nat} {d0 : DataW H × List MemPlace} (ht : Tryd.prog.underlying t = some (.slice e))
    (hd : DataW.trod enc Tryd.prog w 0 (fun _ => true) true fuel t [.slice a m c] = some d0) : m ≤ c := by
  rcases Go.Deep.open_slice ht hd with ⟨h, _⟩ | ⟨a', m', c', m2, n, D, Pl, h, hb, hl, _⟩
  · simp at h
    omega
  · simp at h
    omega
/-- A formula's clauses. -/
theorem forms_each : ∀ n cs y, DataW.trod enc Tryd.prog w 0 (fun _ => true) true n 33 cs = some y → cs.length = 1 → ∃ x : Fl, cs = [flV x] ∧ Src w x.1 x.2.2.length 1 (x.2.2.map lV) ∧ x.2.2.length ≤ 9223372036854775807 := by
  intro n cs y h hl
  obtain ⟨b, m, c, xs, e1, hm, hl2, hs, _⟩ := nums_trod Tryd.underlying33 Tryd.underlying32 (by decide +kernel) h
  subst e1
  subst hl2
  exact ⟨⟨b, c, xs⟩, rfl, hs, by unfold maxLen at hm; omega⟩
theorem open_formula {r : Reach} {b0 : Nat} {v : Value} {d : DataW H} {ps : List MemPlace} (hv : Value.okWide Tryd.prog w r b0 24 v) (hd : DataW.Trod enc Tryd.prog w 0 (fun _ => true) true 24 v d ps) :
    ∃ (n : Int) (a : Option Addr) (c : Nat) (C : List (List Int)) (R : List Fl), v = .agg #[.int .i64 n, .slice a C.length c] ∧ FSrc w a C R ∧ C.length ≤ c ∧ C.length ≤ 9223372036854775807 := by
  simp only [Value.okWide, Tryd.underlying24] at hv
  obtain ⟨⟨cs⟩, rfl, hl, _⟩ := hv
  obtain ⟨fuel, hd⟩ := hd
  have hl2 : cs.length = 2 := hl.trans (by decide +kernel)
  match cs, hl2 with
  | [c0, c1], _ =>
    obtain ⟨y0, y1, k, _, _, h0, h1⟩ := trod_struct2 Tryd.underlying24 (show DataW.trod enc Tryd.prog w 0 (fun _ => true) true fuel 24 [c0, c1] = some (d, ps) from hd)
    obtain ⟨n, e0, _, _⟩ := DataW.trod_int Tryd.underlying3 (show DataW.trod enc Tryd.prog w 0 (fun _ => true) true k 3 [c0] = some y0 from h0)
    obtain ⟨a, m, c, A, e1, hm, hAl, hs, hp⟩ := row_trod (sz := 1) (α := Fl) (fun x => [flV x]) (fun x : Fl => Src w x.1 x.2.2.length 1 (x.2.2.map lV) ∧ x.2.2.length ≤ 9223372036854775807) Tryd.underlying22 (by decide +kernel) (by decide) (fun _ => rfl) forms_each (show DataW.trod enc Tryd.prog w 0 (fun _ => true) true k 22 [c1] = some y1 from h1)
    simp only [List.cons.injEq, and_true] at e0 e1
    subst e0 e1
    have hcap := row_cap Tryd.underlying22 (show DataW.trod enc Tryd.prog w 0 (fun _ => true) true k 22 [.slice a m c] = some y1 from h1)
    have hm2 : m = (A.map fun x : Fl => x.2.2).length := by rw [List.length_map, hAl]
    subst hm2
    refine ⟨n, a, c, A.map (fun x : Fl => x.2.2), A, rfl, ⟨rfl, ?_, fun x hx => hp x hx⟩, hcap, by unfold maxLen at hm; omega⟩
    have e : A.map flV = A.flatMap (fun x => [flV x]) := List.map_eq_flatMap
    show Src w a _ 1 (A.map flV)
    rw [e]; exact hs
theorem steps_each : ∀ n cs y, DataW.trod enc Tryd.prog w 0 (fun _ => true) true n 37 cs = some y → cs.length = 2 → ∃ x : Stp, cs = stepV x ∧ Src w x.2.1 x.2.2.2.length 1 (x.2.2.2.map lV) := by
  intro n cs y h hl
  match cs, hl with
  | [c0, c1], _ =>
    obtain ⟨y0, y1, k, _, _, h0, h1⟩ := trod_struct2 Tryd.underlying37 h
    obtain ⟨g, e0, _⟩ := DataW.trod_bool Tryd.underlying4 (show DataW.trod enc Tryd.prog w 0 (fun _ => true) true k 4 [c0] = some y0 from h0)
    obtain ⟨x, e1, hs, _⟩ := forms_each _ _ _ (show DataW.trod enc Tryd.prog w 0 (fun _ => true) true k 33 [c1] = some y1 from h1) rfl
    simp only [List.cons.injEq, and_true] at e0 e1
    subst e0 e1
    exact ⟨(g, x), rfl, hs⟩
theorem open_steps {r : Reach} {b0 : Nat} {v : Value} {d : DataW H} {ps : List MemPlace} (hv : Value.okWide Tryd.prog w r b0 25 v) (hd : DataW.Trod enc Tryd.prog w 0 (fun _ => true) true 25 v d ps) :
    ∃ (a : Option Addr) (c : Nat) (G : List Stp), v = .slice a G.length c ∧ LSrc w a G := by
  obtain ⟨a, m, c, A, rfl, _, rfl, hs, hp⟩ := open_rowOf (sz := 2) (α := Stp) stepV (fun x : Stp => Src w x.2.1 x.2.2.2.length 1 (x.2.2.2.map lV)) Tryd.underlying25 (by decide +kernel) (by decide) stepV_len steps_each hv hd
  exact ⟨a, c, A, rfl, hs, hp⟩
theorem steps_cap {a : Option Addr} {m c : Nat} {d : DataW H} {ps : List MemPlace} (hd : DataW.Trod enc Tryd.prog w 0 (fun _ => true) true 25 (.slice a m c) d ps) : m ≤ c := by
  obtain ⟨fuel, hd⟩ := hd
  exact row_cap Tryd.underlying25 (show DataW.trod enc Tryd.prog w 0 (fun _ => true) true fuel 25 [.slice a m c] = some (d, ps) from hd)
end
section
variable {H : Type} {enc : TypeId × Value → H} {w : World}
theorem litBytes : Tryd.prog.bytesOf 32 = 4 := by kernel_rfl
theorem more_each : ∀ n cs y, DataW.trod enc Tryd.prog w 0 (fun _ => true) true n 33 cs = some y → Light Tryd.prog 33 y.1 → cs.length = 1 → ∃ x : Fl, cs = [flV x] ∧ Src w x.1 x.2.2.length 1 (x.2.2.map lV) ∧ x.2.2.length ≤ 35184372087808 := by
  intro n cs y h hw hl
  obtain ⟨b, m, c, xs, e1, ⟨_, _, hm⟩, hl2, hs, _⟩ := nums_trodS Tryd.underlying33 Tryd.underlying32 (by decide +kernel) h hw
  subst e1
  subst hl2
  rw [litBytes] at hm
  unfold reachBytes at hm
  exact ⟨⟨b, c, xs⟩, rfl, hs, by show xs.length ≤ _; omega⟩
theorem open_more {r : Reach} {b0 : Nat} {v : Value} {d : DataW H} {ps : List MemPlace} (hv : Value.okWide Tryd.prog w r b0 22 v) (hd : DataW.Trod enc Tryd.prog w 0 (fun _ => true) true 22 v d ps) (hw : Light Tryd.prog 22 d) :
    ∃ (a : Option Addr) (c : Nat) (C : List (List Int)) (R : List Fl), v = .slice a C.length c ∧ FSrc w a C R ∧ (∀ x ∈ R, x.2.2.length ≤ 35184372087808) ∧ C.length ≤ 9223372036854775807 := by
  obtain ⟨a0, m0, c0, _, rfl, _⟩ := open_rowOf (sz := 1) (α := Fl) (fun x => [flV x]) (fun _ => True) Tryd.underlying22 (by decide +kernel) (by decide) (fun _ => rfl) (fun n cs y hy hl => by
    obtain ⟨x, rfl, _⟩ := forms_each n cs y hy hl
    exact ⟨x, rfl, trivial⟩) hv hd
  obtain ⟨fuel, hd⟩ := hd
  obtain ⟨a, m, c, A, e1, ⟨hcap, hm, _⟩, hAl, hs, hp⟩ := row_trodS (sz := 1) (α := Fl) (fun x => [flV x]) (fun x : Fl => Src w x.1 x.2.2.length 1 (x.2.2.map lV) ∧ x.2.2.length ≤ 35184372087808) Tryd.underlying22 (by decide +kernel) (by decide) (fun _ => rfl) more_each (show DataW.trod enc Tryd.prog w 0 (fun _ => true) true fuel 22 [.slice a0 m0 c0] = some (d, ps) from hd) hw
  simp only [List.cons.injEq, Value.slice.injEq, and_true] at e1
  obtain ⟨rfl, rfl, rfl⟩ := e1
  have hm2 : m0 = (A.map fun x : Fl => x.2.2).length := by rw [List.length_map, hAl]
  subst hm2
  refine ⟨a0, c0, A.map (fun x : Fl => x.2.2), A, rfl, ⟨rfl, ?_, fun x hx => ⟨(hp x hx).1, by have := (hp x hx).2; omega⟩⟩, fun x hx => (hp x hx).2, by unfold maxLen at hm; omega⟩
  have e : A.map flV = A.flatMap (fun x => [flV x]) := List.map_eq_flatMap
  show Src w a0 _ 1 (A.map flV)
  rw [e]; exact hs
end

/-! ### ProofMore -/
theorem gTab : Tryd.prog.globalNamed "internal/strconv.uint64pow10" = some 0 := by kernel_rfl
theorem gTabType : (Tryd.prog.globals[0]?).map (·.type) = some 135 := by kernel_rfl
theorem pow_laid {W : World} (h : laidMetH Tryd.prog Rows.proofMoreRow.laid W) : Pow W := by
  obtain ⟨ps, hl, _⟩ := (show laidMet Tryd.prog Rows.proofMoreRow.laid W from h)
  obtain ⟨_, _, _, _, _, _, _, _, _, _, hl, _⟩ := hl
  obtain ⟨_, _, _, _, _, _, _, _, _, _, hl, _⟩ := hl
  obtain ⟨g', t', cs, fuel, p, q, hg', ht', hvar, hd, _, _⟩ := hl
  obtain rfl := Option.some.inj (gTab.symm.trans hg')
  obtain rfl := Option.some.inj (gTabType.symm.trans ht')
  unfold Pow Lib.TabIs
  rw [hvar, ← Lib.cells_of_tab (k := .u64) (zs := Lib.pow10Tab) Tryd.underlying135 Tryd.underlying115 (by kernel_rfl) (by kernel_rfl) hd]

theorem contract (H : Type) (enc : TypeId × Value → H) (W : World) (base : Nat) (args : Array Value) (ds gs : List (DataW H)) (before : List MemPlace)
    (hval0 : ∀ (j : Nat) t v, Tryd.f3.params[j]? = some t → args[j]? = some v → Value.okWide Tryd.prog W .any base t v)
    (hW : DataW.Whole enc Tryd.prog Tryd.f3.params.toList Rows.proofMoreSpec.vars false W args.toList ds gs before) (hz : (DataW.weightsEach Tryd.prog (Tryd.f3.params.toList ++ (OpenSpec.ofChange Rows.proofMoreSpec).bare.plain.varTypes Tryd.prog) (ds ++ gs)).all (· ≤ reachBytes) = true) (hL : laidMetH Tryd.prog Rows.proofMoreRow.laid W) :
    Calls Tryd.prog 3 args W fun e W' => ∃ v, e = .returned v ∧ Rows.proofMoreSpec.post enc Tryd.prog Tryd.f3 false true false false W args v W' := by
  have hval := hval0
  have hW' := hW
  obtain ⟨p, q, hA0, hV, rfl, hfz, hnd⟩ := hW
  have hA : DataW.TrodAll enc Tryd.prog W 0 (fun _ => true) true Tryd.f3.params.toList args.toList ds p := hA0
  have hlt : ∀ x ∈ p ++ q, x.block < W.heap.size := fun x hx => hW'.lt x hx
  rw [Tryd.params3] at hA hval hz
  obtain ⟨v0, vs0, d0, ds0, p0, q0, hargs, rfl, rfl, h0, r0⟩ := trodAll_cons hA
  obtain ⟨v1, vs1, d1, ds1, p1, q1, rfl, rfl, rfl, h1, r1⟩ := trodAll_cons r0
  obtain ⟨v2, vs2, d2, ds2, p2, q2, rfl, rfl, rfl, h2, r2⟩ := trodAll_cons r1
  obtain ⟨rfl, rfl, rfl⟩ := trodAll_nil r2
  obtain rfl : args = #[v0, v1, v2] := by cases args; simp_all
  obtain ⟨n, a0, cp0, C0, R0, rfl, s0, cap0, l0⟩ := open_formula (hval 0 24 v0 rfl rfl) h0
  obtain ⟨a1, cp1, G, rfl, s1⟩ := open_steps (hval 1 25 v1 rfl rfl) h1
  have cap1 := steps_cap h1
  have hz1 := (Light.head (show (DataW.weightsEach Tryd.prog (_ :: _) (_ :: _)).all (· ≤ reachBytes) = true from hz)).2
  have hz2 := (Light.head (show (DataW.weightsEach Tryd.prog (_ :: _) (_ :: _)).all (· ≤ reachBytes) = true from hz1)).2
  have g2 := (Light.head (show (DataW.weightsEach Tryd.prog (_ :: _) (_ :: _)).all (· ≤ reachBytes) = true from hz2)).1
  obtain ⟨a2, cp2, M0, RM, rfl, s2, sm2, l2⟩ := open_more (hval 2 22 v2 rfl rfl) h2 g2

  obtain ⟨rfl, rfl⟩ := trodVars_none hV
  refine (Does.toFr (pMore (Sep.nil W) (pow_laid hL) (fun h => ⟨s0.eq, h.rd s0.rows, fun x hx => ⟨h.rd (s0.cls x hx).1, (s0.cls x hx).2⟩⟩) cap0 (fun h => ⟨h.rd s1.rows, fun x hx => h.rd (s1.each x hx)⟩) cap1 (fun h => ⟨s2.eq, h.rd s2.rows, fun x hx => ⟨h.rd (s2.cls x hx).1, (s2.cls x hx).2⟩⟩) l2 sm2)).2.mono fun e W' ⟨v, he, hv, hf⟩ => ?_
  subst he hv
  exact ⟨_, rfl, law_post laid rfl rfl Tryd.underlying4 (by decide +kernel) rfl hW' hf⟩

/-- A world for the witness: the tables (blocks 0, 1, 2) hold what their initialisers lay. -/
noncomputable def laidWorld (os : Os) : World :=
  { World.holding Tryd.prog os ⟨#[], #[], []⟩ with heap := (((World.holding Tryd.prog os ⟨#[], #[], []⟩).heap.modify 0 (lays .u64 Lib.pow10Tab)).modify 1 (lays .u8 tab32)).modify 2 (lays .u8 tab64) }
theorem laid_met (os : Os) : laidMet Tryd.prog Rows.proofMoreRow.laid ((laidWorld os).forCall (fun _ _ => 0) ⟨#[], #[.agg #[.int .i64 0, .slice none 0 0], .slice none 0 0, .slice none 0 0], []⟩).memory :=
  laidMet_of_run' 8 (by kernel_rfl) (by kernel_rfl)
theorem reads (os : Os) {H : Type} (enc : TypeId × Value → H) : ∃ places, DataW.whole enc Tryd.prog ((laidWorld os).forCall (fun _ _ => 0) ⟨#[], #[.agg #[.int .i64 0, .slice none 0 0], .slice none 0 0, .slice none 0 0], []⟩).memory Tryd.f3.params.toList Rows.proofMoreSpec.vars false (#[.agg #[.int .i64 0, .slice none 0 0], .slice none 0 0, .slice none 0 0] : Array Value).toList 8 = some ([.agg [.lit (.int .i64 0), .nil], .nil, .nil], [], places) :=
  ⟨[], by kernel_rfl⟩

theorem lifted (os : Os) (started : os.Started) (H : Type) (enc : TypeId × Value → H) (F : Stop.Interp) :
    ReturnsInHanded {} Tryd.checked os 3 .any ((OpenSpec.ofChange Rows.proofMoreSpec).preRow enc Tryd.prog Tryd.f3 Rows.proofMoreRow.domain false Rows.proofMoreRow.laid) (((OpenSpec.ofChange Rows.proofMoreSpec).at F).post enc Tryd.prog Tryd.f3 false true false false) := by
  obtain ⟨places, hx⟩ := reads os enc
  refine returnsInHanded_of_row (C := Tryd.checked) (s := OpenSpec.ofChange Rows.proofMoreSpec) own_ started (by kernel_rfl) Tryd.func3
    (witness_row_at (enc := enc) (C := Tryd.checked) false (laidWorld os) #[.agg #[.int .i64 0, .slice none 0 0], .slice none 0 0, .slice none 0 0] rfl (by kernel_rfl) (by kernel_rfl) (by kernel_rfl)
      (OpenSpec.preRow_of_cond 8 hx (by kernel_rfl) (fun k hk => by cases hk) (by kernel_rfl) (laid_met os))) ?_
  intro W base args ds gs before hval hW _ _ hz hL _ _
  exact contract H enc W base args ds gs before hval hW hz hL

theorem said : Rows.ProofMoreSaid :=
  OpenClaim.holds_of_cond 3 Tryd.f3 rfl rfl rfl rfl rfl rfl rfl ⟨rfl, rfl, rfl, rfl, rfl⟩ rfl rfl rfl rfl rfl (by kernel_rfl) Tryd.func3 (by kernel_rfl)
    (of_decide_eq_true (by kernel_rfl)) (by unfold Func.isWrapper; first | (rw [if_pos (by decide +kernel)]; kernel_rfl) | (rw [if_neg (by decide +kernel)]; exact ⟨rfl, rfl⟩))
    (fun os started H enc _ F => by rw [OpenClaim.pre_eq_preRow]; exact lifted os started H enc F)

theorem plain (f : FuncId) (fn : Func) (hf : Tryd.pinned.checked.prog.funcNamed "lariat/lariatlaw09.ProofMore" = some f) (hfn : Tryd.pinned.checked.prog.funcs[f]? = some fn) :
    false = Tryd.pinned.checked.prog.looks [] ∧ ∀ (j : Nat) t, fn.params[j]? = some t → Tryd.pinned.checked.prog.wantsStandIn t = false := by
  obtain rfl : f = 3 := Option.some.inj ((show Tryd.prog.funcNamed "lariat/lariatlaw09.ProofMore" = some 3 by kernel_rfl).symm.trans hf) |>.symm
  obtain rfl : fn = Tryd.f3 := (Option.some.inj (Tryd.func3.symm.trans hfn)).symm
  refine ⟨by kernel_rfl, fun j t ht => ?_⟩
  rw [Tryd.params3] at ht
  have hm := Array.mem_of_getElem? ht
  simp at hm
  rcases hm with rfl | rfl | rfl
  · exact (show Tryd.prog.wantsStandIn 24 = false by kernel_rfl)
  · exact (show Tryd.prog.wantsStandIn 25 = false by kernel_rfl)
  · exact (show Tryd.prog.wantsStandIn 22 = false by kernel_rfl)

theorem proofMore_holds : Rows.ProofMoreCardSaid :=
  Claim7.holds_tied_plain_at .later [] _ _ _ _ said (fun _ h => by cases h) (by kernel_rfl) (fun _ h => by cases h) proofMore_row_tie rfl ⟨rfl, rfl⟩ (by kernel_rfl) rfl plain (by kernel_rfl)

end Go.Proofs.YtkgmgjiomniijaaDoor
