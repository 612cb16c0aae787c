/- Arguments of the laws on trees, opened: models. -/
import Derived.Test.YthpekiohalejmaaGreatDoorTreeO
import Derived.Test.YthpekiohalejmaaGreatDoorTreeN
set_option linter.unusedVariables false
set_option linter.unusedSimpArgs false
set_option maxRecDepth 100000
set_option maxHeartbeats 4000000
namespace Go.Proofs.YthpekiohalejmaaGreatDoor
open Go Go.Vc Go.Tree Go.ChangeShapes Go.WideShapes Go.ChangeAt Go.RowKit
section
variable {H : Type} {enc : TypeId × Value → H} {w : World}
theorem ens_each : ∀ fuel cs (y : DataW H × List MemPlace), DataW.trod enc Tryz.prog w 0 (fun _ => true) true fuel 48 cs = some y → cs.length = 4 → ∃ x : En, cs = enV x ∧ EnOk w x ∧ enK x ≤ Rows.uptoBulk y.1 := by
  intro fuel cs y h hl
  match cs, hl with
  | [c0, c1, c2, c3], _ =>
    obtain ⟨xs, n, rfl, rfl, _, hxl, hf⟩ := DataW.trod_struct Tryz.underlying48 h
    match xs, hxl with
    | [y0, y1, y2, y3], _ =>
      have h0 : DataW.trod enc Tryz.prog w 0 (fun _ => true) true n 9 [c0] = some y0 := hf 0 _ rfl
      obtain ⟨s0, e0, rfl, _⟩ := DataW.trod_string Tryz.underlying9 h0
      have h1 : DataW.trod enc Tryz.prog w 0 (fun _ => true) true n 46 [c1] = some y1 := hf 1 _ rfl
      obtain ⟨a1, m1, k1, A1, e1, q1, rfl, r1, o1, b1⟩ := row_trodB (sz := 1) (fun s : ByteArray => [Value.string s]) (fun _ => True) (fun s => s.size + 1) Tryz.underlying46 (by decide +kernel) (by decide) (fun _ => rfl) (fun n' cs' y' _ ht _ => by
        obtain ⟨z, rfl, rfl, _⟩ := DataW.trod_string Tryz.underlying9 ht
        exact ⟨z, rfl, trivial, Nat.le_refl _⟩) h1
      have h2 : DataW.trod enc Tryz.prog w 0 (fun _ => true) true n 3 [c2] = some y2 := hf 2 _ rfl
      obtain ⟨s2, e2, rfl, _⟩ := DataW.trod_int Tryz.underlying3 h2
      have h3 : DataW.trod enc Tryz.prog w 0 (fun _ => true) true n 3 [c3] = some y3 := hf 3 _ rfl
      obtain ⟨s3, e3, rfl, _⟩ := DataW.trod_int Tryz.underlying3 h3
      simp only [exV, List.cons.injEq, and_true] at e0 e1 e2 e3
      subst e0 e1 e2 e3
      refine ⟨⟨s0, a1, k1, s2, s3, A1⟩, rfl, ⟨by rw [List.map_eq_flatMap]; exact r1, q1⟩, ?_⟩
      unfold enK
      show _ ≤ Rows.uptoBulkAll [_, _, _, _] + 1
      simp only [Rows.uptoBulkAll, Rows.uptoBulk]
      have zs0 : s0.data.toList.length = s0.size := rfl
      omega
theorem des_each : ∀ fuel cs (y : DataW H × List MemPlace), DataW.trod enc Tryz.prog w 0 (fun _ => true) true fuel 55 cs = some y → cs.length = 7 → ∃ x : De, cs = deV x ∧ DeOk w x ∧ deK x ≤ Rows.uptoBulk y.1 := by
  intro fuel cs y h hl
  match cs, hl with
  | [c0, c1, c2, c3, c4, c5, c6], _ =>
    obtain ⟨xs, n, rfl, rfl, _, hxl, hf⟩ := DataW.trod_struct Tryz.underlying55 h
    match xs, hxl with
    | [y0, y1, y2, y3, y4, y5, y6], _ =>
      have h0 : DataW.trod enc Tryz.prog w 0 (fun _ => true) true n 9 [c0] = some y0 := hf 0 _ rfl
      obtain ⟨s0, e0, rfl, _⟩ := DataW.trod_string Tryz.underlying9 h0
      have h1 : DataW.trod enc Tryz.prog w 0 (fun _ => true) true n 9 [c1] = some y1 := hf 1 _ rfl
      obtain ⟨s1, e1, rfl, _⟩ := DataW.trod_string Tryz.underlying9 h1
      have h2 : DataW.trod enc Tryz.prog w 0 (fun _ => true) true n 2 [c2] = some y2 := hf 2 _ rfl
      obtain ⟨s2, e2, rfl, _⟩ := DataW.trod_int Tryz.underlying2 h2
      have h3 : DataW.trod enc Tryz.prog w 0 (fun _ => true) true n 2 [c3] = some y3 := hf 3 _ rfl
      obtain ⟨s3, e3, rfl, _⟩ := DataW.trod_int Tryz.underlying2 h3
      have h4 : DataW.trod enc Tryz.prog w 0 (fun _ => true) true n 34 [c4] = some y4 := hf 4 _ rfl
      obtain ⟨a4, m4, k4, A4, e4, q4, rfl, r4, o4, b4⟩ := row_trodB (sz := 6) exV (TOk w) bulk Tryz.underlying34 (by decide +kernel) (by decide) exV_len (fun n' cs' y' _ ht hl' => exprs_each n' cs' y' ht hl') h4
      have h5 : DataW.trod enc Tryz.prog w 0 (fun _ => true) true n 3 [c5] = some y5 := hf 5 _ rfl
      obtain ⟨s5, e5, rfl, _⟩ := DataW.trod_int Tryz.underlying3 h5
      have h6 : DataW.trod enc Tryz.prog w 0 (fun _ => true) true n 3 [c6] = some y6 := hf 6 _ rfl
      obtain ⟨s6, e6, rfl, _⟩ := DataW.trod_int Tryz.underlying3 h6
      simp only [exV, List.cons.injEq, and_true] at e0 e1 e2 e3 e4 e5 e6
      subst e0 e1 e2 e3 e4 e5 e6
      refine ⟨⟨s0, s1, s2, s3, a4, k4, s5, s6, A4⟩, rfl, ⟨r4, o4⟩, ?_⟩
      unfold deK
      show _ ≤ Rows.uptoBulkAll [_, _, _, _, _, _, _] + 1
      simp only [Rows.uptoBulkAll, Rows.uptoBulk]
      have zs0 : s0.data.toList.length = s0.size := rfl
      have zs1 : s1.data.toList.length = s1.size := rfl
      omega
theorem ass_each : ∀ fuel cs (y : DataW H × List MemPlace), DataW.trod enc Tryz.prog w 0 (fun _ => true) true fuel 78 cs = some y → cs.length = 9 → ∃ x : As, cs = asV x ∧ TOk w x.to ∧ asK x ≤ Rows.uptoBulk y.1 := by
  intro fuel cs y h hl
  match cs, hl with
  | [c0, c1, c2, c3, c4, c5, c6, c7, c8], _ =>
    obtain ⟨xs, n, rfl, rfl, _, hxl, hf⟩ := DataW.trod_struct Tryz.underlying78 h
    match xs, hxl with
    | [y0, y1, y2, y3], _ =>
      have h0 : DataW.trod enc Tryz.prog w 0 (fun _ => true) true n 9 [c0] = some y0 := hf 0 _ rfl
      obtain ⟨s0, e0, rfl, _⟩ := DataW.trod_string Tryz.underlying9 h0
      have h1 : DataW.trod enc Tryz.prog w 0 (fun _ => true) true n 36 [c1, c2, c3, c4, c5, c6] = some y1 := hf 1 _ rfl
      obtain ⟨s1, e1, o1, b1⟩ := exprs_each _ _ _ h1 rfl
      have h2 : DataW.trod enc Tryz.prog w 0 (fun _ => true) true n 3 [c7] = some y2 := hf 2 _ rfl
      obtain ⟨s2, e2, rfl, _⟩ := DataW.trod_int Tryz.underlying3 h2
      have h3 : DataW.trod enc Tryz.prog w 0 (fun _ => true) true n 3 [c8] = some y3 := hf 3 _ rfl
      obtain ⟨s3, e3, rfl, _⟩ := DataW.trod_int Tryz.underlying3 h3
      simp only [exV, List.cons.injEq, and_true] at e0 e1 e2 e3
      obtain ⟨f1, f2, f3, f4, f5, f6⟩ := e1
      subst e0 f1 f2 f3 f4 f5 f6 e2 e3
      refine ⟨⟨s0, s1, s2, s3⟩, rfl, o1, ?_⟩
      unfold asK
      show _ ≤ Rows.uptoBulkAll [_, _, _, _] + 1
      simp only [Rows.uptoBulkAll, Rows.uptoBulk]
      have zs0 : s0.data.toList.length = s0.size := rfl
      omega
theorem rus_each : ∀ fuel cs (y : DataW H × List MemPlace), DataW.trod enc Tryz.prog w 0 (fun _ => true) true fuel 62 cs = some y → cs.length = 7 → ∃ x : Ru, cs = ruV x ∧ RuOk w x ∧ ruK x ≤ Rows.uptoBulk y.1 := by
  intro fuel cs y h hl
  match cs, hl with
  | [c0, c1, c2, c3, c4, c5, c6], _ =>
    obtain ⟨xs, n, rfl, rfl, _, hxl, hf⟩ := DataW.trod_struct Tryz.underlying62 h
    match xs, hxl with
    | [y0, y1], _ =>
      have h0 : DataW.trod enc Tryz.prog w 0 (fun _ => true) true n 36 [c0, c1, c2, c3, c4, c5] = some y0 := hf 0 _ rfl
      obtain ⟨s0, e0, o0, b0⟩ := exprs_each _ _ _ h0 rfl
      have h1 : DataW.trod enc Tryz.prog w 0 (fun _ => true) true n 60 [c6] = some y1 := hf 1 _ rfl
      obtain ⟨a1, m1, k1, A1, e1, q1, rfl, r1, o1, b1⟩ := row_trodB (sz := 9) asV (fun a => TOk w a.to) asK Tryz.underlying60 (by decide +kernel) (by decide) asV_len (fun n' cs' y' _ ht hl' => ass_each n' cs' y' ht hl') h1
      simp only [exV, List.cons.injEq, and_true] at e0 e1
      obtain ⟨f1, f2, f3, f4, f5, f6⟩ := e0
      subst f1 f2 f3 f4 f5 f6 e1
      refine ⟨⟨s0, a1, k1, A1⟩, rfl, ⟨o0, r1, o1⟩, ?_⟩
      unfold ruK
      show _ ≤ Rows.uptoBulkAll [_, _] + 1
      simp only [Rows.uptoBulkAll, Rows.uptoBulk]
      omega
theorem prs_each : ∀ fuel cs (y : DataW H × List MemPlace), DataW.trod enc Tryz.prog w 0 (fun _ => true) true fuel 59 cs = some y → cs.length = 4 → ∃ x : Pr, cs = prV x ∧ PrOk w x ∧ prK x ≤ Rows.uptoBulk y.1 := by
  intro fuel cs y h hl
  match cs, hl with
  | [c0, c1, c2, c3], _ =>
    obtain ⟨xs, n, rfl, rfl, _, hxl, hf⟩ := DataW.trod_struct Tryz.underlying59 h
    match xs, hxl with
    | [y0, y1, y2, y3], _ =>
      have h0 : DataW.trod enc Tryz.prog w 0 (fun _ => true) true n 9 [c0] = some y0 := hf 0 _ rfl
      obtain ⟨s0, e0, rfl, _⟩ := DataW.trod_string Tryz.underlying9 h0
      have h1 : DataW.trod enc Tryz.prog w 0 (fun _ => true) true n 57 [c1] = some y1 := hf 1 _ rfl
      obtain ⟨a1, m1, k1, A1, e1, q1, rfl, r1, o1, b1⟩ := row_trodB (sz := 7) ruV (RuOk w) ruK Tryz.underlying57 (by decide +kernel) (by decide) ruV_len (fun n' cs' y' _ ht hl' => rus_each n' cs' y' ht hl') h1
      have h2 : DataW.trod enc Tryz.prog w 0 (fun _ => true) true n 3 [c2] = some y2 := hf 2 _ rfl
      obtain ⟨s2, e2, rfl, _⟩ := DataW.trod_int Tryz.underlying3 h2
      have h3 : DataW.trod enc Tryz.prog w 0 (fun _ => true) true n 3 [c3] = some y3 := hf 3 _ rfl
      obtain ⟨s3, e3, rfl, _⟩ := DataW.trod_int Tryz.underlying3 h3
      simp only [exV, List.cons.injEq, and_true] at e0 e1 e2 e3
      subst e0 e1 e2 e3
      refine ⟨⟨s0, a1, k1, s2, s3, A1⟩, rfl, ⟨r1, o1⟩, ?_⟩
      unfold prK
      show _ ≤ Rows.uptoBulkAll [_, _, _, _] + 1
      simp only [Rows.uptoBulkAll, Rows.uptoBulk]
      have zs0 : s0.data.toList.length = s0.size := rfl
      omega
theorem open_source {r : Reach} {b0 : Nat} {v : Value} {d : DataW H} {ps : List MemPlace} (hv : Value.okWide Tryz.prog w r b0 26 v) (hd : DataW.Trod enc Tryz.prog w 0 (fun _ => true) true 26 v d ps) :
    ∃ x : So, v = soA x ∧ SoOk w x ∧ soK x ≤ Rows.uptoBulk d := by
  simp only [Value.okWide, Tryz.underlying26] at hv
  obtain ⟨⟨cs⟩, rfl, hl, _⟩ := hv
  obtain ⟨fuel, hd⟩ := hd
  have hl2 : cs.length = 3 := hl.trans (by decide +kernel)
  match cs, hl2 with
  | [c0, c1, c2], _ =>
    obtain ⟨xs, n, rfl, hdd, _, hxl, hf⟩ := DataW.trod_struct Tryz.underlying26 (show DataW.trod enc Tryz.prog w 0 (fun _ => true) true fuel 26 [c0, c1, c2] = some (d, ps) from hd)
    match xs, hxl with
    | [y0, y1, y2], _ =>
      have h0 : DataW.trod enc Tryz.prog w 0 (fun _ => true) true n 22 [c0] = some y0 := hf 0 _ rfl
      have h1 : DataW.trod enc Tryz.prog w 0 (fun _ => true) true n 23 [c1] = some y1 := hf 1 _ rfl
      have h2 : DataW.trod enc Tryz.prog w 0 (fun _ => true) true n 24 [c2] = some y2 := hf 2 _ rfl
      obtain ⟨a0, m0, k0, A0, e0, q0, rfl, r0, o0, b0⟩ := row_trodB (sz := 4) enV (EnOk w) enK Tryz.underlying22 (by decide +kernel) (by decide) enV_len (fun n' cs' y' _ ht hl' => ens_each n' cs' y' ht hl') h0
      obtain ⟨a1, m1, k1, A1, e1, q1, rfl, r1, o1, b1⟩ := row_trodB (sz := 7) deV (DeOk w) deK Tryz.underlying23 (by decide +kernel) (by decide) deV_len (fun n' cs' y' _ ht hl' => des_each n' cs' y' ht hl') h1
      obtain ⟨a2, m2, k2, A2, e2, q2, rfl, r2, o2, b2⟩ := row_trodB (sz := 4) prV (PrOk w) prK Tryz.underlying24 (by decide +kernel) (by decide) prV_len (fun n' cs' y' _ ht hl' => prs_each n' cs' y' ht hl') h2
      simp only [List.cons.injEq, and_true] at e0 e1 e2
      subst e0 e1 e2
      simp only [Prod.mk.injEq] at hdd
      obtain ⟨rfl, _⟩ := hdd
      refine ⟨⟨a0, k0, a1, k1, a2, k2, A0, A1, A2⟩, rfl, ⟨r0, r1, r2, o0, o1, o2⟩, ?_⟩
      unfold soK
      show _ ≤ Rows.uptoBulkAll [_, _, _] + 1
      simp only [Rows.uptoBulkAll]
      show 4 + (A0.map enK).sum + (A1.map deK).sum + (A2.map prK).sum ≤ _
      omega
end
end Go.Proofs.YthpekiohalejmaaGreatDoor
