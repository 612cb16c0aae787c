/- Appends within a slice: over what lies behind its end. -/
import Derived.Test.YtcibiidebknkgaaGreatOff
set_option linter.unusedVariables false
set_option linter.unusedSimpArgs false
namespace Go.Vc
open Go
theorem setCells_kit (b o : Nat) : ∀ (vs : List Value) (k : Nat) (w : World), w.setCells b (o + k) vs = setCells w ⟨b, o, none⟩ vs k
  | [], _, _ => rfl
  | v :: r, k, w => by
    show (w.setCell ⟨b, o + k, none⟩ v).setCells b (o + k + 1) r = setCells (w.setCell ((⟨b, o, none⟩ : Addr).add k) v) ⟨b, o, none⟩ r (k + 1)
    rw [add_mk, Nat.add_assoc, setCells_kit b o r (k + 1)]
section
variable {w0 w : World} {l : List Res}
theorem append_over {P : Program} {T : Tab} (hT : TabOk P T) {t el ty b : Nat} {n cap k m : Nat} {xs ys : List Value} (h : Sep w0 w l) (hd : T.d t = some (.slice el)) (hs : T.s el = some 1) {B : Nat} (hb : T.b el = some B)
    (hm : ownR (some ⟨b, 0, none⟩) n cap el 1 xs ∈ l) {p : Addr} {mc : Nat} (hsrc : Src w (some p) m 1 ys) (h1 : ∀ u ∈ ys, oneCell u = true) (hk : k + m ≤ n) {cb : Array Bool} {K : Value → World → Prop}
    (hK : ∀ w', SepU w0 w' l (ownR (some ⟨b, 0, none⟩) n cap el 1 xs) (ownR (some ⟨b, 0, none⟩) n cap el 1 (xs.take k ++ ys ++ xs.drop (k + m))) → K (.slice (some ⟨b, 0, none⟩) (k + m) cap) w') :
    DoN P (builtin .append #[t, t] ty cb #[.slice (some ⟨b, 0, none⟩) k cap, .slice (some p) m mc]) w K := by
  obtain ⟨i, hi, hib⟩ := hT.info hb
  have his := info_size hT hi hs
  have ht := hT.d _ (find_mem hd)
  simp only at ht
  have key : (∃ v w', (Builtin.append_ #[t, t] ty #[.slice (some ⟨b, 0, none⟩) k cap, .slice (some p) m mc]).run P w = .ok v w' ∧ K v w') → DoN P (builtin .append #[t, t] ty cb #[.slice (some ⟨b, 0, none⟩) k cap, .slice (some p) m mc]) w K := by
    rintro ⟨v, w', hr, hK⟩
    refine ⟨.inl ⟨v, w', ?_, hK⟩⟩
    simp only [builtin, Sem.run_bind, hr, Result.andThen_ok, Sem.run_pure]
  apply key
  obtain ⟨S1, g1, g2, g3⟩ := h.at hm
  obtain ⟨hxl, hnc, hcm, hcase⟩ := g1.2
  rcases hcase with ⟨he, _⟩ | ⟨b', rest, he, hat, hrl⟩
  · cases he
  · cases he
    rw [Nat.mul_one] at hxl hrl
    have hyl0 := hsrc.1
    rw [Nat.mul_one] at hyl0
    have hyl : ys.length = m * i.size := by rw [his, Nat.mul_one]; exact hyl0
    have h1' : ∀ u ∈ ys, u.oneCell' = true := fun u hu => by rw [← oneCell_eq]; exact h1 u hu
    have hr := run_append_room_cells (P := P) (w := w) t ty el i ht hi b 0 k cap p m mc ys hyl (fun j u hj => hsrc.cell hj) h1' (by omega)
      (fun j hj => by
        rw [his, hat.cell, Nat.mul_one, Nat.zero_add, List.getElem?_eq_getElem (by rw [List.length_append]; omega)]; rfl)
      (fun j hj => by
        unfold World.frozen?
        rw [hat.out]
        simp)
    obtain ⟨a1, a2, a3⟩ := setCells_at (vs := ys) (o := 0 + k * i.size) (k := 0) hat (by rw [his, List.length_append]; omega)
    have e : (xs ++ rest).take (0 + k * i.size + 0) ++ ys ++ (xs ++ rest).drop (0 + k * i.size + 0 + ys.length) = (xs.take k ++ ys ++ xs.drop (k + m)) ++ rest := by
      rw [his, Nat.mul_one, Nat.zero_add, Nat.add_zero, List.take_append_of_le_length (by omega), List.drop_append_of_le_length (by omega), hyl0]
      simp only [List.append_assoc]
    rw [e] at a1
    rw [← setCells_kit, Nat.add_zero] at a1 a2
    have hxl2 : (xs.take k ++ ys ++ xs.drop (k + m)).length = n := by simp only [List.length_append, List.length_take, List.length_drop]; omega
    refine ⟨_, _, hr, hK _ (g3 _ (ownR (some ⟨b, 0, none⟩) n cap el 1 (xs.take k ++ ys ++ xs.drop (k + m))) S1 (a2.mono fun x _ hx => g1.1 x (by rw [hx]; rfl)) ⟨g1.1, by rw [Nat.mul_one]; exact hxl2, hnc, hcm, .inr ⟨b, rest, rfl, a1, ?_⟩⟩ fun x hx => .inl hx)⟩
    rw [Nat.mul_one, List.length_append, hxl2]
    rw [List.length_append] at hrl
    omega
end
end Go.Vc
