/- The functions of package trail, told of a part of memory. -/
import Derived.Test.YtcibiidebknkgaaGreatTrailW
import Derived.Test.YtcibiidebknkgaaGreatSep
namespace Go.Proofs.YtcibiidebknkgaaGreat
open Go Go.Vc Go.Trail
set_option linter.unusedVariables false
set_option linter.unusedSimpArgs false

theorem Own.mine {w : World} {b n D : Nat} {E : List Ent} {bm cm : Nat} {al : Option Addr} {cl : Nat} {av : Option Addr} {cv : Nat} (h : Raw w b n D E bm cm al cl av cv) : ∀ x, Mine b bm al av x → x < w.heap.size := by
  rintro x (rfl | rfl | hx | hx)
  · exact h.here.lt
  · exact h.marks.lt rfl
  · exact h.list.lt hx
  · exact h.levels.lt hx

/-- A trail as a part of memory. -/
def trailR (b n D : Nat) (E : List Ent) : Res where
  is w S := TrailAt w S b n D E
  lt := by
    rintro w S ⟨bm, cm, al, cl, av, cv, h, hs⟩
    exact ⟨bm, cm, al, cl, av, cv, h, fun x hx => ⟨hs x hx, Own.mine h x hx⟩⟩
  fr h hf hd := h.fr hf hd
  mono := by
    rintro w S S' ⟨bm, cm, al, cl, av, cv, h, hs⟩ hm
    exact ⟨bm, cm, al, cl, av, cv, h, fun x hx => hm x (hs x hx)⟩

section
variable {w0 w : World} {l : List Res} {b n D : Nat} {E : List Ent}

theorem Sep.trail (H : Sep w0 w l) (hm : trailR b n D E ∈ l) : ∃ bm cm al cl av cv, Raw w b n D E bm cm al cl av cv := by
  obtain ⟨S, bm, cm, al, cl, av, cv, h, _⟩ := H.inst hm
  exact ⟨bm, cm, al, cl, av, cv, h⟩
theorem Sep.trailInv (H : Sep w0 w l) (hm : trailR b n D E ∈ l) : Inv n D E := by
  obtain ⟨bm, cm, al, cl, av, cv, h⟩ := Sep.trail H hm
  exact h.inv

theorem sTrailVars (H : Sep w0 w l) (hm : trailR b n D E ∈ l) : Does Tryz.prog 37 #[.pointer (some ⟨b, 0, none⟩)] w fun v w' => v = .int .i64 n ∧ w = w' := by
  obtain ⟨bm, cm, al, cl, av, cv, h⟩ := Sep.trail H hm
  exact trailVars h
theorem sTrailDepth (H : Sep w0 w l) (hm : trailR b n D E ∈ l) : Does Tryz.prog 52 #[.pointer (some ⟨b, 0, none⟩)] w fun v w' => v = .int .i64 D ∧ w = w' := by
  obtain ⟨bm, cm, al, cl, av, cv, h⟩ := Sep.trail H hm
  exact trailDepth h
theorem sTrailLen (H : Sep w0 w l) (hm : trailR b n D E ∈ l) : Does Tryz.prog 74 #[.pointer (some ⟨b, 0, none⟩)] w fun v w' => v = .int .i64 E.length ∧ w = w' := by
  obtain ⟨bm, cm, al, cl, av, cv, h⟩ := Sep.trail H hm
  exact trailLen h
theorem sTrailValue (H : Sep w0 w l) (hm : trailR b n D E ∈ l) {x : Int} : Does Tryz.prog 83 #[.pointer (some ⟨b, 0, none⟩), .int .i32 x] w fun v w' => v = .int .i64 (value E x) ∧ w = w' := by
  obtain ⟨bm, cm, al, cl, av, cv, h⟩ := Sep.trail H hm
  exact trailValue x h
theorem sTrailLevel (H : Sep w0 w l) (hm : trailR b n D E ∈ l) {x : Int} : Does Tryz.prog 59 #[.pointer (some ⟨b, 0, none⟩), .int .i64 x] w fun v w' => v = .int .i64 (knownOf E x).2.1 ∧ Sep w0 w' l := by
  obtain ⟨bm, cm, al, cl, av, cv, h⟩ := Sep.trail H hm
  exact (trailLevel x h).mono fun v w' ⟨hv, f⟩ => ⟨hv, H.fr f⟩
theorem sTrailReason (H : Sep w0 w l) (hm : trailR b n D E ∈ l) {x : Int} : Does Tryz.prog 86 #[.pointer (some ⟨b, 0, none⟩), .int .i64 x] w fun v w' => v = .int .i64 (knownOf E x).2.2 ∧ Sep w0 w' l := by
  obtain ⟨bm, cm, al, cl, av, cv, h⟩ := Sep.trail H hm
  exact (trailReason x h).mono fun v w' ⟨hv, f⟩ => ⟨hv, H.fr f⟩
/-- The i-th literal that is true. -/
def litAt (E : List Ent) (i : Int) : Int := if 0 ≤ i then ((E[i.toNat]?).map Ent.lit).getD 0 else 0
theorem sTrailAt (H : Sep w0 w l) (hm : trailR b n D E ∈ l) {x : Int} : Does Tryz.prog 76 #[.pointer (some ⟨b, 0, none⟩), .int .i64 x] w fun v w' => v = .int .i32 (litAt E x) ∧ w = w' := by
  obtain ⟨bm, cm, al, cl, av, cv, h⟩ := Sep.trail H hm
  exact trailAt x h

theorem Sep.after {w' : World} {R : Res} {n' D' : Nat} {E' : List Ent} {S : Nat → Prop} (h3 : ∀ (w' : World) (R' : Res) (S1' : Nat → Prop), Fr S w w' → R'.is w' S1' → (∀ x, S1' x → S x ∨ w.heap.size ≤ x) → SepU w0 w' l R R')
    {S0 : Nat → Prop} (hs : ∀ x, S0 x → S x) (ha : After w S0 w' b n' D' E') : SepU w0 w' l R (trailR b n' D' E') := by
  obtain ⟨S', t, f, k⟩ := ha
  exact h3 w' (trailR b n' D' E') S' (f.mono fun x _ hx => hs x hx) t fun x hx => (k x hx).imp (hs x) id

theorem sTrailGrow (H : Sep w0 w l) (hm : trailR b n D E ∈ l) (hn : n < 262144) : Does Tryz.prog 62 #[.pointer (some ⟨b, 0, none⟩)] w fun v w' => v = .int .i64 ((n + 1 : Nat) : Int) ∧ SepU w0 w' l (trailR b n D E) (trailR b (n + 1) D E) := by
  obtain ⟨S, ⟨bm, cm, al, cl, av, cv, h, hs⟩, _, h3⟩ := H.at hm
  refine (trailGrow h).mono ?_
  rintro v w' (⟨k, _, _⟩ | ⟨_, rfl, ha⟩)
  · omega
  · exact ⟨rfl, Sep.after h3 hs ha⟩

/-- What setting a literal leaves. -/
def setE (n D : Nat) (E : List Ent) (x r : Int) : List Ent := if freeNo n E x = 0 then E ++ [⟨x, D, r⟩] else E

theorem sTrailSet (H : Sep w0 w l) (hm : trailR b n D E ∈ l) {x r : Int} : Does Tryz.prog 96 #[.pointer (some ⟨b, 0, none⟩), .int .i32 x, .int .i64 r] w fun v w' => v = .int .i64 (freeNo n E x) ∧ SepU w0 w' l (trailR b n D E) (trailR b n D (setE n D E x r)) := by
  obtain ⟨S, ⟨bm, cm, al, cl, av, cv, h, hs⟩, _, h3⟩ := H.at hm
  refine (trailSet x r h).mono ?_
  unfold setE
  rintro v w' (⟨k, rfl, rfl⟩ | ⟨k, rfl, ha⟩)
  · exact ⟨rfl, by rw [if_neg k]; exact H.same⟩
  · exact ⟨by rw [k], by rw [if_pos k]; exact Sep.after h3 hs ha⟩

theorem sTrailDecide (H : Sep w0 w l) (hm : trailR b n D E ∈ l) {x : Int} (hD : D ≤ 1000000) : Does Tryz.prog 87 #[.pointer (some ⟨b, 0, none⟩), .int .i32 x] w fun v w' => v = .int .i64 (freeNo n E x) ∧
    SepU w0 w' l (trailR b n D E) (trailR b n (if freeNo n E x = 0 then D + 1 else D) (setE n (D + 1) E x (-1))) := by
  obtain ⟨S, ⟨bm, cm, al, cl, av, cv, h, hs⟩, _, h3⟩ := H.at hm
  refine (trailDecide x h hD).mono ?_
  unfold setE
  rintro v w' (⟨k, rfl, rfl⟩ | ⟨k, rfl, ha⟩)
  · exact ⟨rfl, by rw [if_neg k, if_neg k]; exact H.same⟩
  · exact ⟨by rw [k], by rw [if_pos k, if_pos k]; exact Sep.after h3 hs ha⟩

theorem sTrailNew (H : Sep w0 w l) (m : Int) : Does Tryz.prog 36 #[.int .i64 m] w fun v w' => ∃ b, v = .pointer (some ⟨b, 0, none⟩) ∧ Sep w0 w' (trailR b (max 0 (min m 262144)).toNat 0 [] :: l) := by
  refine (trailNew m w).mono ?_
  rintro v w' ⟨b, S, rfl, t, f, hs⟩
  exact ⟨b, rfl, H.cons (R := trailR b (max 0 (min m 262144)).toNat 0 []) f t hs⟩

/-- Up to which level one goes back. -/
def backOk (D : Nat) (k : Int) : Bool := decide (0 ≤ k) && decide (k ≤ D)
def backD (D : Nat) (k : Int) : Nat := if backOk D k = true then k.toNat else D
/-- What isn't true any more, the last first. -/
def goneE (D : Nat) (E : List Ent) (k : Int) : List Ent := if backOk D k = true then (E.drop (cnt E k.toNat)).reverse else []

theorem upto_all (h : Inv n D E) : upto E D = E := by
  unfold upto
  rw [List.filter_eq_self]
  intro x hx
  simpa using (h.ok x hx).2.2

theorem sTrailBack (H : Sep w0 w l) (hm : trailR b n D E ∈ l) {k : Int} : Does Tryz.prog 91 #[.pointer (some ⟨b, 0, none⟩), .int .i64 k] w fun v w' =>
    ∃ a c, v = .tuple #[.slice a (goneE D E k).length c, .int .i64 (if backOk D k = true then 0 else 41)] ∧
      ∀ l', Upd (trailR b n D E) (trailR b n (backD D k) (upto E (backD D k))) l l' → Sep w0 w' (ownR a (goneE D E k).length c 29 1 (litsV (goneE D E k)) :: l') := by
  have hinv := Sep.trailInv H hm
  obtain ⟨S, ⟨bm, cm, al, cl, av, cv, h, hs⟩, _, h3⟩ := H.at hm
  refine (trailBack k h).mono ?_
  rintro v w' (⟨k1, rfl, rfl⟩ | ⟨rfl, rfl, rfl⟩ | ⟨k1, k2, a, c, rfl, ho, ha, S', t, f, hs'⟩)
  · have hb : backOk D k = false := by unfold backOk; simp; omega
    unfold goneE backD
    simp only [hb, Bool.false_eq_true, if_false]
    rw [upto_all hinv]
    exact ⟨none, 0, rfl, fun l' hu => Own.nilR (H.same l' hu) _ _⟩
  · have hb : backOk D (D : Int) = true := by unfold backOk; simp
    unfold goneE backD
    simp only [hb, if_true, Int.toNat_natCast]
    rw [upto_all hinv, cnt_all hinv, List.drop_length]
    exact ⟨none, 0, rfl, fun l' hu => Own.nilR (H.same l' hu) _ _⟩
  · have hb : backOk D k = true := by unfold backOk; simp; omega
    unfold goneE backD
    simp only [hb, if_true]
    have el : (E.drop (cnt E k.toNat)).reverse.length = E.length - cnt E k.toNat := by simp
    have eL : litsV (E.drop (cnt E k.toNat)).reverse = (litsV (E.drop (cnt E k.toNat))).reverse := by simp [litsV]
    rw [el, eL]
    refine ⟨a, c, rfl, ?_⟩
    have h1 : SepU w0 w' l (trailR b n D E) (sepR [ownR a (E.length - cnt E k.toNat) c 29 1 (litsV (E.drop (cnt E k.toNat))).reverse, trailR b n k.toNat (upto E k.toNat)]) := by
      refine h3 w' _ (fun x => Mine b bm al av x ∨ w.heap.size ≤ x) (f.mono fun x _ hx => hs x hx) ?_ fun x hx => hx.imp (hs x) id
      refine ⟨Blk a, fun x hx => .inr (ha x hx), ⟨fun x hx => hx, ho⟩, S', fun x hx => ⟨.inl (hs' x hx), fun hb => ?_⟩, t, trivial⟩
      have h1 := ha x hb
      have := Own.mine h x (hs' x hx)
      omega
    intro l' hu
    obtain ⟨l'', r, h0, hp, hp'⟩ := hu.other (sepR [ownR a (E.length - cnt E k.toNat) c 29 1 (litsV (E.drop (cnt E k.toNat))).reverse, trailR b n k.toNat (upto E k.toNat)])
    exact ((h1 _ h0).perm hp).flat.perm (List.Perm.cons _ hp'.symm)
end
end Go.Proofs.YtcibiidebknkgaaGreat
