/- Plain: engines by their clauses and what was decided. -/
import Derived.Test.YtcibiidebknkgaaGreatWatchE
set_option linter.unusedVariables false
set_option linter.unusedSimpArgs false
namespace Go.Watch
open Go.Trail
/-- The clauses that count. -/
def GamL (L : List (List Int)) (c : List Int) : Prop := ∃ k ∈ L, Lit.bothB k = false ∧ ∀ x, x ∈ c ↔ x ∈ k
/-- Can a clause be added? -/
def fitB (n : Nat) (c : List Int) : Bool := c.all fun x => Lit.one x && decide (var x ≤ n)
theorem fitB_iff {n : Nat} {c : List Int} : fitB n c = true ↔ ∀ x ∈ c, Lit.one x = true ∧ var x ≤ n := by simp [fitB]
theorem fitB_no {n : Nat} {c : List Int} (h : fitB n c = false) : c.all Lit.one = false ∨ ∃ x ∈ c, n < var x := by
  unfold fitB at h
  rw [List.all_eq_false] at h
  obtain ⟨x, hx, h2⟩ := h
  cases h1 : Lit.one x with
  | false => exact .inl (List.all_eq_false.2 ⟨x, hx, by rw [h1]; exact Bool.false_ne_true⟩)
  | true => rw [h1] at h2; simp at h2; exact .inr ⟨x, hx, h2⟩
/-- An engine of n variables, to which L was added, where Δ was decided. -/
structure Has (S : Nat → Prop) (s : St) (n : Nat) (L : List (List Int)) (Δ : Int → Prop) (m : Nat) : Prop where
  good : Good S s
  n : s.n = n
  gam : ∀ c, Gam s c ↔ GamL L c
  dec : ∀ x, Dec s x ↔ Δ x
  len : s.C.length = L.length
  few : s.F.length + s.Y.length ≤ m

section
variable {S : Nat → Prop} {s s' : St} {n m : Nat} {L : List (List Int)} {Δ : Int → Prop}
theorem Has.new {n : Nat} (hn : n ≤ 262144) {S : Nat → Prop} (h0 : S 0) : Has S (st0 n) n [] (fun _ => False) 0 := by
  refine ⟨Good.new hn h0, rfl, fun c => ?_, fun x => ?_, rfl, Nat.le_refl _⟩
  · constructor
    · rintro ⟨k, hk, _⟩; cases hk
    · rintro ⟨k, hk, _⟩; cases hk
  · constructor
    · rintro ⟨e, he, _⟩; cases he
    · exact False.elim
theorem Has.add (h : Has S s n L Δ m) {xs out : List Int} (hf : fitB n xs = true) (hcl : Lit.Clean xs out) : Has S (addP s (leadP s.E out) (Lit.bothB xs)) n (L ++ [xs]) Δ (m + 1) := by
  have hfit := fitB_iff.1 hf
  obtain ⟨hp, hlead⟩ := lead_ok s.E out
  have hmem : ∀ x, x ∈ leadP s.E out ↔ x ∈ xs := fun x => (hp.mem_iff).trans (hcl.mem x)
  have hnd : (leadP s.E out).Nodup := by
    rw [hp.nodup_iff]
    exact hcl.asc.imp fun hab e => by rw [e] at hab; omega
  have hb : Lit.bothB xs = true ↔ ∃ x ∈ leadP s.E out, -x ∈ leadP s.E out := by
    rw [Lit.bothB_iff]
    exact ⟨fun ⟨x, a, b⟩ => ⟨x, (hmem x).2 a, (hmem _).2 b⟩, fun ⟨x, a, b⟩ => ⟨x, (hmem x).1 a, (hmem _).1 b⟩⟩
  have hg := h.good.add (lits := leadP s.E out) (fun x hx => by
    have := hfit x ((hmem x).1 hx)
    exact ⟨by rw [← one_ok]; exact this.1, by rw [h.n]; exact this.2⟩) hnd hb hlead
  generalize leadP s.E out = lits at *
  have hC : (addP s lits (Lit.bothB xs)).C = s.C ++ [⟨lits, true, Lit.bothB xs⟩] := by unfold addP; cases Lit.bothB xs <;> rfl
  have hE : (addP s lits (Lit.bothB xs)).E = s.E := by unfold addP; cases Lit.bothB xs <;> rfl
  refine ⟨hg, ?_, fun c => ?_, fun x => ?_, ?_, ?_⟩
  · unfold addP; cases Lit.bothB xs <;> exact h.n
  · unfold Gam
    rw [hC]
    constructor
    · rintro ⟨k, hk, h1, h2, h3⟩
      rw [List.mem_append, List.mem_singleton] at hk
      rcases hk with hk | rfl
      · obtain ⟨k', a, b⟩ := (h.gam c).1 ⟨k, hk, h1, h2, h3⟩
        exact ⟨k', List.mem_append_left _ a, b⟩
      · exact ⟨xs, by simp, h2, fun x => (h3 x).trans (hmem x)⟩
    · rintro ⟨k, hk, h1, h2⟩
      rw [List.mem_append, List.mem_singleton] at hk
      rcases hk with hk | rfl
      · obtain ⟨k', a, b⟩ := (h.gam c).2 ⟨k, hk, h1, h2⟩
        exact ⟨k', List.mem_append_left _ a, b⟩
      · exact ⟨⟨lits, true, Lit.bothB k⟩, by simp, rfl, h1, fun x => (h2 x).trans (hmem x).symm⟩
  · unfold Dec; rw [hE]; exact h.dec x
  · rw [hC, List.length_append, List.length_append, h.len]; rfl
  · have := h.few
    unfold addP; cases Lit.bothB xs
    · simp; omega
    · simp; omega
theorem Has.weaken (h : Has S s n L Δ m) {S' : Nat → Prop} (hS : ∀ L, S' L → S L) (hD : S' s.D) : Has S' s n L Δ m := { h with good := h.good.weaken hS hD }
theorem Has.decide' (h : Has S s n L Δ m) {x : Int} (hl : okLit x = true) (hn : var x ≤ n) (hv : value s.E x = 0) {S' : Nat → Prop} (hS : ∀ L, S' L → S L ∨ L = s.D + 1) (hS2 : S' (s.D + 1)) (hlate : ∀ e ∈ s.E.drop s.h, ∀ L, S' L → e.lev ≤ L → s.D + 1 ≤ L) :
    Has S' (decide' s x) n L (fun y => Δ y ∨ y = x) m := by
  refine ⟨h.good.decide hl (by rw [h.n]; exact hn) hv hS hS2 hlate, h.n, h.gam, fun y => ?_, h.len, h.few⟩
  show (∃ e ∈ s.E ++ [_], _) ↔ _
  constructor
  · rintro ⟨e, he, h1, h2⟩
    rw [List.mem_append, List.mem_singleton] at he
    rcases he with he | rfl
    · exact .inl ((h.dec y).1 ⟨e, he, h1, h2⟩)
    · exact .inr h2.symm
  · rintro (hy | rfl)
    · obtain ⟨e, he, h1⟩ := (h.dec y).2 hy
      exact ⟨e, List.mem_append_left _ he, h1⟩
    · exact ⟨⟨y, s.D + 1, -1⟩, by simp, rfl, rfl⟩
theorem Has.ext (h : Has S s n L Δ m) (hg : Good S s') (hx : Ext s s') {m' : Nat} (hm : s'.F.length + s'.Y.length ≤ m') : Has S s' n L Δ m' :=
  ⟨hg, hx.n.trans h.n, fun c => (hx.gam c).trans (h.gam c), fun x => (hx.dec x).trans (h.dec x), hx.len.trans h.len, hm⟩

/-- What Propagate answers. -/
inductive Out (L : List (List Int)) (Δ : Int → Prop) (s' : St) : Int → Prop
  | fine : ¬ Conf (GamL L) Δ → (∀ x, tru s'.E x ↔ Fo (GamL L) Δ x) → s'.h = s'.E.length → s'.F = [] → Out L Δ s' (-1)
  | bad (id : Nat) : Conf (GamL L) Δ → Out L Δ s' id
theorem Fo.iff {Γ Γ' : List Int → Prop} {Δ Δ' : Int → Prop} (h1 : ∀ c, Γ c ↔ Γ' c) (h2 : ∀ x, Δ x ↔ Δ' x) (x : Int) : Fo Γ Δ x ↔ Fo Γ' Δ' x :=
  ⟨fun h => h.mono (fun c => (h1 c).1) fun x hx => .dec ((h2 x).1 hx), fun h => h.mono (fun c => (h1 c).2) fun x hx => .dec ((h2 x).2 hx)⟩
theorem Conf.iff {Γ Γ' : List Int → Prop} {Δ Δ' : Int → Prop} (h1 : ∀ c, Γ c ↔ Γ' c) (h2 : ∀ x, Δ x ↔ Δ' x) : Conf Γ Δ ↔ Conf Γ' Δ' :=
  ⟨fun h => h.mono (fun c => (h1 c).1) fun x hx => .dec ((h2 x).1 hx), fun h => h.mono (fun c => (h1 c).2) fun x hx => .dec ((h2 x).2 hx)⟩
theorem Has.fine (h : Has S s n L Δ m) (hF : s.F = []) (hh : s.h = s.E.length) : Out L Δ s (-1) := by
  obtain ⟨h1, h2⟩ := h.good.complete hF hh
  refine .fine (fun hc => h2 ((Conf.iff h.gam h.dec).2 hc)) (fun x => ?_) hh hF
  exact ⟨fun ht => (Fo.iff h.gam h.dec x).1 (h.good.tru_fo ht), fun hf => h1 x ((Fo.iff h.gam h.dec x).2 hf)⟩
theorem Has.bad (h : Has S s n L Δ m) {id : Nat} {c : Cls} (hc : s.C[id]? = some c) (h1 : c.on = true) (h2 : c.idle = false) (h3 : ∀ y ∈ c.lits, tru s.E (-y)) : Out L Δ s id :=
  .bad id ((Conf.iff h.gam h.dec).1 (h.good.conf hc h1 h2 h3))
theorem Out.neg {v : Int} (h : Out L Δ s v) : v < 0 ↔ ¬ Conf (GamL L) Δ := by
  cases h with
  | fine h => exact ⟨fun _ => h, fun _ => by decide⟩
  | bad id h => exact ⟨fun hn => by omega, fun hn => (hn h).elim⟩
theorem Out.closed {v : Int} (h : Out L Δ s v) (hv : v < 0) : (∀ x, tru s.E x ↔ Fo (GamL L) Δ x) ∧ s.h = s.E.length ∧ s.F = [] := by
  cases h with
  | fine _ h2 h3 h4 => exact ⟨h2, h3, h4⟩
  | bad id h => omega
theorem val_same {S S' : Nat → Prop} (h1 : Good S s) (h2 : Good S' s') {x : Int} (hl : okLit x = true) (h : ∀ x, tru s.E x ↔ tru s'.E x) : value s.E x = value s'.E x := by
  rcases val_cases s.E x with hv | hv | hv
  · rw [hv, (h2.val1 hl).2 ((h x).1 ((h1.val1 hl).1 hv))]
  · rcases val_cases s'.E x with hv' | hv' | hv'
    · have := (h1.val1 hl).2 ((h x).2 ((h2.val1 hl).1 hv')); omega
    · rw [hv, hv']
    · have := (h1.valn hl).2 ((h (-x)).2 ((h2.valn hl).1 hv')); omega
  · rw [hv, (h2.valn hl).2 ((h (-x)).1 ((h1.valn hl).1 hv))]
end
end Go.Watch
namespace Go.Proofs.YtcibiidebknkgaaGreat
open Go Go.Vc Go.Watch
open Go.Trail (Ent value find upto okLit litsV)
set_option maxHeartbeats 4000000
set_option maxRecDepth 100000
section
variable {w0 w : World} {l : List Res} {eb : Nat} {s : St} {S : Nat → Prop} {n m : Nat} {L : List (List Int)} {Δ : Int → Prop}

theorem hAdd (H : Sep w0 w (engR eb s :: l)) (h : Has S s n L Δ m) {xs : List Int} {a : Option Addr} {c : Nat} (hs : ∀ {w' : World} {l' : List Res}, Sep w0 w' (l' ++ l) → Src w' a xs.length 1 (xs.map lV)) (hm : xs.length ≤ 35184372087808) (hL : L.length < 1000000) (hmm : m ≤ 100000000) :
    Does Tryz.prog 22 #[.pointer (some ⟨eb, 0, none⟩), .slice a xs.length c] w fun v w' => (fitB n xs = false ∧ v = .tuple #[.int .i64 0, .int .i64 51] ∧ Sep w0 w' (engR eb s :: l)) ∨
      (fitB n xs = true ∧ v = .tuple #[idV L.length, .int .i64 0] ∧ ∃ s', Has S s' n (L ++ [xs]) Δ (m + 1) ∧ s'.E = s.E ∧ s'.D = s.D ∧ s'.h = s.h ∧ (s.Y = [] → s'.Y = []) ∧ Sep w0 w' (engR eb s' :: l)) := by
  have hfew := h.few
  cases hf : fitB n xs with
  | false =>
    refine (eAdd_no H hs hm ?_).mono fun v w' hv => .inl ⟨rfl, hv⟩
    rw [h.n]; exact fitB_no hf
  | true =>
    have hfit := fitB_iff.1 hf
    have hg := h.good
    refine (eAdd H hs hm (fun x hx => (hfit x hx).1) (fun x hx => by rw [h.n]; exact (hfit x hx).2) (by rw [h.len]; omega) (by omega) hg.wl hg.inv.vars (fun x h1 h2 => by have := hg.wat_few h1 h2; rw [h.len] at this; omega)).mono ?_
    rintro v w' ⟨rfl, out, hcl, _, H⟩
    refine .inr ⟨rfl, by rw [h.len], _, h.add hf hcl, ?_, ?_, ?_, ?_, H⟩
    · unfold addP; cases Lit.bothB xs <;> rfl
    · unfold addP; cases Lit.bothB xs <;> rfl
    · unfold addP; cases Lit.bothB xs <;> rfl
    · intro hy; unfold addP; cases Lit.bothB xs <;> exact hy

theorem hProp (H : Sep w0 w (engR eb s :: l)) (h : Has S s n L Δ m) (hm : m + (n + 1) * (L.length + 1) ≤ 400000000) (hL : L.length ≤ 1000000) :
    Does Tryz.prog 50 #[.pointer (some ⟨eb, 0, none⟩)] w fun v w' => ∃ s' z, v = .int .i64 z ∧ -1 ≤ z ∧ z ≤ 1000000 ∧ Out L Δ s' z ∧ Has S s' n L Δ (m + (n + 1) * (L.length + 1)) ∧ Ext s s' ∧ Sep w0 w' (engR eb s' :: l) := by
  have hfew := h.few
  have hl : loadS s + s.C.length ≤ m + (n + 1) * (L.length + 1) := by
    unfold loadS
    rw [h.len, h.n]
    have : (n - s.h) * (L.length + 1) ≤ n * (L.length + 1) := Nat.mul_le_mul_right _ (by omega)
    rw [Nat.succ_mul]
    omega
  refine (ePropagate H h.good (by omega) (by rw [h.len]; omega)).mono ?_
  rintro v w' ⟨s', g, x, lo, H, hv⟩
  have h' : Has S s' n L Δ (m + (n + 1) * (L.length + 1)) := h.ext g x (by unfold loadS at lo; unfold loadS at hl; omega)
  rcases hv with ⟨rfl, hF, hh⟩ | ⟨id, c, rfl, hc, h1, h2, h3⟩
  · exact ⟨s', -1, rfl, by omega, by omega, h'.fine hF hh, h', x, H⟩
  · have := (List.getElem?_eq_some_iff.1 hc).1
    have h5 := h'.len
    exact ⟨s', id, rfl, by omega, by omega, h'.bad hc h1 h2 h3, h', x, H⟩
end
end Go.Proofs.YtcibiidebknkgaaGreat
