/- Plain: what is made of edges, and that it is found again. -/
import Derived.Test.YtpllmfoaahaciaaGateW
set_option linter.unusedVariables false
set_option linter.unusedSimpArgs false
namespace Go.Gate

def bothP (ps : List (Nat × Nat)) (a b : Nat) : List (Nat × Nat) × Nat := ((bothG ps a b).1, (bothG ps a b).2.1)

/-- A graph goes on to another one, by few gates. -/
structure Grows (ps ps' : List (Nat × Nat)) (k : Nat) : Prop where
  g : GOk ps'
  more : ∃ q : List (Nat × Nat), ps' = ps ++ q ∧ q.length ≤ k

theorem Grows.refl {ps : List (Nat × Nat)} (h : GOk ps) (k : Nat) : Grows ps ps k := ⟨h, [], by simp, by simp⟩
theorem Grows.trans {ps ps' ps'' : List (Nat × Nat)} {j k : Nat} (h : Grows ps ps' j) (h' : Grows ps' ps'' k) : Grows ps ps'' (j + k) := by
  obtain ⟨q, rfl, hq⟩ := h.more
  obtain ⟨r, rfl, hr⟩ := h'.more
  exact ⟨h'.g, q ++ r, by simp, by simp; omega⟩
theorem Grows.mono {ps ps' : List (Nat × Nat)} {j k : Nat} (h : Grows ps ps' j) (hjk : j ≤ k) : Grows ps ps' k := by
  obtain ⟨q, hq, hl⟩ := h.more
  exact ⟨h.g, q, hq, by omega⟩
theorem Grows.len {ps ps' : List (Nat × Nat)} {k : Nat} (h : Grows ps ps' k) : ps.length ≤ ps'.length ∧ ps'.length ≤ ps.length + k := by
  obtain ⟨q, rfl, hq⟩ := h.more
  simp; omega
theorem Grows.sv {ps ps' : List (Nat × Nat)} {k : Nat} (h : Grows ps ps' k) {base : Nat → Bool} {a : Nat} (ha : a / 2 < ps.length) : sv ps' base a = sv ps base a := by
  obtain ⟨q, rfl, _⟩ := h.more
  exact sv_app q ha

/-- What is made of edges: the graph behind it, and the edge. -/
structure Made (ps : List (Nat × Nat)) (k : Nat) (mk : List (Nat × Nat) → List (Nat × Nat) × Nat) (f : (Nat → Bool) → Bool) : Prop where
  grows : Grows ps (mk ps).1 k
  there : (mk ps).2 / 2 < (mk ps).1.length
  says : ∀ base : Nat → Bool, base 0 = false → sv (mk ps).1 base (mk ps).2 = f (fun a => sv ps base a)
  again : ∀ ps', (∃ j, Grows (mk ps).1 ps' j) → mk ps' = (ps', (mk ps).2)

theorem known_ext {ps q : List (Nat × Nat)} {p : Nat × Nat} {k : Nat} (h : GOk (ps ++ q)) (hk : known ps p = some k) : known (ps ++ q) p = some k := by
  obtain ⟨hne, h1⟩ := known_some hk
  have hlt := (List.getElem?_eq_some_iff.1 h1).1
  have h2 : (ps ++ q)[k]? = some p := by rw [List.getElem?_append_left hlt]; exact h1
  cases hn : known (ps ++ q) p with
  | none => exact (known_none hne hn k h2).elim
  | some j =>
    obtain ⟨_, h3⟩ := known_some hn
    rw [h.once j k p h3 h2 hne]

theorem both_made {ps : List (Nat × Nat)} (h : GOk ps) {a b : Nat} (ha : a / 2 < ps.length) (hb : b / 2 < ps.length) (hf : ps.length < 1048576) : Made ps 1 (fun ps => bothP ps a b) (fun s => s a && s b) := by
  have hB := bothG_ok h ha hb
  have hok := hB.fine hf
  refine ⟨⟨hB.g, hB.more⟩, hB.there, fun base h0 => hB.says hok base h0, ?_⟩
  rintro ps' ⟨j, hj⟩
  obtain ⟨q, rfl, _⟩ := hj.more
  have hg := hj.g
  clear hj
  simp only [bothP] at hg ⊢
  revert hg
  unfold bothG
  split
  · intro hg; rfl
  · split
    · intro hg; rfl
    · rename_i h1 h2
      split
      · rename_i k hk
        intro hg
        rw [known_ext hg hk]
      · rename_i hk
        rw [if_neg (by omega)]
        intro hg
        have hne : (min a b, max a b) ≠ ((0, 0) : Nat × Nat) := by
          intro he
          rw [Prod.mk.injEq] at he
          omega
        have hk' : known (ps ++ [(min a b, max a b)]) (min a b, max a b) = some ps.length := by
          rw [known_add, if_pos ⟨hne, rfl⟩, hk]
        rw [known_ext hg hk']

def andP (ps : List (Nat × Nat)) (out : Nat) : List Nat → List (Nat × Nat) × Nat
  | [] => (ps, out)
  | a :: r => andP (bothP ps out a).1 (bothP ps out a).2 r

theorem and_made : ∀ {xs : List Nat} {ps : List (Nat × Nat)} {out : Nat}, GOk ps → out / 2 < ps.length → (∀ a ∈ xs, a / 2 < ps.length) → ps.length + xs.length ≤ 1048576 →
    Made ps xs.length (fun ps => andP ps out xs) (fun s => s out && xs.all s)
  | [], ps, out, h, ho, _, _ => ⟨Grows.refl h _, ho, fun base _ => by simp [andP], fun ps' _ => rfl⟩
  | a :: r, ps, out, h, ho, hx, hf => by
    simp only [List.length_cons] at hf
    have hb := both_made h ho (hx a (List.mem_cons_self ..)) (by omega)
    have hlen := hb.grows.len
    have ih := and_made (xs := r) hb.grows.g hb.there (fun x hxr => by have := hx x (List.mem_cons_of_mem _ hxr); omega) (by omega)
    refine ⟨(hb.grows.trans ih.grows).mono (by simp only [List.length_cons]; omega), ih.there, ?_, ?_⟩
    · intro base h0
      have h1 := ih.says base h0
      have h2 := hb.says base h0
      simp only [andP] at h1 h2 ⊢
      rw [h1, h2, List.all_cons, Bool.and_assoc]
      congr 2
      rw [Bool.eq_iff_iff, List.all_eq_true, List.all_eq_true]
      constructor
      · intro hh x hxr
        have := hh x hxr
        rwa [hb.grows.sv (hx x (List.mem_cons_of_mem _ hxr))] at this
      · intro hh x hxr
        rw [hb.grows.sv (hx x (List.mem_cons_of_mem _ hxr))]
        exact hh x hxr
    · rintro ps' ⟨j, hj⟩
      have h1 := hb.again ps' ⟨_, ih.grows.trans hj⟩
      have h2 := ih.again ps' ⟨j, hj⟩
      simp only [andP] at h1 h2 ⊢
      rw [h1]
      exact h2

def orP (ps : List (Nat × Nat)) (xs : List Nat) : List (Nat × Nat) × Nat := ((andP ps 1 (xs.map flip)).1, flip (andP ps 1 (xs.map flip)).2)

theorem one_there {ps : List (Nat × Nat)} (h : GOk ps) : 1 / 2 < ps.length := by have := h.pos; omega

theorem all_flip {ps : List (Nat × Nat)} {base : Nat → Bool} : ∀ {xs : List Nat}, (xs.map flip).all (fun a => sv ps base a) = !xs.any (fun a => sv ps base a)
  | [] => rfl
  | x :: xs => by simp only [List.map_cons, List.all_cons, List.any_cons, all_flip, sv_flip, Bool.not_or]

theorem or_made {xs : List Nat} {ps : List (Nat × Nat)} (h : GOk ps) (hx : ∀ a ∈ xs, a / 2 < ps.length) (hf : ps.length + xs.length ≤ 1048576) :
    Made ps xs.length (fun ps => orP ps xs) (fun s => xs.any s) := by
  have hm := and_made (xs := xs.map flip) h (one_there h) (by intro a ha; obtain ⟨x, hx', rfl⟩ := List.mem_map.1 ha; rw [flip_div]; exact hx x hx') (by rw [List.length_map]; exact hf)
  rw [List.length_map] at hm
  refine ⟨hm.grows, by simp only [orP]; rw [flip_div]; exact hm.there, ?_, ?_⟩
  · intro base h0
    have h1 := hm.says base h0
    simp only [orP] at h1 ⊢
    rw [sv_flip, h1, sv_one h h0, Bool.true_and, all_flip, Bool.not_not]
  · intro ps' hj
    have h1 := hm.again ps' hj
    simp only [orP] at h1 ⊢
    rw [h1]

theorem and_made1 {xs : List Nat} {ps : List (Nat × Nat)} (h : GOk ps) (hx : ∀ a ∈ xs, a / 2 < ps.length) (hf : ps.length + xs.length ≤ 1048576) :
    Made ps xs.length (fun ps => andP ps 1 xs) (fun s => xs.all s) := by
  have hm := and_made (xs := xs) h (one_there h) hx hf
  refine ⟨hm.grows, hm.there, ?_, hm.again⟩
  intro base h0
  rw [hm.says base h0]
  simp only [sv_one h h0, Bool.true_and]

def ifP (ps : List (Nat × Nat)) (c a b : Nat) : List (Nat × Nat) × Nat :=
  orP (andP (andP ps 1 [c, a]).1 1 [flip c, b]).1 [(andP ps 1 [c, a]).2, (andP (andP ps 1 [c, a]).1 1 [flip c, b]).2]

theorem if_made {ps : List (Nat × Nat)} (h : GOk ps) {c a b : Nat} (hc : c / 2 < ps.length) (ha : a / 2 < ps.length) (hb : b / 2 < ps.length) (hf : ps.length + 6 ≤ 1048576) :
    Made ps 6 (fun ps => ifP ps c a b) (fun s => if s c then s a else s b) := by
  have m1 := and_made1 (xs := [c, a]) h (by simp only [List.mem_cons, List.not_mem_nil, or_false]; rintro x (rfl | rfl) <;> assumption) (by simp only [List.length_cons, List.length_nil]; omega)
  simp only [List.length_cons, List.length_nil] at m1
  have l1 := m1.grows.len
  have m2 := and_made1 (xs := [flip c, b]) m1.grows.g (by simp only [List.mem_cons, List.not_mem_nil, or_false]; rintro x (rfl | rfl) <;> (try rw [flip_div]) <;> omega) (by simp only [List.length_cons, List.length_nil]; omega)
  simp only [List.length_cons, List.length_nil] at m2
  have l2 := m2.grows.len
  have t1 := m1.there
  have t2 := m2.there
  have m3 := or_made (xs := [(andP ps 1 [c, a]).2, (andP (andP ps 1 [c, a]).1 1 [flip c, b]).2]) m2.grows.g (by
    simp only [List.mem_cons, List.not_mem_nil, or_false]
    rintro x (rfl | rfl)
    · exact Nat.lt_of_lt_of_le t1 l2.1
    · exact t2) (by simp only [List.length_cons, List.length_nil]; omega)
  simp only [List.length_cons, List.length_nil] at m3
  refine ⟨((m1.grows.trans m2.grows).trans m3.grows).mono (by omega), m3.there, ?_, ?_⟩
  · intro base h0
    have e1 := m1.says base h0
    have e2 := m2.says base h0
    have e3 := m3.says base h0
    simp only [List.all_cons, List.all_nil, List.any_cons, List.any_nil, Bool.and_true, Bool.or_false] at e1 e2 e3
    show sv (orP _ _).1 base (orP _ _).2 = _
    rw [e3, m2.grows.sv t1, e1, e2, sv_flip, m1.grows.sv hc, m1.grows.sv hb]
    show _ = if sv ps base c = true then sv ps base a else sv ps base b
    cases sv ps base c <;> cases sv ps base a <;> cases sv ps base b <;> rfl
  · rintro ps' ⟨j, hj⟩
    have e1 := m1.again ps' ⟨_, m2.grows.trans (m3.grows.trans hj)⟩
    have e2 := m2.again ps' ⟨_, m3.grows.trans hj⟩
    have e3 := m3.again ps' ⟨_, hj⟩
    simp only [ifP] at e1 e2 e3 ⊢
    rw [e1]
    simp only []
    rw [e2]
    simp only []
    rw [e3]

def sameP (ps : List (Nat × Nat)) (a b : Nat) : List (Nat × Nat) × Nat := ifP ps a b (flip b)

theorem same_made {ps : List (Nat × Nat)} (h : GOk ps) {a b : Nat} (ha : a / 2 < ps.length) (hb : b / 2 < ps.length) (hf : ps.length + 6 ≤ 1048576) :
    Made ps 6 (fun ps => sameP ps a b) (fun s => s a == s b) := by
  have m := if_made h ha hb (b := flip b) (by rw [flip_div]; exact hb) hf
  refine ⟨m.grows, m.there, ?_, m.again⟩
  intro base h0
  have e := m.says base h0
  simp only [sameP] at e ⊢
  rw [e, sv_flip]
  show (if sv ps base a = true then sv ps base b else !sv ps base b) = (sv ps base a == sv ps base b)
  cases sv ps base a <;> cases sv ps base b <;> rfl

theorem flip_made {ps : List (Nat × Nat)} (h : GOk ps) {a : Nat} (ha : a / 2 < ps.length) : Made ps 0 (fun ps => (ps, flip a)) (fun s => !s a) :=
  ⟨Grows.refl h _, by rw [flip_div]; exact ha, fun base _ => sv_flip, fun ps' _ => rfl⟩

end Go.Gate
