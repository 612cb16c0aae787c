/- Plain: what an engine's methods leave. -/
import Derived.Test.YtcibiidebknkgaaGreatWatchM
set_option linter.unusedVariables false
set_option linter.unusedSimpArgs false
namespace Go.Watch
open Go.Trail

section
variable {S : Nat → Prop} {s : St}

/-! A visit: the clauses that watch l. -/
def setW (s : St) (x : Int) (L : List Nat) : St := { s with W := wSet s.W x L }
/-- A removed clause is left out. -/
theorem Good.drop (hg : Good S s) {l : Int} (hl : okLit l = true) (hn : var l ≤ s.n) {k r : List Nat} {id : Nat} {c : Cls} (hw : wAt s.W l = k ++ id :: r) (hc : s.C[id]? = some c) (ho : c.on = false) : Good S (setW s l (k ++ r)) := by
  have hlt : pl l < s.W.length := by rw [hg.wl]; exact pl_lt hl hn
  have hat : ∀ x, okLit x = true → wAt (wSet s.W l (k ++ r)) x = if l = x then k ++ r else wAt s.W x := fun x hx => wAt_set hlt hl hx
  have hsub : ∀ i, i ∈ k ++ r → i ∈ wAt s.W l := by
    intro i hi; rw [hw]; rw [List.mem_append] at hi ⊢
    exact hi.imp (fun h => h) (List.mem_cons_of_mem _)
  refine { hg with wl := ?_, wat := ?_, own := ?_, nod := ?_ }
  · show (wSet s.W l (k ++ r)).length = _
    unfold wSet; rw [List.length_set]; exact hg.wl
  · intro i c' hc' h1 h2 x hx
    have hx' := (hg.cl c' (List.mem_of_getElem? hc')).1 x (List.mem_of_mem_take hx)
    show i ∈ wAt (wSet s.W l (k ++ r)) x
    rw [hat x hx'.1]
    have h3 := hg.wat i c' hc' h1 h2 x hx
    by_cases e : l = x
    · subst e
      rw [if_pos rfl]
      rw [hw, List.mem_append, List.mem_cons] at h3
      rw [List.mem_append]
      rcases h3 with h3 | rfl | h3
      · exact .inl h3
      · have hc'' : s.C[i]? = some c' := hc'
        rw [hc] at hc''; cases hc''; rw [ho] at h1; cases h1
      · exact .inr h3
    · rw [if_neg e]; exact h3
  · intro x h1 h2 i hi
    have hi' : i ∈ wAt (wSet s.W l (k ++ r)) x := hi
    rw [hat x h1] at hi'
    split at hi'
    · rename_i e; subst e; exact hg.own l h1 h2 i (hsub i hi')
    · exact hg.own x h1 h2 i hi'
  · intro x h1 h2
    show (wAt (wSet s.W l (k ++ r)) x).Nodup
    rw [hat x h1]
    split
    · have := hg.nod l hl hn
      rw [hw] at this
      exact this.sublist (List.Sublist.append_left (List.sublist_cons_self id r) k)
    · exact hg.nod x h1 h2

/-- Two lists in another order at their first two places. -/
theorem Good.swapped (hg : Good S s) {id : Nat} {c : Cls} {a b : Int} {r : List Int} (hc : s.C[id]? = some c) (hl : c.lits = a :: b :: r) : Good S (Watch.relit s id c (b :: a :: r) s.W) := by
  have hp : (b :: a :: r).Perm c.lits := by rw [hl]; exact List.Perm.swap ..
  have ht : ∀ x, x ∈ (b :: a :: r).take 2 ↔ x ∈ c.lits.take 2 := by intro x; rw [hl]; simp [or_comm]
  refine hg.relit hc hp hg.wl (fun x hx => .inl ((ht x).1 hx)) ?_ ?_ hg.nod
  · intro i k hk h1 h2 x hx
    by_cases e : i = id
    · subst e; rw [if_pos rfl] at hx; rw [hc] at hk; cases hk; exact hg.wat i c hc h1 h2 x ((ht x).1 hx)
    · rw [if_neg e] at hx; exact hg.wat i k hk h1 h2 x hx
  · intro x h1 h2 i hi
    obtain ⟨k, h3, h4, h5⟩ := hg.own x h1 h2 i hi
    refine ⟨k, h3, h4, ?_⟩
    split
    · rename_i e; subst e; rw [hc] at h3; cases h3; exact (ht x).2 h5
    · exact h5

/-- Another literal is watched. -/
theorem Good.moved (hg : Good S s) {l : Int} (hl : okLit l = true) (hn : var l ≤ s.n) {k r : List Nat} {id : Nat} {c : Cls} (hw : wAt s.W l = k ++ id :: r) (hc : s.C[id]? = some c) {o z : Int} {q q' : List Int}
    (hlits : c.lits = o :: l :: (q ++ z :: q')) (hz : ¬ tru s.E (-z)) : Good S (Watch.relit s id c (o :: z :: (q ++ l :: q')) (wSet (wSet s.W l (k ++ r)) z (wAt s.W z ++ [id]))) := by
  obtain ⟨hcl, hnd, hidl⟩ := hg.cl c (List.mem_of_getElem? hc)
  have hzm : z ∈ c.lits := by rw [hlits]; simp
  have hom : o ∈ c.lits := by rw [hlits]; simp
  obtain ⟨hzo, hzn⟩ := hcl z hzm
  obtain ⟨hoo, hon⟩ := hcl o hom
  rw [hlits] at hnd
  have hlz : l ≠ z := by
    rintro rfl
    simp at hnd
  have hoz : o ≠ z := by
    rintro rfl
    simp at hnd
  have hol : o ≠ l := by
    rintro rfl
    simp at hnd
  have hlt : pl l < s.W.length := by rw [hg.wl]; exact pl_lt hl hn
  have hlt2 : pl z < (wSet s.W l (k ++ r)).length := by unfold wSet; rw [List.length_set, hg.wl]; exact pl_lt hzo hzn
  have hat : ∀ x, okLit x = true → wAt (wSet (wSet s.W l (k ++ r)) z (wAt s.W z ++ [id])) x = if z = x then wAt s.W z ++ [id] else if l = x then k ++ r else wAt s.W x := by
    intro x hx
    rw [wAt_set hlt2 hzo hx]
    by_cases e : z = x
    · rw [if_pos e, if_pos e]
    · rw [if_neg e, if_neg e, wAt_set hlt hl hx]
  have hp : (o :: z :: (q ++ l :: q')).Perm c.lits := by
    rw [hlits]
    refine List.Perm.cons _ ?_
    have h1 : (z :: (q ++ l :: q')).Perm (z :: l :: (q ++ q')) := List.Perm.cons _ List.perm_middle
    have h2 : (l :: (q ++ z :: q')).Perm (l :: z :: (q ++ q')) := List.Perm.cons _ List.perm_middle
    exact h1.trans ((List.Perm.swap ..).trans h2.symm)
  have hidn : id ∉ k ++ r := by
    have := hg.nod l hl hn
    rw [hw, List.nodup_append] at this
    obtain ⟨h1, h2, h3⟩ := this
    rw [List.mem_append]
    rintro (h | h)
    · exact h3 id h id (by simp) rfl
    · exact (List.nodup_cons.1 h2).1 h
  have hznot : id ∉ wAt s.W z := by
    intro h
    obtain ⟨c', h1, h2, h3⟩ := hg.own z hzo hzn id h
    rw [hc] at h1; cases h1
    rw [hlits] at h3
    simp at h3
    rcases h3 with h3 | h3
    · exact hoz h3.symm
    · exact hlz h3.symm
  refine hg.relit hc hp (by unfold wSet; rw [List.length_set, List.length_set]; exact hg.wl) ?_ ?_ ?_ ?_
  · intro x hx
    simp at hx
    rcases hx with rfl | rfl
    · exact .inl (by rw [hlits]; simp)
    · exact .inr hz
  · intro i k' hk' h1 h2 x hx
    by_cases e : i = id
    · subst e
      rw [if_pos rfl] at hx
      rw [hc] at hk'; cases hk'
      simp at hx
      rcases hx with rfl | rfl
      · rw [hat x hoo, if_neg hoz.symm, if_neg hol.symm]
        exact hg.wat i c hc h1 h2 x (by rw [hlits]; simp)
      · rw [hat x hzo, if_pos rfl]; simp
    · rw [if_neg e] at hx
      have hx' := (hg.cl k' (List.mem_of_getElem? hk')).1 x (List.mem_of_mem_take hx)
      have h3 := hg.wat i k' hk' h1 h2 x hx
      rw [hat x hx'.1]
      split
      · rename_i e2; subst e2; exact List.mem_append_left _ h3
      · split
        · rename_i e2; subst e2
          rw [hw, List.mem_append, List.mem_cons] at h3
          rw [List.mem_append]
          rcases h3 with h3 | h3 | h3
          · exact .inl h3
          · exact (e h3).elim
          · exact .inr h3
        · exact h3
  · intro x h1 h2 i hi
    rw [hat x h1] at hi
    by_cases ez : z = x
    · subst ez
      rw [if_pos rfl, List.mem_append, List.mem_singleton] at hi
      rcases hi with hi | rfl
      · obtain ⟨k', h3, h4, h5⟩ := hg.own z h1 h2 i hi
        refine ⟨k', h3, h4, ?_⟩
        rw [if_neg (fun e : i = id => hznot (e ▸ hi))]
        exact h5
      · obtain ⟨k', h3, h4, h5⟩ := hg.own l hl hn i (by rw [hw]; simp)
        exact ⟨k', h3, h4, by rw [if_pos rfl]; simp⟩
    · rw [if_neg ez] at hi
      by_cases el : l = x
      · subst el
        rw [if_pos rfl] at hi
        have hi2 : i ∈ wAt s.W l := by
          rw [hw]; rw [List.mem_append] at hi ⊢
          exact hi.imp (fun h => h) (List.mem_cons_of_mem _)
        obtain ⟨k', h3, h4, h5⟩ := hg.own l h1 h2 i hi2
        refine ⟨k', h3, h4, ?_⟩
        rw [if_neg (fun e : i = id => hidn (e ▸ hi))]
        exact h5
      · rw [if_neg el] at hi
        obtain ⟨k', h3, h4, h5⟩ := hg.own x h1 h2 i hi
        refine ⟨k', h3, h4, ?_⟩
        split
        · rename_i e; subst e
          rw [hc] at h3; cases h3
          rw [hlits] at h5
          simp at h5
          rcases h5 with rfl | rfl
          · simp
          · exact (el rfl).elim
        · exact h5
  · intro x h1 h2
    rw [hat x h1]
    split
    · rename_i e; subst e
      rw [List.nodup_append]
      exact ⟨hg.nod z hzo hzn, by simp, fun a ha b hb => by rw [List.mem_singleton] at hb; subst hb; exact fun e => hznot (e ▸ ha)⟩
    · split
      · have := hg.nod l hl hn
        rw [hw] at this
        exact this.sublist (List.Sublist.append_left (List.sublist_cons_self id r) k)
      · exact hg.nod x h1 h2

/-- All clauses that watch a literal that is false now have a true one. -/
theorem Good.visited (hg : Good S s) {e : Ent} (he : s.E[s.h]? = some e) (h : ∀ id ∈ wAt s.W (-e.lit), ∀ c, s.C[id]? = some c → c.on = true → ∃ y ∈ c.lits, tru s.E y) : Good S { s with h := s.h + 1 } := by
  have hlt := (List.getElem?_eq_some_iff.1 he).1
  have hem : e ∈ s.E := List.mem_of_getElem? he
  have hdrop : s.E.drop s.h = e :: s.E.drop (s.h + 1) := by
    rw [List.drop_eq_getElem_cons hlt]; congr 1
    exact (List.getElem?_eq_some_iff.1 he).2
  have hlate : ∀ L, S L → e.lev ≤ L → s.D ≤ L := fun L hL h => hg.late e (by rw [hdrop]; simp) L hL h
  have hvis : ∀ L x, truL (s.E.take (s.h + 1)) L (-x) → truL (s.E.take s.h) L (-x) ∨ (x = -e.lit ∧ e.lev ≤ L) := by
    rintro L x ⟨g, h1, h2, h3⟩
    rw [List.take_add_one, he] at h1
    simp at h1
    rcases h1 with h1 | rfl
    · exact .inl ⟨g, h1, h2, h3⟩
    · exact .inr ⟨by omega, h2⟩
  have key : ∀ L, S L → L ≤ s.D → ∀ (id : Nat) c, s.C[id]? = some c → c.on = true → c.idle = false → ∀ x ∈ c.lits.take 2, (x = -e.lit ∧ e.lev ≤ L) → ∃ y ∈ c.lits, truL s.E L y := by
    rintro L hL hD id c hc h1 h2 x hx ⟨rfl, hle⟩
    obtain ⟨y, hy, ht⟩ := h id (hg.wat id c hc h1 h2 _ hx) c hc h1
    exact ⟨y, hy, ht.lev fun g hgm => by have := hg.levs g hgm; have := hlate L hL hle; omega⟩
  refine { hg with hd := hlt, late := ?_, p := ?_, q := ?_ }
  · intro g hgm L hL hle
    exact hg.late g (by rw [hdrop]; exact List.mem_cons_of_mem _ hgm) L hL hle
  · intro L hL hD id c hc h1 h2
    refine (hg.p L hL hD id c hc h1 h2).imp (fun h => h) (Or.imp (fun h => h) fun hw => ⟨hw.1, fun x hx hv => ?_⟩)
    rcases hvis L x hv with h3 | h3
    · exact hw.2 x hx h3
    · exact key L hL hD id c hc h1 h2 x hx h3
  · intro L hL hD id c hc h1 h2 x hx hv
    rcases hvis L x hv with h3 | h3
    · exact hg.q L hL hD id c hc h1 h2 x hx h3
    · exact .inl (key L hL hD id c hc h1 h2 x hx h3)

/-! One goes back. -/
def back (s : St) (k : Nat) : St := { s with
  D := k, E := upto s.E k, h := min s.h (upto s.E k).length, F := s.F ++ (s.Y.filter fun p => decide (k < p.2)).map (·.1), Y := s.Y.filter fun p => !decide (k < p.2) }
theorem Good.back (hg : Good S s) {k : Nat} (hk : S k) (hD : k ≤ s.D) : Good S (back s k) := by
  have hu := (upto_take hg.inv.rise k).1
  have hmem : ∀ g, g ∈ upto s.E k ↔ g ∈ s.E ∧ g.lev ≤ k := by intro g; simp [upto]
  have htk : ∀ i, i ≤ (upto s.E k).length → (upto s.E k).take i = s.E.take i := by
    intro i hi
    rw [hu, List.take_take]
    rw [hu, List.length_take] at hi
    congr 1; omega
  have hlow : ∀ {L x}, L ≤ k → truL s.E L x → truL (upto s.E k) L x := by
    rintro L x hL ⟨g, h1, h2, h3⟩
    exact ⟨g, (hmem g).2 ⟨h1, by omega⟩, h2, h3⟩
  have hvis : ∀ {L x}, truL ((upto s.E k).take (min s.h (upto s.E k).length)) L x → truL (s.E.take s.h) L x := by
    intro L x h
    rw [htk _ (Nat.min_le_right _ _)] at h
    exact h.sub fun g hgm => (List.take_subset_take_left s.E (Nat.min_le_left _ _)) hgm
  refine
  { inv := hg.inv.back k, hd := Nat.min_le_right _ _, wl := hg.wl, cl := hg.cl, fr := ?_, yo := ?_, lvl := fun j hj => (by
      have hj' : j ≤ k := hj
      have h1 := hg.lvl j (by omega)
      have h2 := cnt_upto (E := s.E) hj'
      have e1 : (upto (upto s.E k) j).length = cnt (upto s.E k) j := rfl
      have e2 : (upto s.E j).length = cnt s.E j := rfl
      show j ≤ (upto (upto s.E k) j).length
      omega), deep := hk, late := ?_, wat := hg.wat, own := hg.own, nod := hg.nod, p := ?_, q := ?_, why := ?_ }
  · intro id hid
    have hid' : id ∈ s.F ++ (s.Y.filter fun p => decide (k < p.2)).map (·.1) := hid
    rw [List.mem_append, List.mem_map] at hid'
    rcases hid' with h | ⟨p, hp, rfl⟩
    · exact hg.fr id h
    · exact (hg.yo p (List.mem_filter.1 hp).1).2
  · intro p hp
    obtain ⟨h1, h2⟩ := List.mem_filter.1 (show p ∈ s.Y.filter fun p => !decide (k < p.2) from hp)
    simp at h2
    exact ⟨h2, (hg.yo p h1).2⟩
  · intro g hgm L hL hle
    have hgm' : g ∈ (upto s.E k).drop (min s.h (upto s.E k).length) := hgm
    show k ≤ L
    rcases Nat.lt_or_ge s.h (upto s.E k).length with hh | hh
    · rw [Nat.min_eq_left (by omega)] at hgm'
      have h1 : g ∈ s.E.drop s.h := by
        rw [hu, List.drop_take] at hgm'
        exact List.mem_of_mem_take hgm'
      have h2 := ((hmem g).1 (List.mem_of_mem_drop hgm')).2
      have h3 := hg.late g h1 k hk h2
      have h4 := hg.late g h1 L hL hle
      omega
    · rw [Nat.min_eq_right hh, List.drop_length] at hgm'
      cases hgm'
  · intro L hL hLk id c hc h1 h2
    have hLk' : L ≤ k := hLk
    rcases hg.p L hL (by omega) id c hc h1 h2 with h | ⟨j, h3, h4⟩ | h
    · exact .inl (List.mem_append_left _ h)
    · by_cases hj : k < j
      · exact .inl (List.mem_append_right _ (List.mem_map.2 ⟨(id, j), List.mem_filter.2 ⟨h4, by simpa using hj⟩, rfl⟩))
      · exact .inr (.inl ⟨j, h3, List.mem_filter.2 ⟨h4, by simpa using hj⟩⟩)
    · refine .inr (.inr ⟨fun hl => ?_, fun x hx hv => ?_⟩)
      · obtain ⟨y, hy, ht⟩ := h.1 hl; exact ⟨y, hy, hlow hLk' ht⟩
      · obtain ⟨y, hy, ht⟩ := h.2 x hx (hvis hv); exact ⟨y, hy, hlow hLk' ht⟩
  · intro L hL hLk id c hc h1 h2 x hx hv
    have hLk' : L ≤ k := hLk
    rcases hg.q L hL (by omega) id c hc h1 h2 x hx (hvis hv) with ⟨y, hy, ht⟩ | ⟨z, hz⟩
    · exact .inl ⟨y, hy, hlow hLk' ht⟩
    · exact .inr ⟨z, fun y hy hyz => hlow hLk' (hz y hy hyz)⟩
  · intro i e he
    have he' : (upto s.E k)[i]? = some e := he
    have hi := (List.getElem?_eq_some_iff.1 he').1
    have hE : s.E[i]? = some e := by
      rw [hu, List.getElem?_take] at he'
      split at he'
      · exact he'
      · cases he'
    have ht : (Watch.back s k).E.take i = s.E.take i := htk i (by omega)
    rw [ht]
    exact hg.why i e hE

/-- A literal is decided. -/
def decide' (s : St) (x : Int) : St := { s with D := s.D + 1, E := s.E ++ [⟨x, s.D + 1, -1⟩] }
theorem Good.decide (hg : Good S s) {x : Int} (hl : okLit x = true) (hn : var x ≤ s.n) (hv : value s.E x = 0) {S' : Nat → Prop} (hS : ∀ L, S' L → S L ∨ L = s.D + 1) (hS2 : S' (s.D + 1)) (hlate : ∀ e ∈ s.E.drop s.h, ∀ L, S' L → e.lev ≤ L → s.D + 1 ≤ L) : Good S' (decide' s x) := by
  have hh := hg.hd
  have hD := hg.deep
  have htop : ∀ {x}, truL (s.E.take s.h) (s.D + 1) x → truL (s.E.take s.h) s.D x := by
    rintro x ⟨g, h1, h2, h3⟩
    exact ⟨g, h1, hg.levs g (List.mem_of_mem_take h1), h3⟩
  have up : ∀ {L x}, truL s.E L x → truL s.E (L + 1) x := by rintro L x ⟨g, h1, h2, h3⟩; exact ⟨g, h1, by omega, h3⟩
  refine
  { inv := hg.inv.deeper.set hl hn (val_zero hg.inv hl hv), hd := by show s.h ≤ (s.E ++ [_]).length; rw [List.length_append]; omega, wl := hg.wl, cl := hg.cl, fr := hg.fr, yo := fun p hp => ⟨by have := (hg.yo p hp).1; show p.2 ≤ s.D + 1; omega, (hg.yo p hp).2⟩, lvl := fun j hj => (by
      have hj' : j ≤ s.D + 1 := hj
      show j ≤ (upto (s.E ++ [(⟨x, s.D + 1, -1⟩ : Ent)]) j).length
      unfold upto
      rw [List.filter_append, List.length_append]
      by_cases hjd : j ≤ s.D
      · have := hg.lvl j hjd; unfold upto at this; omega
      · have e : j = s.D + 1 := by omega
        subst e
        have h1 := hg.lvl s.D (Nat.le_refl _)
        have e1 : upto s.E s.D = s.E := Go.Proofs.YtcibiidebknkgaaGreat.upto_all hg.inv
        have e2 : upto s.E (s.D + 1) = s.E := Go.Proofs.YtcibiidebknkgaaGreat.upto_all hg.inv.deeper
        rw [e1] at h1
        unfold upto at e2
        rw [e2]
        simp; omega), deep := hS2, late := ?_, wat := hg.wat, own := hg.own, nod := hg.nod, p := ?_, q := ?_, why := why_put hg.why (.inl rfl) }
  · intro e he L hL hle
    have he' : e ∈ (s.E ++ [(⟨x, s.D + 1, -1⟩ : Ent)]).drop s.h := he
    rw [List.drop_append_of_le_length hh, List.mem_append, List.mem_singleton] at he'
    rcases he' with he' | rfl
    · exact hlate e he' L hL hle
    · exact hle
  · intro L hL hLD id c hc h1 h2
    rcases hS L hL with hL' | rfl
    · by_cases hle : L ≤ s.D
      · exact (hg.p L hL' hle id c hc h1 h2).imp (fun h => h) (Or.imp (fun h => h) fun h => h.put hh)
      · have hL2 : L = s.D + 1 := by have : L ≤ s.D + 1 := hLD; omega
        subst hL2
        rcases hg.p s.D hD (Nat.le_refl _) id c hc h1 h2 with h | ⟨j, h3, h4⟩ | h
        · exact .inl h
        · have := (hg.yo _ h4).1; simp only [] at this; omega
        · refine .inr (.inr (wOK.put hh ⟨fun hl => ?_, fun x hx hv => ?_⟩))
          · obtain ⟨y, hy, ht⟩ := h.1 hl; exact ⟨y, hy, up ht⟩
          · obtain ⟨y, hy, ht⟩ := h.2 x hx (htop hv); exact ⟨y, hy, up ht⟩
    · rcases hg.p s.D hD (Nat.le_refl _) id c hc h1 h2 with h | ⟨j, h3, h4⟩ | h
      · exact .inl h
      · have := (hg.yo _ h4).1; simp only [] at this; omega
      · refine .inr (.inr (wOK.put hh ⟨fun hl => ?_, fun x hx hv => ?_⟩))
        · obtain ⟨y, hy, ht⟩ := h.1 hl; exact ⟨y, hy, up ht⟩
        · obtain ⟨y, hy, ht⟩ := h.2 x hx (htop hv); exact ⟨y, hy, up ht⟩
  · intro L hL hLD id c hc h1 h2
    have top : qOK s.E s.h (s.D + 1) c.lits := by
      intro x hx hv
      rcases hg.q s.D hD (Nat.le_refl _) id c hc h1 h2 x hx (htop hv) with ⟨y, hy, ht⟩ | ⟨z, hz⟩
      · exact .inl ⟨y, hy, up ht⟩
      · exact .inr ⟨z, fun y hy hyz => up (hz y hy hyz)⟩
    rcases hS L hL with hL' | rfl
    · by_cases hle : L ≤ s.D
      · exact (hg.q L hL' hle id c hc h1 h2).put hh
      · have hL2 : L = s.D + 1 := by have : L ≤ s.D + 1 := hLD; omega
        subst hL2
        exact top.put hh
    · exact top.put hh
end
end Go.Watch
