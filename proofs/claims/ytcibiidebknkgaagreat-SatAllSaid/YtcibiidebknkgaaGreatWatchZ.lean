/- An engine: a clause more. -/
import Derived.Test.YtcibiidebknkgaaGreatWatchY
namespace Go.Proofs.YtcibiidebknkgaaGreat
open Go Go.Vc Go.Watch
open Go.Trail (Ent value find upto okLit litsV)
set_option linter.unusedVariables false
set_option linter.unusedSimpArgs false
set_option maxHeartbeats 4000000
set_option maxRecDepth 100000

section
variable {w0 w : World} {l : List Res} {eb q : Nat} {s : St} {r : Rep}

abbrev wRx (a : Option Addr) (c : Nat) (L : List Nat) : Res := ownR a L.length c 3 1 (L.map idV)
theorem wR_app {a : Option Addr} {c : Nat} {L : List Nat} {id : Nat} : ownR a (L.length + 1) c 3 1 (L.map idV ++ [idV id]) = wR (a, c, L ++ [id]) := by simp [wR]
theorem clauR_app {a : Option Addr} {c : Nat} {xs : List Int} {o i : Bool} : ownR a xs.length c 29 1 (xs.map lV) = clauR (a, c, ⟨xs, o, i⟩) := rfl
theorem wV_set {R : List Wr} {p : Nat} {a : Option Addr} {c : Nat} {L : List Nat} : (R.map wV).set p (.slice a L.length c) = (R.set p (a, c, L)).map wV := by rw [List.map_set]; rfl
theorem wV_app {R : List Wr} {p : Nat} {a : Option Addr} {c : Nat} {L : List Nat} {id : Nat} : (R.map wV).set p (.slice a (L.length + 1) c) = (R.set p (a, c, L ++ [id])).map wV := by rw [List.map_set]; simp [wV]
theorem watchAll_few (id : Nat) {x : Int} (hx : okLit x = true) : ∀ (xs : List Int) (W : List (List Nat)), (∀ y ∈ xs, okLit y = true ∧ pl y < W.length) → (wAt (watchAll W id xs) x).length ≤ (wAt W x).length + xs.length
  | [], W, _ => by simp [watchAll]
  | y :: xs, W, h => by
    have hy := h y (by simp)
    have ih := watchAll_few id hx xs (wSet W y (wAt W y ++ [id])) (fun z hz => by
      have := h z (List.mem_cons_of_mem _ hz)
      unfold wSet; rw [List.length_set]; exact this)
    rw [wAt_set hy.2 hy.1 hx] at ih
    show (wAt (watchAll (wSet W y (wAt W y ++ [id])) id xs) x).length ≤ _
    rw [List.length_cons]
    split at ih
    · rename_i e; subst e; rw [List.length_append, List.length_singleton] at ih; omega
    · omega
theorem watchAll_take {W : List (List Nat)} {id : Nat} {xs : List Int} {j : Nat} {x : Int} (h : xs[j]? = some x) : watchAll W id (xs.take (j + 1)) = wSet (watchAll W id (xs.take j)) x (wAt (watchAll W id (xs.take j)) x ++ [id]) := by
  unfold watchAll
  rw [List.take_add_one, h, List.foldl_append]; rfl
theorem Rep.Ok.wat {r : Rep} {s : St} (h : r.Ok s) {x : Int} (hp : pl x < s.W.length) : ∃ a k, r.RW[pl x]? = some (a, k, wAt s.W x) := by
  have hlt : pl x < r.RW.length := by rw [h.wlen]; exact hp
  have e := List.getElem?_eq_getElem hlt
  have hw : s.W[pl x]? = some (r.RW[pl x].2.2) := by rw [← h.W, List.getElem?_map, e]; rfl
  rcases hx : r.RW[pl x] with ⟨a, k, L⟩
  refine ⟨a, k, ?_⟩
  rw [e, hx]
  unfold wAt
  rw [List.getD_eq_getElem?_getD, hw, hx]; rfl

theorem litCIndexS {xs : List Int} {a : Option Addr} {c : Nat} {w : World} {Q : World → Prop} (hQ : Q w) (hs : ∀ w', Q w' → Src w' a xs.length 1 (xs.map lV)) {k : FuncId} {cap : Value} {p : Int → Bool} (hm : xs.length ≤ maxLen)
    (hf : ∀ x ∈ xs, ∀ w', Q w' → Does Tryz.prog k #[lV x, cap] w' fun v w'' => v = .bool (p x) ∧ Q w'') :
    Does Tryz.prog 68 #[.slice a xs.length c, .func (.func k) #[] #[cap]] w fun v w' => v = .int .i64 (match xs.findIdx? p with | some i => (i : Int) | none => -1) ∧ Q w' := by
  refine Does_intro tok (Tryz.call68 _ _) Tryz.func68 rfl (by rfl) ?_
  refine Loop_intro (fun i : Nat => [(8, .int .i64 (i : Int))]) (fun i w' => Q w' ∧ i ≤ xs.length ∧ ∀ j x, j < i → xs[j]? = some x → p x = false) (fun i => xs.length - i) 0 ⟨rfl, trivial⟩ ⟨hQ, Nat.zero_le _, fun j x h => by omega⟩ ?_
  clear hQ
  rintro i w ⟨hQ, hi, hno⟩
  simp only [] at hi hno ⊢
  unfold maxLen at hm
  refine Br_dec (fun k1 => ?_) (fun k1 => ?_)
  · have hlt : i < xs.length := by omega
    have hs1 := hs w hQ
    obtain ⟨b, o, rfl⟩ := hs1.addr (by rw [List.length_map]; omega)
    refine Ix_in i rfl hlt ?_
    have hx : xs[i]? = some xs[i] := List.getElem?_eq_getElem hlt
    refine Ld_src (j := i) hs1 (v := lV xs[i]) (by rw [List.getElem?_map, hx]; rfl) ?_
    (repeat first | refine go ?_ | ((try conv => whnf); (first | (refine St_gate ?_; refine xS ?_) | (refine StN_gate ?_; refine xN ?_)); clear H; intro w H))
    refine Call_of (hf xs[i] (List.getElem_mem hlt) w hQ) ?_
    clear hs1 hQ
    rintro _ w ⟨rfl, hQ⟩
    refine Br_if (fun hp => ?_) (fun hp => ?_)
    · refine Ret_in ⟨vint ?_, hQ⟩
      have : xs.findIdx? p = some i := by
        rw [List.findIdx?_eq_some_iff_getElem]
        exact ⟨hlt, hp, fun j hj => by rw [hno j xs[j] hj (List.getElem?_eq_getElem (by omega))]; exact Bool.false_ne_true⟩
      rw [this]
    · (repeat first | refine go ?_ | ((try conv => whnf); (first | (refine St_gate ?_; refine xS ?_) | (refine StN_gate ?_; refine xN ?_)); clear H; intro w H))
      refine ⟨i + 1, ⟨congrArg some (vint (by omega)), trivial⟩, ⟨hQ, by omega, fun j x hj hjx => ?_⟩, by omega⟩
      rcases Nat.lt_or_ge j i with h | h
      · exact hno j x h hjx
      · obtain rfl : j = i := by omega
        rw [hx] at hjx; cases hjx; simpa using hp
  · refine Ret_in ⟨vint ?_, hQ⟩
    have : xs.findIdx? p = none := by
      rw [List.findIdx?_eq_none_iff]
      intro x hx
      obtain ⟨j, hj⟩ := List.getElem?_of_mem hx
      exact hno j x (by have := (List.getElem?_eq_some_iff.1 hj).1; omega) hj
    rw [this]
theorem litCContainsS {xs : List Int} {a : Option Addr} {c : Nat} {w : World} {Q : World → Prop} (hQ : Q w) (hs : ∀ w', Q w' → Src w' a xs.length 1 (xs.map lV)) {k : FuncId} {cap : Value} {p : Int → Bool} (hm : xs.length ≤ maxLen)
    (hf : ∀ x ∈ xs, ∀ w', Q w' → Does Tryz.prog k #[lV x, cap] w' fun v w'' => v = .bool (p x) ∧ Q w'') :
    Does Tryz.prog 40 #[.slice a xs.length c, .func (.func k) #[] #[cap]] w fun v w' => v = .bool (xs.any p) ∧ Q w' := by
  refine Does_intro tok (Tryz.call40 _ _) Tryz.func40 rfl (by rfl) ?_
  (repeat first | refine go ?_ | ((try conv => whnf); (first | (refine St_gate ?_; refine xS ?_) | (refine StN_gate ?_; refine xN ?_)); clear H; intro w H))
  refine Call_of (litCIndexS hQ hs hm hf) ?_
  rintro _ w ⟨rfl, hQ⟩
  (repeat first | refine go ?_ | ((try conv => whnf); (first | (refine St_gate ?_; refine xS ?_) | (refine StN_gate ?_; refine xN ?_)); clear H; intro w H))
  refine Ret_in ⟨vbool ?_, hQ⟩
  cases h : xs.findIdx? p with
  | none =>
    rw [List.findIdx?_eq_none_iff] at h
    have : xs.any p = false := by rw [List.any_eq_false]; intro x hx; rw [h x hx]; exact Bool.false_ne_true
    rw [this]; rfl
  | some i =>
    obtain ⟨hlt, h1, _⟩ := List.findIdx?_eq_some_iff_getElem.1 h
    have : xs.any p = true := List.any_eq_true.2 ⟨xs[i], List.getElem_mem hlt, h1⟩
    rw [this]
    exact decide_eq_true (show (i : Int) ≥ 0 by omega)


theorem eAdd1 (H : Sep w0 w l) (hq : cellsR q 52 [.pointer (some ⟨eb, 0, none⟩)] ∈ l) (he : eP eb s r ∈ l) (ht : tP s r ∈ l) {x : Int} : Does Tryz.prog 41 #[lV x, .pointer (some ⟨q, 0, none⟩)] w fun v w' =>
    v = .bool (decide ((s.n : Int) < (Trail.var x : Int))) ∧ Sep w0 w' l := by
  refine Does_intro tok (Tryz.call41 _ _) Tryz.func41 rfl (by rfl) ?_
  (repeat first | refine go ?_ | ((try conv => whnf); (first | (refine St_gate ?_; refine xS ?_) | (refine StN_gate ?_; refine xN ?_)); clear H; intro w H))
  refine Draw_intro mixed [0, 2, 3, 4, 5, 1, 6, 7, 8] (by decide +kernel) (fun w _ fd => ?_); replace H := H.fr fd; clear fd
  (repeat first | refine go ?_ | ((try conv => whnf); (first | (refine St_gate ?_; refine xS ?_) | (refine StN_gate ?_; refine xN ?_)); clear H; intro w H))
  refine Ld_m H hq rfl ?_
  (repeat first | refine go ?_ | ((try conv => whnf); (first | (refine St_gate ?_; refine xS ?_) | (refine StN_gate ?_; refine xN ?_)); clear H; intro w H))
  refine Ld_m H he rfl ?_
  (repeat first | refine go ?_ | ((try conv => whnf); (first | (refine St_gate ?_; refine xS ?_) | (refine StN_gate ?_; refine xN ?_)); clear H; intro w H))
  (try conv => whnf)
  refine Call_of (litVar x _) ?_
  rintro _ _ ⟨rfl, rfl⟩
  (try conv => whnf)
  (repeat (refine Kept_gate ?_; first | refine Kept_in (Sep.cellAt H he rfl) ?_ | refine Kept_in (Sep.cellAt H hq rfl) ?_))
  (try conv => whnf)
  refine Call_of (sTrailVars H ht) ?_
  rintro _ _ ⟨rfl, rfl⟩
  (try conv => whnf)
  (repeat (refine Kept_gate ?_; first | refine Kept_in (Sep.cellAt H he rfl) ?_ | refine Kept_in (Sep.cellAt H hq rfl) ?_))
  (try conv => whnf)
  exact Ret_in ⟨rfl, H⟩

theorem wSet_len {W : List (List Nat)} {x : Int} {L : List Nat} : (wSet W x L).length = W.length := by unfold wSet; rw [List.length_set]
theorem ePlace {x : Int} (h : okLit x = true) (w : World) : Does Tryz.prog 44 #[lV x] w fun v w' => v = idV (pl x) ∧ w = w' := by
  rw [show idV (pl x) = .int .i64 (Lit.place x) by rw [pl_int h]]
  exact fPlace w

theorem eAdd_no (H : Sep w0 w (engR eb s :: l)) {xs : List Int} {a : Option Addr} {c : Nat} (hs : ∀ {w' : World} {l' : List Res}, Sep w0 w' (l' ++ l) → Src w' a xs.length 1 (xs.map lV)) (hm : xs.length ≤ 35184372087808)
    (hno : xs.all Lit.one = false ∨ ∃ x ∈ xs, s.n < Trail.var x) :
    Does Tryz.prog 22 #[.pointer (some ⟨eb, 0, none⟩), .slice a xs.length c] w fun v w' => v = .tuple #[.int .i64 0, .int .i64 51] ∧ Sep w0 w' (engR eb s :: l) := by
  refine Does_intro tok (Tryz.call22 _ _) Tryz.func22 rfl (by rfl) ?_
  obtain ⟨r, hr, H⟩ := engOpen H
  (repeat first | refine go ?_ | ((try conv => whnf); (first | (refine St_gate ?_; refine xS ?_) | (refine StN_gate ?_; refine xN ?_)); clear H; intro w H))
  (refine Nw_sep H ?_; clear H; intro qb w H; (try simp only [Value.cells, List.toList_toArray, List.append_nil, List.cons_append, List.nil_append] at H))
  (repeat first | refine go ?_ | ((try conv => whnf); (first | (refine St_gate ?_; refine xS ?_) | (refine StN_gate ?_; refine xN ?_)); clear H; intro w H))
  cases h1 : xs.all Lit.one with
  | false =>
    refine Call_of (fClean_no (hs (l' := [_, _, _, _, _, _, _, _, _]) H) (by unfold maxLen; omega) h1) ?_
    rintro _ _ ⟨rfl, rfl⟩
    (repeat first | refine go ?_ | ((try conv => whnf); (first | (refine St_gate ?_; refine xS ?_) | (refine StN_gate ?_; refine xN ?_)); clear H; intro w H))
    have hz : Src w none ([] : List Int).length 1 (([] : List Int).map lV) := ⟨rfl, fun j u hj => by simp at hj⟩
    refine Call_of (litCContainsS (xs := []) (Q := fun w' => w = w') rfl (fun _ h => h ▸ hz) (p := fun x => decide ((s.n : Int) < (Trail.var x : Int))) (by unfold maxLen; simp) fun x hx => (by cases hx)) ?_
    rintro _ _ ⟨rfl, rfl⟩
    (repeat first | refine go ?_ | ((try conv => whnf); (first | (refine St_gate ?_; refine xS ?_) | (refine StN_gate ?_; refine xN ?_)); clear H; intro w H))
    exact Ret_in ⟨rfl, engClose hr H.tail⟩
  | true =>
    have ho := List.all_eq_true.1 h1
    refine Call_of (fClean H (hs (l' := [_, _, _, _, _, _, _, _, _]) H) (by omega) ho) ?_
    clear H
    rintro _ w ⟨oa, oc, out, rfl, hcl, hlen, H⟩
    (repeat first | refine go ?_ | ((try conv => whnf); (first | (refine St_gate ?_; refine xS ?_) | (refine StN_gate ?_; refine xN ?_)); clear H; intro w H))
    refine Call_of (litCContainsS (xs := out) (Q := fun w' => Sep w0 w' (ownR oa out.length oc 29 1 (out.map lV) :: cellsR qb 52 [.pointer (some ⟨eb, 0, none⟩)] :: eng eb s r l)) H (fun _ h => h.srcM (.head _)) (p := fun x => decide ((s.n : Int) < (Trail.var x : Int))) (by unfold maxLen; omega) fun x hx w' h => eAdd1 (s := s) (r := r) h (.tail _ (.head _)) mm mm) ?_
    clear H
    rintro _ w ⟨rfl, H⟩
    have hany : out.any (fun x => decide ((s.n : Int) < (Trail.var x : Int))) = true := by
      rcases hno with h | ⟨x, hx, hv⟩
      · rw [h1] at h; cases h
      · exact List.any_eq_true.2 ⟨x, (hcl.mem x).2 hx, by simpa using hv⟩
    rw [hany]
    (repeat first | refine go ?_ | ((try conv => whnf); (first | (refine St_gate ?_; refine xS ?_) | (refine StN_gate ?_; refine xN ?_)); clear H; intro w H))
    exact Ret_in ⟨rfl, engClose hr H.tail.tail⟩

theorem clean_few {xs out : List Int} (h : Lit.Clean xs out) (ho : ∀ x ∈ xs, Lit.one x = true) : out.length ≤ 600000 := by
  have hok : ∀ x ∈ out, okLit x = true := fun x hx => by rw [← one_ok]; exact ho x ((h.mem x).1 hx)
  have := Trail.pigeons 524290 (out.map fun x => pl x + 1) (by
    rw [List.pairwise_map]
    refine h.asc.imp_of_mem ?_
    intro x y ha hb hab e
    have h1 := pl_int (hok _ ha)
    have h2 := pl_int (hok _ hb)
    omega) (by
    intro p hp
    obtain ⟨x, hx, rfl⟩ := List.mem_map.1 hp
    have h3 := hok x hx
    have h5 := pl_lt h3 (Nat.le_refl (Trail.var x))
    have h6 := Trail.okLit_iff.1 h3
    rw [Trail.var_ok h3] at h5
    omega)
  rw [List.length_map] at this
  omega
theorem eAdd (H : Sep w0 w (engR eb s :: l)) {xs : List Int} {a : Option Addr} {c : Nat} (hs : ∀ {w' : World} {l' : List Res}, Sep w0 w' (l' ++ l) → Src w' a xs.length 1 (xs.map lV)) (hm : xs.length ≤ 35184372087808)
    (ho : ∀ x ∈ xs, Lit.one x = true) (hv : ∀ x ∈ xs, Trail.var x ≤ s.n) (hC : s.C.length < 1048576) (hF : s.F.length ≤ 1000000000000) (hW : s.W.length = 2 * s.n + 2) (hn : s.n ≤ 262144)
    (hlen : ∀ x, okLit x = true → Trail.var x ≤ s.n → (wAt s.W x).length ≤ 1048576) :
    Does Tryz.prog 22 #[.pointer (some ⟨eb, 0, none⟩), .slice a xs.length c] w fun v w' => v = .tuple #[idV s.C.length, .int .i64 0] ∧ ∃ out, Lit.Clean xs out ∧ out.length ≤ xs.length ∧ Sep w0 w' (engR eb (addP s (leadP s.E out) (Lit.bothB xs)) :: l) := by
  refine Does_intro tok (Tryz.call22 _ _) Tryz.func22 rfl (by rfl) ?_
  obtain ⟨r, hr, H⟩ := engOpen H
  (repeat first | refine go ?_ | ((try conv => whnf); (first | (refine St_gate ?_; refine xS ?_) | (refine StN_gate ?_; refine xN ?_)); clear H; intro w H))
  (refine Nw_sep H ?_; clear H; intro qb w H; (try simp only [Value.cells, List.toList_toArray, List.append_nil, List.cons_append, List.nil_append] at H))
  (repeat first | refine go ?_ | ((try conv => whnf); (first | (refine St_gate ?_; refine xS ?_) | (refine StN_gate ?_; refine xN ?_)); clear H; intro w H))
  refine Call_of (fClean H (hs (l' := [_, _, _, _, _, _, _, _, _]) H) (by omega) ho) ?_
  clear H
  rintro _ w ⟨oa, oc, out, rfl, hcl, hol, H⟩
  (repeat first | refine go ?_ | ((try conv => whnf); (first | (refine St_gate ?_; refine xS ?_) | (refine StN_gate ?_; refine xN ?_)); clear H; intro w H))
  refine Call_of (litCContainsS (xs := out) (Q := fun w' => Sep w0 w' (ownR oa out.length oc 29 1 (out.map lV) :: cellsR qb 52 [.pointer (some ⟨eb, 0, none⟩)] :: eng eb s r l)) H (fun _ h => h.srcM (.head _)) (p := fun x => decide ((s.n : Int) < (Trail.var x : Int))) (by unfold maxLen; omega) fun x hx w' h => eAdd1 (s := s) (r := r) h (.tail _ (.head _)) mm mm) ?_
  clear H
  rintro _ w ⟨rfl, H⟩
  have hany : out.any (fun x => decide ((s.n : Int) < (Trail.var x : Int))) = false := by
    rw [List.any_eq_false]
    intro x hx
    have := hv x ((hcl.mem x).1 hx)
    simp; omega
  rw [hany]
  have hoo : ∀ x ∈ out, okLit x = true ∧ Trail.var x ≤ s.n := fun x hx => by
    have := (hcl.mem x).1 hx
    exact ⟨by rw [← one_ok]; exact ho x this, hv x this⟩
  (repeat first | refine go ?_ | ((try conv => whnf); (first | (refine St_gate ?_; refine xS ?_) | (refine StN_gate ?_; refine xN ?_)); clear H; intro w H))
  have hcf := clean_few hcl ho
  refine Call_of (eLead (s := s) (r := r) H mm mm (by omega)) ?_
  clear H
  intro _ w H
  have hlp := (lead_ok s.E out).1
  have hll := hlp.length_eq
  have hlo : ∀ x ∈ leadP s.E out, okLit x = true ∧ Trail.var x ≤ s.n := fun x hx => hoo x (hlp.mem_iff.1 hx)
  have hgoal : ∀ {w' : World} {b : Bool} {s' : St}, s' = addP s (leadP s.E out) b → Sep w0 w' (engR eb s' :: l) → ∃ out, Lit.Clean xs out ∧ out.length ≤ xs.length ∧ Sep w0 w' (engR eb (addP s (leadP s.E out) b) :: l) := fun e h => ⟨out, hcl, hol, e ▸ h⟩
  rw [← hll] at H ⊢
  generalize leadP s.E out = lits at *
  have hl6 : lits.length ≤ 1000000 := by rw [hll]; omega
  clear hcf hcl hol hlp hll hoo hany
  have hoc := (H.ownM (a := oa) (hm := .head _)).2.1
  have hoa : 0 < lits.length → ∃ ob, oa = some ⟨ob, 0, none⟩ := fun h => (H.ownM (a := oa) (hm := .head _)).some h
  (repeat first | refine go ?_ | ((try conv => whnf); (first | (refine St_gate ?_; refine xS ?_) | (refine StN_gate ?_; refine xN ?_)); clear H; intro w H))
  refine Draw_intro mixed [0, 1, 2, 3, 4, 5, 6, 7, 8, 9, 10, 11, 12] (by decide +kernel) (fun w _ fd => ?_); replace H := H.fr fd; clear fd
  (repeat first | refine go ?_ | ((try conv => whnf); (first | (refine St_gate ?_; refine xS ?_) | (refine StN_gate ?_; refine xN ?_)); clear H; intro w H))
  (refine Nw_sep H ?_; clear H; intro nb w H; (try simp only [Value.cells, List.toList_toArray, List.append_nil, List.cons_append, List.nil_append] at H))
  (repeat first | refine go ?_ | ((try conv => whnf); (first | (refine St_gate ?_; refine xS ?_) | (refine StN_gate ?_; refine xN ?_)); clear H; intro w H))
  (refine DoN_gate ?_; refine append_one tok H rfl rfl rfl rfl rfl (by decide) mm (m := 1) rfl (by simp [oneCell]) (by omega) (by unfold maxLen; omega) ?_; clear H; intro ca' cc' w H; replace H := H _ (by repeat first | exact Upd.head | apply Upd.tail))
  (repeat first | refine go ?_ | ((try conv => whnf); (first | (refine St_gate ?_; refine xS ?_) | (refine StN_gate ?_; refine xN ?_)); clear H; intro w H))
  have hrow : r.RC.flatMap row3 ++ [.slice oa lits.length oc, .bool true, .bool (Lit.bothB xs)] = (r.RC ++ [((oa, oc, ⟨lits, true, Lit.bothB xs⟩) : Cr)]).flatMap row3 := by rw [List.flatMap_append]; rfl
  rw [hrow, clauR_app (o := true) (i := Lit.bothB xs)] at H
  replace H := H.tp 5
  replace H := H.tp 1
  replace H := Sep.big_snoc (f := fun (_ : Nat) (x : Cr) => clauR x) (y := (oa, oc, ⟨lits, true, Lit.bothB xs⟩)) H
  replace H := H.tp 4
  replace H := H.tp 4
  replace H := H.tp 4
  have hCl : ∀ k : Cls, (s.C ++ [k]).length = s.C.length + 1 := fun k => by simp
  cases hb : Lit.bothB xs with
  | true =>
    have es : ({ s with C := s.C ++ [⟨lits, true, true⟩] } : St) = addP s lits true := rfl
    rw [hb] at H
    (repeat first | refine go ?_ | ((try conv => whnf); (first | (refine St_gate ?_; refine xS ?_) | (refine StN_gate ?_; refine xN ?_)); clear H; intro w H))
    refine Ret_in ⟨rfl, hgoal es (engClose (r := { r with ca := ca', cc := cc', RC := r.RC ++ [(oa, oc, ⟨lits, true, true⟩)] }) ⟨by rw [List.map_append, hr.C]; rfl, hr.W⟩ ?_)⟩
    unfold eng eP cP
    rw [hCl]
    exact H.drop 4 rfl rfl
  | false =>
    rw [hb] at H
    (repeat first | refine go ?_ | ((try conv => whnf); (first | (refine St_gate ?_; refine xS ?_) | (refine StN_gate ?_; refine xN ?_)); clear H; intro w H))
    have em : min (2 : Int) (lits.length : Int) = ((min 2 lits.length : Nat) : Int) := by omega
    rw [em]
    refine Do_slice tok rfl rfl 0 (min 2 lits.length) (.inl ⟨rfl, rfl⟩) (.inr ⟨_, rfl⟩) (Nat.zero_le _) (by omega) ?_
    obtain ⟨a2, ha2⟩ : ∃ a2, (if oc = 0 then oa else oa.map (·.add (0 * 1))) = a2 := ⟨_, rfl⟩
    rw [ha2]
    have ha3 : 0 < lits.length → a2 = oa := by
      intro h
      obtain ⟨ob, rfl⟩ := hoa h
      rw [← ha2, if_neg (by omega)]
      simp only [Option.map_some]
      rw [add_mk]
    (repeat first | refine go ?_ | ((try conv => whnf); (first | (refine St_gate ?_; refine xS ?_) | (refine StN_gate ?_; refine xN ?_)); clear H; intro w H))
    replace H := H.tp 8
    replace H := H.tp 8
    replace H := H.tp 8
    replace H := H.tp 8
    replace H := H.tp 7
    replace H := H.tp 7
    replace H := H.tp 7
    replace H := H.tp 7
    rw [Nat.sub_zero]
    refine Loop_intro (fun q : Nat × Rep => [(63, .int .i64 (q.1 : Int))]) (fun q w => (q.1 ≤ min 2 lits.length ∧ q.2.Ok { s with C := s.C ++ [⟨lits, true, false⟩], W := watchAll s.W s.C.length ((lits.take 2).take q.1) } ∧ q.2.RC[s.C.length]? = some (oa, oc, ⟨lits, true, false⟩)) ∧
      Sep w0 w (eng eb { s with C := s.C ++ [⟨lits, true, false⟩], W := watchAll s.W s.C.length ((lits.take 2).take q.1) } q.2 (cellsR qb 52 [.pointer (some ⟨eb, 0, none⟩)] :: l))) (fun q => 2 - q.1)
      (0, { r with ca := ca', cc := cc', RC := r.RC ++ [(oa, oc, ⟨lits, true, false⟩)] }) ⟨rfl, trivial⟩ ⟨⟨Nat.zero_le _, ⟨by rw [List.map_append, hr.C]; rfl, hr.W⟩, by rw [← hr.clen]; simp⟩, by
        unfold eng eP cP
        rw [hCl]
        exact H⟩ ?_
    clear H
    rintro ⟨j, rr⟩ w ⟨⟨hj, hok, hrc⟩, H⟩
    simp only [] at hj hok hrc H ⊢
    refine Br_dec (fun k1 => ?_) (fun k1 => ?_)
    · have hjl : j < lits.length := by omega
      obtain rfl := ha3 (by omega)
      obtain ⟨ob, rfl⟩ := hoa (by omega)
      have ex : lits[j]? = some (lits.getD j 0) := by rw [List.getD_eq_getElem?_getD, List.getElem?_eq_getElem hjl]; rfl
      have ex2 : (lits.take 2)[j]? = some (lits.getD j 0) := by rw [List.getElem?_take, if_pos (by omega), ex]
      have hxo := hlo _ (List.mem_of_getElem? ex)
      have hsrc := engSrc (r := rr) H hrc
      generalize lits.getD j 0 = x at *
      have hwt := watchAll_take (W := s.W) (id := s.C.length) ex2
      refine Ix_in j rfl (by omega) ?_
      refine Ld_src (j := j) hsrc (v := lV x) (by rw [List.getElem?_map, ex]; rfl) ?_
      clear hsrc
      (repeat first | refine go ?_ | ((try conv => whnf); (first | (refine St_gate ?_; refine xS ?_) | (refine StN_gate ?_; refine xN ?_)); clear H; intro w H))
      refine Draw_tree mixed (Tr.row [0, 1, 2, 3, 4, 6, 7, 8, 9, 10, 14] (.alt (.step 5 (.alt (.step 11 (Tr.row [12, 13, 15, 16, 17, 18] .done)) (.step 15 (Tr.row [11, 12, 13, 16, 17, 18] .done)))) (.step 15 (Tr.row [5, 11, 12, 13, 16, 17, 18] .done)))) (by decide +kernel) (fun w _ fd => ?_); replace H := H.fr fd; clear fd
      (repeat first | refine go ?_ | ((try conv => whnf); (first | (refine St_gate ?_; refine xS ?_) | (refine StN_gate ?_; refine xN ?_)); clear H; intro w H))
      have hWl : (watchAll s.W s.C.length (List.take j (List.take 2 lits))).length = 2 * s.n + 2 := by rw [watchAll_len]; exact hW
      have hplx := pl_lt hxo.1 hxo.2
      obtain ⟨wa', wk', hwr⟩ := hok.wat (x := x) (by simp only []; omega)
      simp only [] at hwr
      have hw6 : (wAt (watchAll s.W s.C.length (List.take j (List.take 2 lits))) x).length ≤ 2000000 := by
        have h1 := watchAll_few s.C.length hxo.1 (List.take j (List.take 2 lits)) s.W (fun y hy => by
          have := hlo y (List.mem_of_mem_take (List.mem_of_mem_take hy))
          exact ⟨this.1, by rw [hW]; exact pl_lt this.1 this.2⟩)
        have h2 := hlen x hxo.1 hxo.2
        have h3 : (List.take j (List.take 2 lits)).length ≤ 2 := by rw [List.length_take, List.length_take]; omega
        omega
      generalize hWW : watchAll s.W s.C.length (List.take j (List.take 2 lits)) = W at *
      have hpl : pl x < W.length := by omega
      have hwl : (rr.RW.map wV)[pl x]? = some (.slice wa' (wAt W x).length wk') := by rw [List.getElem?_map, hwr]; rfl
      obtain ⟨wb, hwb⟩ := (H.ownM (a := rr.wa) (hm := .tail _ (.tail _ (.tail _ (.tail _ (.head _)))))).some (by simp only []; omega)
      obtain ⟨tb, ca, cc, RC, wa, wc, RW, fa, fc, ya, yc⟩ := rr
      simp only [] at hwb hwr hwl hrc
      subst hwb
      have hplr : pl x < RW.length := (List.getElem?_eq_some_iff.1 hwr).1
      (try conv => whnf)
      refine Both_in ?ba ?bb
      case' ba =>
        ((try conv => whnf); refine Call_of (ePlace hxo.1 _) ?_; rintro _ _ ⟨rfl, rfl⟩; (try conv => whnf); (repeat (refine Kept_gate ?_; first | refine Kept_in (Sep.cellAt H mm (by rfl)) ?_ | refine Kept_in (Sep.cellAtO H mm hwl) ?_ | refine Kept_in (Sep.cellN H mm) ?_)); (try conv => whnf))
        refine Both_in ?bc ?bd
      case' bc =>
        ((try conv => whnf); refine Call_of (ePlace hxo.1 _) ?_; rintro _ _ ⟨rfl, rfl⟩; (try conv => whnf); (repeat (refine Kept_gate ?_; first | refine Kept_in (Sep.cellAt H mm (by rfl)) ?_ | refine Kept_in (Sep.cellAtO H mm hwl) ?_ | refine Kept_in (Sep.cellN H mm) ?_)); (try conv => whnf))
        (refine Ix_in (pl x) rfl hpl ?_; (try conv => whnf); refine Ld_mO H mm (v := .slice wa' (wAt W x).length wk') hwl ?_; (try conv => whnf))
        ((refine Nw_sep H ?_; clear H; intro nb2 w H; (try simp only [Value.cells, List.toList_toArray, List.append_nil, List.cons_append, List.nil_append] at H)); (try conv => whnf); (repeat (refine Kept_gate ?_; first | refine Kept_in (Sep.cellAt H mm (by rfl)) ?_ | refine Kept_in (Sep.cellAtO H mm hwl) ?_ | refine Kept_in (Sep.cellN H mm) ?_)); (try conv => whnf))
      case' bd =>
        ((refine Nw_sep H ?_; clear H; intro nb2 w H; (try simp only [Value.cells, List.toList_toArray, List.append_nil, List.cons_append, List.nil_append] at H)); (try conv => whnf); (repeat (refine Kept_gate ?_; first | refine Kept_in (Sep.cellAt H mm (by rfl)) ?_ | refine Kept_in (Sep.cellAtO H mm hwl) ?_ | refine Kept_in (Sep.cellN H mm) ?_)); (try conv => whnf))
        ((try conv => whnf); refine Call_of (ePlace hxo.1 _) ?_; rintro _ _ ⟨rfl, rfl⟩; (try conv => whnf); (repeat (refine Kept_gate ?_; first | refine Kept_in (Sep.cellAt H mm (by rfl)) ?_ | refine Kept_in (Sep.cellAtO H mm hwl) ?_ | refine Kept_in (Sep.cellN H mm) ?_)); (try conv => whnf))
        (refine Ix_in (pl x) rfl hpl ?_; (try conv => whnf); refine Ld_mO H mm (v := .slice wa' (wAt W x).length wk') hwl ?_; (try conv => whnf))
      case' bb =>
        ((refine Nw_sep H ?_; clear H; intro nb2 w H; (try simp only [Value.cells, List.toList_toArray, List.append_nil, List.cons_append, List.nil_append] at H)); (try conv => whnf); (repeat (refine Kept_gate ?_; first | refine Kept_in (Sep.cellAt H mm (by rfl)) ?_ | refine Kept_in (Sep.cellAtO H mm hwl) ?_ | refine Kept_in (Sep.cellN H mm) ?_)); (try conv => whnf))
        ((try conv => whnf); refine Call_of (ePlace hxo.1 _) ?_; rintro _ _ ⟨rfl, rfl⟩; (try conv => whnf); (repeat (refine Kept_gate ?_; first | refine Kept_in (Sep.cellAt H mm (by rfl)) ?_ | refine Kept_in (Sep.cellAtO H mm hwl) ?_ | refine Kept_in (Sep.cellN H mm) ?_)); (try conv => whnf))
        ((try conv => whnf); refine Call_of (ePlace hxo.1 _) ?_; rintro _ _ ⟨rfl, rfl⟩; (try conv => whnf); (repeat (refine Kept_gate ?_; first | refine Kept_in (Sep.cellAt H mm (by rfl)) ?_ | refine Kept_in (Sep.cellAtO H mm hwl) ?_ | refine Kept_in (Sep.cellN H mm) ?_)); (try conv => whnf))
        (refine Ix_in (pl x) rfl hpl ?_; (try conv => whnf); refine Ld_mO H mm (v := .slice wa' (wAt W x).length wk') hwl ?_; (try conv => whnf))
      all_goals
        (replace H := H.tp 6; replace H : Vc.Sep w0 w (wRx wa' wk' (wAt W x) :: _) := H.pick hwr; replace H := H.tp 2; (refine DoN_gate ?_; refine append_one tok H rfl rfl rfl rfl rfl (by decide) mm (m := 1) rfl (by simp [oneCell]) (by omega) (by unfold maxLen; omega) ?_; clear H; intro na nk w H; replace H := H _ (by repeat first | exact Upd.head | apply Upd.tail)); rw [wR_app] at H; (try conv => whnf); (repeat (refine Kept_gate ?_; first | refine Kept_in (Sep.cellAt H mm (by rfl)) ?_ | refine Kept_in (Sep.cellAtO H mm hwl) ?_ | refine Kept_in (Sep.cellN H mm) ?_)); (try conv => whnf); refine Ix_in (pl x) rfl hpl ?_; (try conv => whnf); refine St_uO H (by repeat first | exact Upd.head | apply Upd.tail) rfl (by rw [List.length_map]; omega) (wV_app (id := s.C.length)) ?_; clear H; intro w H; replace H := Sep.put (f := fun (_ : Nat) (x : Wr) => wR x) hplr H; (replace H := H.tp 5; replace H := H.tp 5; replace H := H.tp 5; replace H := H.tp 5; replace H := H.tp 5))
        (repeat first | refine go ?_ | ((try conv => whnf); (first | (refine St_gate ?_; refine xS ?_) | (refine StN_gate ?_; refine xN ?_)); clear H; intro w H))
        refine ⟨(j + 1, ⟨tb, ca, cc, RC, some ⟨wb, 0, none⟩, wc, RW.set (pl x) (na, nk, wAt W x ++ [s.C.length]), fa, fc, ya, yc⟩), ⟨congrArg some (vint (by simp)), trivial⟩, ⟨⟨by omega, ⟨hok.C, ?_⟩, hrc⟩, ?_⟩, by simp; omega⟩
        · have h2 := hok.W
          simp only [] at h2 ⊢
          rw [hwt, List.map_set, h2]; rfl
        · simp only []
          rw [hwt]
          unfold eng eP wP
          rw [wSet_len]
          exact H
    · obtain rfl : j = min 2 lits.length := by omega
      have ht : (lits.take 2).take (min 2 lits.length) = lits.take 2 := List.take_of_length_le (by rw [List.length_take]; omega)
      rw [ht] at hok H
      (repeat first | refine go ?_ | ((try conv => whnf); (first | (refine St_gate ?_; refine xS ?_) | (refine StN_gate ?_; refine xN ?_)); clear H; intro w H))
      refine Call_of (eLook H (by simp only []; exact hF) (by omega)) ?_
      clear H
      rintro _ w ⟨fa', fc', H⟩
      (repeat first | refine go ?_ | ((try conv => whnf); (first | (refine St_gate ?_; refine xS ?_) | (refine StN_gate ?_; refine xN ?_)); clear H; intro w H))
      refine Ret_in ⟨rfl, hgoal rfl ?_⟩
      unfold addP
      simp only [Bool.false_eq_true, if_false]
      exact engClose (r := { rr with fa := fa', fc := fc' }) ⟨hok.C, hok.W⟩ (H.drop 8 rfl rfl)
end
end Go.Proofs.YtcibiidebknkgaaGreat
