/- A sink and a knit in memory; their methods. -/
import Derived.Test.YtpllmfoaahaciaaKnitN
namespace Go.Proofs.Ytpllmfoaahaciaa
open Go Go.Vc Go.Gate Go.Knit
set_option linter.unusedVariables false
set_option linter.unusedSimpArgs false
set_option maxHeartbeats 4000000
set_option maxRecDepth 100000

abbrev lV (x : Int) : Value := .int .i32 x
abbrev iI (x : Int) : Value := .int .i64 x
abbrev Cl := Option Addr × Nat × List Int
def clV (x : Cl) : Value := .slice x.1 x.2.2.length x.2.1
def clR (x : Cl) : Res := ownR x.1 x.2.2.length x.2.1 38 1 (x.2.2.map lV)
theorem lits_one {xs : List Int} : ∀ u ∈ xs.map lV, oneCell u = true := by
  intro u hu
  obtain ⟨x, _, rfl⟩ := List.mem_map.1 hu
  rfl
theorem cls_one {R : List Cl} : ∀ u ∈ R.map clV, oneCell u = true := by
  intro u hu
  obtain ⟨x, _, rfl⟩ := List.mem_map.1 hu
  rfl

/-- A sink: its variables, its clauses, how many variables it has at most. -/
def sinkR (sb n : Nat) (C : List (List Int)) (most : Int) : Res := exR fun s : Option Addr × Nat × List Cl => sepR [pureR (s.2.2.map (·.2.2) = C), cellsR sb 36 [iI n, .slice s.1 C.length s.2.1, iI most],
  ownR s.1 C.length s.2.1 49 1 (s.2.2.map clV), bigR (fun _ x => clR x) s.2.2]

/-- Which gate has which variable. -/
def kmap (D : List Nat) (x : Int) : Option Value := if 0 ≤ x ∧ x.toNat ∈ D then some (iI (varOf D x.toNat)) else none
theorem kmap_get (D : List Nat) (g : Nat) : (kmap D g).getD (iI 0) = iI (varOf D g) := by
  unfold kmap
  rw [Int.toNat_natCast]
  by_cases h : g ∈ D
  · rw [if_pos ⟨by omega, h⟩]; rfl
  · rw [if_neg (fun hh => h hh.2), varOf_not h]; rfl
theorem kmap_add {D : List Nat} {g : Nat} (h : g ∉ D) : putM (kmap D) (g : Int) (iI ((D.length : Int) + 1)) = kmap (D ++ [g]) := by
  funext x
  unfold putM kmap
  by_cases hx : x = (g : Int)
  · subst hx
    rw [if_pos rfl, Int.toNat_natCast, if_pos ⟨by omega, by simp⟩, varOf_new h]; rfl
  · rw [if_neg hx]
    by_cases h0 : 0 ≤ x
    · obtain ⟨n, rfl⟩ : ∃ n : Nat, x = n := ⟨x.toNat, by omega⟩
      rw [Int.toNat_natCast]
      have hn : n ≠ g := fun e => hx (by rw [e])
      by_cases hD : n ∈ D
      · rw [if_pos ⟨h0, hD⟩, if_pos ⟨h0, List.mem_append_left _ hD⟩, varOf_old [g] hD]
      · rw [if_neg (fun hh => hD hh.2), if_neg (fun hh => by simp [hn, hD] at hh)]
    · rw [if_neg (fun hh => h0 hh.1), if_neg (fun hh => h0 hh.1)]
theorem kmap_nil : kmap [] = fun _ => none := by funext x; simp [kmap]
theorem kmap_not {D : List Nat} {g : Nat} (h : g ∉ D) : kmap D g = none := by
  unfold kmap; rw [Int.toNat_natCast, if_neg (fun hh => h hh.2)]

/-- A map, and how many it holds. -/
def mapLR {α : Type} (b : Nat) (enc : α → Value) (m : α → Option Value) (n : Nat) : Res := objP b fun o => ∃ es clock, o = .map es clock ∧ IsMap enc m es.toList ∧ es.size = n

section
variable {w0 w : World} {l : List Res} {α : Type} {enc : α → Value} {m : α → Option Value} {kt : TypeId}
theorem Sep.mapW {b n : Nat} (h : Sep w0 w (mapLR b enc m n :: l)) : Sep w0 w (mapR b enc m :: l) :=
  h.head fun S hS => ⟨hS.b_in, by obtain ⟨o, h1, h2, es, clock, h3, h4, _⟩ := hS.obj; exact ⟨o, h1, h2, es, clock, h3, h4⟩⟩
theorem Do_lookupL {P : Program} {T : Tab} (hT : TabOk P T) (K : MKey P kt fun v => ∃ a, v = enc a) {t el : TypeId} {z : Value} (h : Sep w0 w l) {b n : Nat} (hm : mapLR b enc m n ∈ l) (hd : T.d t = some (.map kt el)) (hz : T.z el = some z) (a : α) {ok : Bool} {KK : Value → World → Prop}
    (hk : KK (if ok then .tuple #[(m a).getD z, .bool (m a).isSome] else (m a).getD z) w) : Do P (Instr.lookup t (.map (some b)) (enc a) ok) w KK := by
  obtain ⟨r, hp⟩ := mem_cut hm
  exact Do_lookup hT K (Sep.mapW (h.perm hp)) (.head _) hd hz a hk
theorem DoU_mapPut {P : Program} {T : Tab} [DecidableEq α] (hi : ∀ a b, enc a = enc b → a = b) (hT : TabOk P T) (K : MKey P kt fun v => ∃ a, v = enc a) {t el : TypeId} (h : Sep w0 w l) {b n : Nat} (hm : mapLR b enc m n ∈ l) (hd : T.d t = some (.map kt el)) (a : α) (hn : m a = none) (x : Value) {KK : World → Prop}
    (hk : ∀ w', SepU w0 w' l (mapLR b enc m n) (mapLR b enc (putM m a x) (n + 1)) → KK w') : DoU P (Instr.mapUpdate t (.map (some b)) (enc a) x) w KK := by
  obtain ⟨o, ho, _, es, clock, rfl, hI, hsz⟩ := h.objM hm
  obtain ⟨r, hr, hv⟩ := findKey_V K ⟨a, rfl⟩ w (es := es.toList) hI.keys
  have hfa := hI.find a 0 r hv
  have hu := hT.und hd
  have hg : (getObj b).run P w = .ok (.map es clock) w := by simp [getObj, Sem.run, ho]
  have hc := K.check w false (v := enc a) ⟨a, rfl⟩
  have hs : ∀ o, (setObj b o).run P w = .ok () (w.putObj b o) := fun o => by
    have := (Array.getElem?_eq_some_iff.1 ho).1
    simp [setObj, Sem.run, World.putObj, ho]
  cases r with
  | none =>
    refine ⟨_, ?_, hk _ (h.putP hm (o' := .map (es.push { key := enc a, val := x, born := clock }) (clock + 1)) rfl ⟨_, _, rfl, ?_, ?_⟩)⟩
    · unfold Instr.mapUpdate
      simp [hu, hg, hc, hr, hs]
    · rw [Array.toList_push]; exact hI.push hi hfa.symm
    · rw [Array.size_push, hsz]
  | some p => rw [hn] at hfa; cases hfa
end

theorem keyI : MKey Try.prog 3 fun v => ∃ x : Int, v = iI x := MKey.int Try.underlying3
theorem iI_inj : ∀ a b : Int, iI a = iI b → a = b := by intro a b h; simpa [iI] using h

/-- A knit of a graph, into a sink. -/
def knitR (k gb sb : Nat) (D : List Nat) (C : List (List Int)) (most : Int) : Res := exR fun mb : Nat => sepR [cellsR k 72 [.pointer (some ⟨gb, 0, none⟩), .iface 31 (.pointer (some ⟨sb, 0, none⟩)), .map (some mb)],
  mapLR mb iI (kmap D) D.length, sinkR sb D.length C most]

section
variable {w0 w : World} {r : List Res} {k gb sb n : Nat} {D : List Nat} {C : List (List Int)} {most : Int}

theorem sinkOpen (H : Sep w0 w (sinkR sb n C most :: r)) : ∃ a c R, R.map (fun x : Cl => x.2.2) = C ∧ Sep w0 w (cellsR sb 36 [iI n, .slice a C.length c, iI most] :: ownR a C.length c 49 1 (R.map clV) :: bigR (fun _ x => clR x) R :: r) := by
  obtain ⟨⟨a, c, R⟩, h1⟩ := H.ex
  obtain ⟨h2, h3⟩ := Sep.prop h1.flat
  exact ⟨a, c, R, h2, h3⟩
theorem sinkClose {a : Option Addr} {c : Nat} {R : List Cl} (hR : R.map (fun x : Cl => x.2.2) = C) (H : Sep w0 w (cellsR sb 36 [iI n, .slice a C.length c, iI most] :: ownR a C.length c 49 1 (R.map clV) :: bigR (fun _ x => clR x) R :: r)) : Sep w0 w (sinkR sb n C most :: r) :=
  Sep.mk_ex (f := fun s : Option Addr × Nat × List Cl => sepR [pureR (s.2.2.map (·.2.2) = C), cellsR sb 36 [iI n, .slice s.1 C.length s.2.1, iI most],
    ownR s.1 C.length s.2.1 49 1 (s.2.2.map clV), bigR (fun _ x => clR x) s.2.2]) (a, c, R) (Sep.app (l := [_, _, _, _]) (Sep.mk_prop hR H))
theorem knitOpen (H : Sep w0 w (knitR k gb sb D C most :: r)) : ∃ mb, Sep w0 w (cellsR k 72 [.pointer (some ⟨gb, 0, none⟩), .iface 31 (.pointer (some ⟨sb, 0, none⟩)), .map (some mb)] ::
    mapLR mb iI (kmap D) D.length :: sinkR sb D.length C most :: r) := by
  obtain ⟨mb, h1⟩ := H.ex
  exact ⟨mb, h1.flat⟩
theorem knitClose {mb : Nat} (H : Sep w0 w (cellsR k 72 [.pointer (some ⟨gb, 0, none⟩), .iface 31 (.pointer (some ⟨sb, 0, none⟩)), .map (some mb)] ::
    mapLR mb iI (kmap D) D.length :: sinkR sb D.length C most :: r)) : Sep w0 w (knitR k gb sb D C most :: r) :=
  Sep.mk_ex (f := fun mb : Nat => sepR [cellsR k 72 [.pointer (some ⟨gb, 0, none⟩), .iface 31 (.pointer (some ⟨sb, 0, none⟩)), .map (some mb)], mapLR mb iI (kmap D) D.length, sinkR sb D.length C most]) mb (Sep.app (l := [_, _, _]) H)

theorem sVar (H : Sep w0 w (sinkR sb n C most :: r)) (h1 : (n : Int) < most) (h2 : n ≤ 1000000000) : Does Try.prog 59 #[.pointer (some ⟨sb, 0, none⟩)] w fun v w' => v = iI (n + 1 : Nat) ∧ Sep w0 w' (sinkR sb (n + 1) C most :: r) := by
  obtain ⟨a, c, R, hR, H⟩ := sinkOpen H
  refine Does_intro tok (Try.call59 _ _) Try.func59 rfl (by rfl) ?_
  (repeat ((try conv => whnf); first | refine Join_dup ?_ | (refine Br_gate ?_; first | with_reducible refine Br_not ?_ | refine xB ?_ | refine xC ?_) | (refine Ld_gate ?_; refine xL ?_) | (refine LdN_gate ?_; refine xM ?_) | (refine St_gate ?_; refine xS ?_; clear H; intro w H) | (refine StN_gate ?_; refine xN ?_; clear H; intro w H) | (refine Kept_gate ?_; refine xK ?_) | (refine Ar_gate ?_; first | (with_reducible refine Ar_halfU (by omega) ?_) | refine xA ?_) | (first | with_reducible refine Eqv_flip (by omega) ?_ | with_reducible refine Eqv_odd ?_ | refine Eqv_in ?_) | refine Do_ptr_eq_nil tok rfl ?_ | refine Do_ptr_ne_nil tok rfl ?_ | refine Do_nil_eq_nil tok rfl ?_ | refine Nn_in (by omega) ?_ | refine Nz_in (by omega) ?_))
  refine Draw_intro mixed [0, 1, 2, 3, 4, 5, 6, 7, 8, 9] (by decide +kernel) (fun w _ fd => ?_); replace H := H.fr fd; clear fd
  (repeat ((try conv => whnf); first | refine Join_dup ?_ | (refine Br_gate ?_; first | with_reducible refine Br_not ?_ | refine xB ?_ | refine xC ?_) | (refine Ld_gate ?_; refine xL ?_) | (refine LdN_gate ?_; refine xM ?_) | (refine St_gate ?_; refine xS ?_; clear H; intro w H) | (refine StN_gate ?_; refine xN ?_; clear H; intro w H) | (refine Kept_gate ?_; refine xK ?_) | (refine Ar_gate ?_; first | (with_reducible refine Ar_halfU (by omega) ?_) | refine xA ?_) | (first | with_reducible refine Eqv_flip (by omega) ?_ | with_reducible refine Eqv_odd ?_ | refine Eqv_in ?_) | refine Do_ptr_eq_nil tok rfl ?_ | refine Do_ptr_ne_nil tok rfl ?_ | refine Do_nil_eq_nil tok rfl ?_ | refine Nn_in (by omega) ?_ | refine Nz_in (by omega) ?_))
  have e : (n : Int) + 1 = ((n + 1 : Nat) : Int) := by omega
  rw [e] at H ⊢
  exact Ret_in ⟨rfl, sinkClose hR H⟩
theorem sVar_no (H : Sep w0 w (sinkR sb n C most :: r)) (h1 : most ≤ (n : Int)) : Does Try.prog 59 #[.pointer (some ⟨sb, 0, none⟩)] w fun v w' => v = iI 0 ∧ Sep w0 w' (sinkR sb n C most :: r) := by
  obtain ⟨a, c, R, hR, H⟩ := sinkOpen H
  refine Does_intro tok (Try.call59 _ _) Try.func59 rfl (by rfl) ?_
  (repeat ((try conv => whnf); first | refine Join_dup ?_ | (refine Br_gate ?_; first | with_reducible refine Br_not ?_ | refine xB ?_ | refine xC ?_) | (refine Ld_gate ?_; refine xL ?_) | (refine LdN_gate ?_; refine xM ?_) | (refine St_gate ?_; refine xS ?_; clear H; intro w H) | (refine StN_gate ?_; refine xN ?_; clear H; intro w H) | (refine Kept_gate ?_; refine xK ?_) | (refine Ar_gate ?_; first | (with_reducible refine Ar_halfU (by omega) ?_) | refine xA ?_) | (first | with_reducible refine Eqv_flip (by omega) ?_ | with_reducible refine Eqv_odd ?_ | refine Eqv_in ?_) | refine Do_ptr_eq_nil tok rfl ?_ | refine Do_ptr_ne_nil tok rfl ?_ | refine Do_nil_eq_nil tok rfl ?_ | refine Nn_in (by omega) ?_ | refine Nz_in (by omega) ?_))
  refine Draw_intro mixed [0, 1, 2, 3, 4, 5, 6, 7, 8, 9] (by decide +kernel) (fun w _ fd => ?_); replace H := H.fr fd; clear fd
  (repeat ((try conv => whnf); first | refine Join_dup ?_ | (refine Br_gate ?_; first | with_reducible refine Br_not ?_ | refine xB ?_ | refine xC ?_) | (refine Ld_gate ?_; refine xL ?_) | (refine LdN_gate ?_; refine xM ?_) | (refine St_gate ?_; refine xS ?_; clear H; intro w H) | (refine StN_gate ?_; refine xN ?_; clear H; intro w H) | (refine Kept_gate ?_; refine xK ?_) | (refine Ar_gate ?_; first | (with_reducible refine Ar_halfU (by omega) ?_) | refine xA ?_) | (first | with_reducible refine Eqv_flip (by omega) ?_ | with_reducible refine Eqv_odd ?_ | refine Eqv_in ?_) | refine Do_ptr_eq_nil tok rfl ?_ | refine Do_ptr_ne_nil tok rfl ?_ | refine Do_nil_eq_nil tok rfl ?_ | refine Nn_in (by omega) ?_ | refine Nz_in (by omega) ?_))
  exact Ret_in ⟨rfl, sinkClose hR H⟩

theorem sAdd (H : Sep w0 w (sinkR sb n C most :: r)) {xs : List Int} {a : Option Addr} {c : Nat} (hs : ∀ {w' : World} {l' : List Res}, Sep w0 w' (l' ++ r) → Src w' a xs.length 1 (xs.map lV)) (hm : xs.length ≤ 1000000) (hC : C.length ≤ 100000000) :
    Does Try.prog 58 #[.pointer (some ⟨sb, 0, none⟩), .slice a xs.length c] w fun v w' => v = iI 0 ∧ Sep w0 w' (sinkR sb n (C ++ [xs]) most :: r) := by
  obtain ⟨a1, c1, R, hR, H⟩ := sinkOpen H
  refine Does_intro tok (Try.call58 _ _) Try.func58 rfl (by rfl) ?_
  (repeat ((try conv => whnf); first | refine Join_dup ?_ | (refine Br_gate ?_; first | with_reducible refine Br_not ?_ | refine xB ?_ | refine xC ?_) | (refine Ld_gate ?_; refine xL ?_) | (refine LdN_gate ?_; refine xM ?_) | (refine St_gate ?_; refine xS ?_; clear H; intro w H) | (refine StN_gate ?_; refine xN ?_; clear H; intro w H) | (refine Kept_gate ?_; refine xK ?_) | (refine Ar_gate ?_; first | (with_reducible refine Ar_halfU (by omega) ?_) | refine xA ?_) | (first | with_reducible refine Eqv_flip (by omega) ?_ | with_reducible refine Eqv_odd ?_ | refine Eqv_in ?_) | refine Do_ptr_eq_nil tok rfl ?_ | refine Do_ptr_ne_nil tok rfl ?_ | refine Do_nil_eq_nil tok rfl ?_ | refine Nn_in (by omega) ?_ | refine Nz_in (by omega) ?_))
  refine Draw_intro mixed [0, 1, 2, 3, 4, 5, 7, 6, 8, 9, 10, 11, 12, 13, 14] (by decide +kernel) (fun w _ fd => ?_); replace H := H.fr fd; clear fd
  (repeat ((try conv => whnf); first | refine Join_dup ?_ | (refine Br_gate ?_; first | with_reducible refine Br_not ?_ | refine xB ?_ | refine xC ?_) | (refine Ld_gate ?_; refine xL ?_) | (refine LdN_gate ?_; refine xM ?_) | (refine St_gate ?_; refine xS ?_; clear H; intro w H) | (refine StN_gate ?_; refine xN ?_; clear H; intro w H) | (refine Kept_gate ?_; refine xK ?_) | (refine Ar_gate ?_; first | (with_reducible refine Ar_halfU (by omega) ?_) | refine xA ?_) | (first | with_reducible refine Eqv_flip (by omega) ?_ | with_reducible refine Eqv_odd ?_ | refine Eqv_in ?_) | refine Do_ptr_eq_nil tok rfl ?_ | refine Do_ptr_ne_nil tok rfl ?_ | refine Do_nil_eq_nil tok rfl ?_ | refine Nn_in (by omega) ?_ | refine Nz_in (by omega) ?_))
  (refine Nw_sep H ?_; clear H; intro eb w H; (try simp only [Value.cells, List.toList_toArray, List.append_nil, List.cons_append, List.nil_append] at H))
  (repeat ((try conv => whnf); first | refine Join_dup ?_ | (refine Br_gate ?_; first | with_reducible refine Br_not ?_ | refine xB ?_ | refine xC ?_) | (refine Ld_gate ?_; refine xL ?_) | (refine LdN_gate ?_; refine xM ?_) | (refine St_gate ?_; refine xS ?_; clear H; intro w H) | (refine StN_gate ?_; refine xN ?_; clear H; intro w H) | (refine Kept_gate ?_; refine xK ?_) | (refine Ar_gate ?_; first | (with_reducible refine Ar_halfU (by omega) ?_) | refine xA ?_) | (first | with_reducible refine Eqv_flip (by omega) ?_ | with_reducible refine Eqv_odd ?_ | refine Eqv_in ?_) | refine Do_ptr_eq_nil tok rfl ?_ | refine Do_ptr_ne_nil tok rfl ?_ | refine Do_nil_eq_nil tok rfl ?_ | refine Nn_in (by omega) ?_ | refine Nz_in (by omega) ?_))
  refine DoN_gate ?_
  refine append_new tok H rfl rfl rfl rfl rfl (by decide) (.head _) (hs (l' := [_, _, _, _]) H) lits_one (by omega) (by unfold maxLen; omega) ?_
  clear H
  intro a2 c2 w H
  replace H := H _ .head
  (repeat ((try conv => whnf); first | refine Join_dup ?_ | (refine Br_gate ?_; first | with_reducible refine Br_not ?_ | refine xB ?_ | refine xC ?_) | (refine Ld_gate ?_; refine xL ?_) | (refine LdN_gate ?_; refine xM ?_) | (refine St_gate ?_; refine xS ?_; clear H; intro w H) | (refine StN_gate ?_; refine xN ?_; clear H; intro w H) | (refine Kept_gate ?_; refine xK ?_) | (refine Ar_gate ?_; first | (with_reducible refine Ar_halfU (by omega) ?_) | refine xA ?_) | (first | with_reducible refine Eqv_flip (by omega) ?_ | with_reducible refine Eqv_odd ?_ | refine Eqv_in ?_) | refine Do_ptr_eq_nil tok rfl ?_ | refine Do_ptr_ne_nil tok rfl ?_ | refine Do_nil_eq_nil tok rfl ?_ | refine Nn_in (by omega) ?_ | refine Nz_in (by omega) ?_))
  (refine Nw_sep H ?_; clear H; intro nb w H; (try simp only [Value.cells, List.toList_toArray, List.append_nil, List.cons_append, List.nil_append] at H))
  (repeat ((try conv => whnf); first | refine Join_dup ?_ | (refine Br_gate ?_; first | with_reducible refine Br_not ?_ | refine xB ?_ | refine xC ?_) | (refine Ld_gate ?_; refine xL ?_) | (refine LdN_gate ?_; refine xM ?_) | (refine St_gate ?_; refine xS ?_; clear H; intro w H) | (refine StN_gate ?_; refine xN ?_; clear H; intro w H) | (refine Kept_gate ?_; refine xK ?_) | (refine Ar_gate ?_; first | (with_reducible refine Ar_halfU (by omega) ?_) | refine xA ?_) | (first | with_reducible refine Eqv_flip (by omega) ?_ | with_reducible refine Eqv_odd ?_ | refine Eqv_in ?_) | refine Do_ptr_eq_nil tok rfl ?_ | refine Do_ptr_ne_nil tok rfl ?_ | refine Do_nil_eq_nil tok rfl ?_ | refine Nn_in (by omega) ?_ | refine Nz_in (by omega) ?_))
  (refine DoN_gate ?_; refine append_one tok H rfl rfl rfl rfl rfl (by decide) (by repeat first | exact List.Mem.head _ | refine List.Mem.tail _ ?_) (m := 1) rfl (by simp [oneCell]) (by omega) (by unfold maxLen; omega) ?_; clear H; intro a3 c3 w H; replace H := H _ (by repeat first | exact Upd.head | apply Upd.tail))
  (repeat ((try conv => whnf); first | refine Join_dup ?_ | (refine Br_gate ?_; first | with_reducible refine Br_not ?_ | refine xB ?_ | refine xC ?_) | (refine Ld_gate ?_; refine xL ?_) | (refine LdN_gate ?_; refine xM ?_) | (refine St_gate ?_; refine xS ?_; clear H; intro w H) | (refine StN_gate ?_; refine xN ?_; clear H; intro w H) | (refine Kept_gate ?_; refine xK ?_) | (refine Ar_gate ?_; first | (with_reducible refine Ar_halfU (by omega) ?_) | refine xA ?_) | (first | with_reducible refine Eqv_flip (by omega) ?_ | with_reducible refine Eqv_odd ?_ | refine Eqv_in ?_) | refine Do_ptr_eq_nil tok rfl ?_ | refine Do_ptr_ne_nil tok rfl ?_ | refine Do_nil_eq_nil tok rfl ?_ | refine Nn_in (by omega) ?_ | refine Nz_in (by omega) ?_))
  have e1 : R.map clV ++ [Value.slice a2 xs.length c2] = (R ++ [(a2, c2, xs)]).map clV := by simp [clV]
  have e2 : C.length + 1 = (C ++ [xs]).length := by simp
  have e3 : (R ++ [(a2, c2, xs)]).map (fun x : Cl => x.2.2) = C ++ [xs] := by simp [hR]
  rw [e1, e2] at H
  refine Ret_in ⟨rfl, sinkClose (a := a3) (c := c3) e3 ?_⟩
  replace H := H.top 3 rfl (by simp only [List.eraseIdx_cons_succ, List.eraseIdx_cons_zero]; rfl)
  replace H := H.top 1 rfl (by simp only [List.eraseIdx_cons_succ, List.eraseIdx_cons_zero]; rfl)
  replace H := Sep.big_snoc (f := fun _ x => clR x) (y := (a2, c2, xs)) H
  replace H := H.top 2 rfl (by simp only [List.eraseIdx_cons_succ, List.eraseIdx_cons_zero]; rfl)
  replace H := H.top 2 rfl (by simp only [List.eraseIdx_cons_succ, List.eraseIdx_cons_zero]; rfl)
  exact H

/-! The sink's methods, called by an interface. -/
theorem iVar (v : Value) (args : Array Value) (w : World) : (callMethod (.iface 31 v) "Var" args).run Try.prog w = (callFunc 59 (#[v] ++ args)).run Try.prog w := callMethod_ptr (Try.typeInfo31 w) (by kernel_rfl) Try.underlying31
theorem iAdd (v : Value) (args : Array Value) (w : World) : (callMethod (.iface 31 v) "Add" args).run Try.prog w = (callFunc 58 (#[v] ++ args)).run Try.prog w := callMethod_ptr (Try.typeInfo31 w) (by kernel_rfl) Try.underlying31

/-- Clauses, one by one. -/
theorem kAdd (H : Sep w0 w (knitR k gb sb D C most :: r)) {cs : List Cl} {a : Option Addr} {c : Nat} (hs : ∀ {w' : World} {l' : List Res}, Sep w0 w' (l' ++ r) → Src w' a cs.length 1 (cs.map clV))
    (hc : ∀ x ∈ cs, ∀ {w' : World} {l' : List Res}, Sep w0 w' (l' ++ r) → Src w' x.1 x.2.2.length 1 (x.2.2.map lV)) (hm : ∀ x ∈ cs, x.2.2.length ≤ 1000000) (hC : C.length + cs.length ≤ 100000000) :
    Does Try.prog 26 #[.pointer (some ⟨k, 0, none⟩), .slice a cs.length c] w fun v w' => v = iI 0 ∧ Sep w0 w' (knitR k gb sb D (C ++ cs.map (·.2.2)) most :: r) := by
  refine Does_intro tok (Try.call26 _ _) Try.func26 rfl (by rfl) ?_
  refine Loop_intro (fun i : Nat => [(9, .int .i64 (i : Int))]) (fun i w => i ≤ cs.length ∧ Sep w0 w (knitR k gb sb D (C ++ (cs.take i).map (·.2.2)) most :: r)) (fun i => cs.length - i) 0 ⟨rfl, trivial⟩ ⟨Nat.zero_le _, by simpa using H⟩ ?_
  clear H
  rintro i w ⟨hi, H⟩
  simp only [] at hi H ⊢
  refine Br_dec (fun k1 => ?_) (fun k1 => ?_)
  · have hlt : i < cs.length := by omega
    have hsrc := hs (l' := [_]) H
    obtain ⟨cb, co, rfl⟩ := hsrc.addr (by rw [List.length_map]; omega)
    have hx : cs[i]? = some cs[i] := List.getElem?_eq_getElem hlt
    have hxm := List.getElem_mem hlt
    generalize cs[i] = x at *
    obtain ⟨xa, xc, xs⟩ := x
    have hxs : ∀ {w' : World} {l' : List Res}, Sep w0 w' (l' ++ r) → Src w' xa xs.length 1 (xs.map lV) := fun h => hc _ hxm h
    have hxl := hm _ hxm
    simp only [] at hxl
    have e1 : C ++ (cs.take (i + 1)).map (·.2.2) = C ++ (cs.take i).map (·.2.2) ++ [xs] := by rw [List.take_add_one, hx]; simp
    refine Ix_in i rfl hlt ?_
    refine Ld_src (j := i) hsrc (v := clV (xa, xc, xs)) (by rw [List.getElem?_map, hx]; rfl) ?_
    clear hsrc
    obtain ⟨mb, H⟩ := knitOpen H
    unfold clV
    (repeat ((try conv => whnf); first | refine Join_dup ?_ | (refine Br_gate ?_; first | with_reducible refine Br_not ?_ | refine xB ?_ | refine xC ?_) | (refine Ld_gate ?_; refine xL ?_) | (refine LdN_gate ?_; refine xM ?_) | (refine St_gate ?_; refine xS ?_; clear H; intro w H) | (refine StN_gate ?_; refine xN ?_; clear H; intro w H) | (refine Kept_gate ?_; refine xK ?_) | (refine Ar_gate ?_; first | (with_reducible refine Ar_halfU (by omega) ?_) | refine xA ?_) | (first | with_reducible refine Eqv_flip (by omega) ?_ | with_reducible refine Eqv_odd ?_ | refine Eqv_in ?_) | refine Do_ptr_eq_nil tok rfl ?_ | refine Do_ptr_ne_nil tok rfl ?_ | refine Do_nil_eq_nil tok rfl ?_ | refine Nn_in (by omega) ?_ | refine Nz_in (by omega) ?_))
    replace H := H.top 2 rfl (by simp only [List.eraseIdx_cons_succ, List.eraseIdx_cons_zero]; rfl)
    refine DoN_method (iAdd _ _ _) (sAdd H (xs := xs) (fun {w' l'} h => hxs (l' := l' ++ [_, _]) (by simpa using h)) hxl (by simp; omega)) ?_
    clear H
    rintro _ w ⟨rfl, H⟩
    replace H := H.top 2 rfl (by simp only [List.eraseIdx_cons_succ, List.eraseIdx_cons_zero]; rfl)
    replace H := H.top 2 rfl (by simp only [List.eraseIdx_cons_succ, List.eraseIdx_cons_zero]; rfl)
    replace H := knitClose H
    rw [← e1] at H
    (repeat ((try conv => whnf); first | refine Join_dup ?_ | (refine Br_gate ?_; first | with_reducible refine Br_not ?_ | refine xB ?_ | refine xC ?_) | (refine Ld_gate ?_; refine xL ?_) | (refine LdN_gate ?_; refine xM ?_) | (refine St_gate ?_; refine xS ?_; clear H; intro w H) | (refine StN_gate ?_; refine xN ?_; clear H; intro w H) | (refine Kept_gate ?_; refine xK ?_) | (refine Ar_gate ?_; first | (with_reducible refine Ar_halfU (by omega) ?_) | refine xA ?_) | (first | with_reducible refine Eqv_flip (by omega) ?_ | with_reducible refine Eqv_odd ?_ | refine Eqv_in ?_) | refine Do_ptr_eq_nil tok rfl ?_ | refine Do_ptr_ne_nil tok rfl ?_ | refine Do_nil_eq_nil tok rfl ?_ | refine Nn_in (by omega) ?_ | refine Nz_in (by omega) ?_))
    exact ⟨i + 1, ⟨congrArg some (vint (by omega)), trivial⟩, ⟨by omega, H⟩, by omega⟩
  · obtain rfl : i = cs.length := by omega
    rw [List.take_length] at H
    (repeat ((try conv => whnf); first | refine Join_dup ?_ | (refine Br_gate ?_; first | with_reducible refine Br_not ?_ | refine xB ?_ | refine xC ?_) | (refine Ld_gate ?_; refine xL ?_) | (refine LdN_gate ?_; refine xM ?_) | (refine St_gate ?_; refine xS ?_; clear H; intro w H) | (refine StN_gate ?_; refine xN ?_; clear H; intro w H) | (refine Kept_gate ?_; refine xK ?_) | (refine Ar_gate ?_; first | (with_reducible refine Ar_halfU (by omega) ?_) | refine xA ?_) | (first | with_reducible refine Eqv_flip (by omega) ?_ | with_reducible refine Eqv_odd ?_ | refine Eqv_in ?_) | refine Do_ptr_eq_nil tok rfl ?_ | refine Do_ptr_ne_nil tok rfl ?_ | refine Do_nil_eq_nil tok rfl ?_ | refine Nn_in (by omega) ?_ | refine Nz_in (by omega) ?_))
    exact Ret_in ⟨rfl, H⟩
end
end Go.Proofs.Ytpllmfoaahaciaa
