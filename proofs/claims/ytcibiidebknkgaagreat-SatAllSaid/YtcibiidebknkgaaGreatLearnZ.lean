/- What is needless is left out: the walk. -/
import Derived.Test.YtcibiidebknkgaaGreatLearnY
import Derived.Test.YtcibiidebknkgaaGreatLearnS
set_option linter.unusedVariables false
set_option linter.unusedSimpArgs false
namespace Go.Proofs.YtcibiidebknkgaaGreat
open Go Go.Vc Go.Watch Go.Lit
open Go.Trail (Ent value find upto okLit litsV)
set_option maxHeartbeats 4000000
set_option maxRecDepth 100000

theorem litDeleteGIx {w0 w : World} {a : Option Addr} {cap : Nat} {xs : List Int} {γ : Type} {Rr : γ → List Res} {Iv : γ → List Int → List Int → Prop} {g0 : γ}
    (H : Sep w0 w (ownR a xs.length cap 29 1 (xs.map lV) :: Rr g0)) (h0 : Iv g0 [] xs) {k : FuncId} {c1 c2 : Value} (hm : xs.length ≤ 1000000000)
    (hf : ∀ {w' : World} {ys : List Value} {g : γ} {K r : List Int} {x : Int}, Iv g K (x :: r) → Sep w0 w' (ownR a xs.length cap 29 1 ys :: Rr g) → Does Tryz.prog k #[lV x, c1, c2] w' fun v w'' => ∃ (b : Bool) (g' : γ), v = .bool b ∧ Sep w0 w'' (ownR a xs.length cap 29 1 ys :: Rr g') ∧ Iv g' (if b then K else K ++ [x]) r) :
    Does Tryz.prog 68 #[.slice a xs.length cap, .func (.func k) #[] #[c1, c2]] w fun v w' =>
      ∃ g', Sep w0 w' (ownR a xs.length cap 29 1 (xs.map lV) :: Rr g') ∧ ((v = .int .i64 (-1) ∧ Iv g' xs []) ∨ ∃ i, i < xs.length ∧ v = .int .i64 (i : Int) ∧ Iv g' (xs.take i) (xs.drop (i + 1))) := by
  refine Does_intro tok (Tryz.call68 _ _) Tryz.func68 rfl (by rfl) ?_
  refine Loop_intro (fun q : Nat × γ => [(8, .int .i64 (q.1 : Int))]) (fun q w' => q.1 ≤ xs.length ∧ Iv q.2 (xs.take q.1) (xs.drop q.1) ∧ Sep w0 w' (ownR a xs.length cap 29 1 (xs.map lV) :: Rr q.2)) (fun q => xs.length - q.1) (0, g0) ⟨rfl, trivial⟩ ⟨Nat.zero_le _, h0, H⟩ ?_
  clear H
  rintro ⟨i, g⟩ w ⟨hi, hI, H⟩
  simp only [] at hi hI H ⊢
  refine Br_dec (fun k1 => ?_) (fun k1 => ?_)
  · have hlt : i < xs.length := by omega
    have hs1 := H.srcM (.head _)
    obtain ⟨b, o, rfl⟩ := hs1.addr (by rw [List.length_map]; omega)
    refine Ix_in i rfl hlt ?_
    have hx : xs[i]? = some xs[i] := List.getElem?_eq_getElem hlt
    refine Ld_src (j := i) hs1 (v := lV xs[i]) (by rw [List.getElem?_map, hx]; rfl) ?_
    (repeat first | refine go ?_ | ((try conv => whnf); (first | (refine St_gate ?_; refine xS ?_) | (refine StN_gate ?_; refine xN ?_)); clear H; intro w H))
    have hdr : xs.drop i = xs[i] :: xs.drop (i + 1) := List.drop_eq_getElem_cons hlt
    rw [hdr] at hI
    refine Call_of (hf hI H) ?_
    clear hs1 H
    rintro _ w ⟨b, g', rfl, H, hI2⟩
    refine Br_if (fun hp => ?_) (fun hp => ?_)
    · subst hp
      exact Ret_in ⟨g', H, .inr ⟨i, hlt, rfl, hI2⟩⟩
    · subst hp
      (repeat first | refine go ?_ | ((try conv => whnf); (first | (refine St_gate ?_; refine xS ?_) | (refine StN_gate ?_; refine xN ?_)); clear H; intro w H))
      refine ⟨(i + 1, g'), ⟨congrArg some (vint (by simp)), trivial⟩, ⟨by omega, ?_, H⟩, by simp; omega⟩
      simp only []
      rw [List.take_add_one, hx]
      exact hI2
  · obtain rfl : i = xs.length := by omega
    rw [List.take_length, List.drop_length] at hI
    exact Ret_in ⟨g, H, .inl ⟨rfl, hI⟩⟩

theorem litDeleteG {w0 w : World} {a : Option Addr} {n cap : Nat} {xs : List Int} {γ : Type} {Rr : γ → List Res} {Iv : γ → List Int → List Int → Prop} {g0 : γ}
    (H : Sep w0 w (ownR a n cap 29 1 (xs.map lV) :: Rr g0)) (h0 : Iv g0 [] xs) {k : FuncId} {c1 c2 : Value} (hmax : n ≤ 1000000000)
    (hf : ∀ {w' : World} {ys : List Value} {g : γ} {K r : List Int} {x : Int}, Iv g K (x :: r) → Sep w0 w' (ownR a n cap 29 1 ys :: Rr g) → Does Tryz.prog k #[lV x, c1, c2] w' fun v w'' => ∃ (b : Bool) (g' : γ), v = .bool b ∧ Sep w0 w'' (ownR a n cap 29 1 ys :: Rr g') ∧ Iv g' (if b then K else K ++ [x]) r) :
    Does Tryz.prog 128 #[.slice a n cap, .func (.func k) #[] #[c1, c2]] w fun v w' =>
      ∃ g' zs, v = .slice a (zs : List Int).length cap ∧ Sep w0 w' (ownR a zs.length cap 29 1 (zs.map lV) :: Rr g') ∧ Iv g' zs [] := by
  have hO := H.ownM (.head _)
  have hlen : xs.length = n := by have := hO.1; simpa using this
  have hcap := hO.2.1
  subst hlen
  refine Does_intro tok (Tryz.call128 _ _) Tryz.func128 rfl (by rfl) ?_
  (repeat first | refine go ?_ | ((try conv => whnf); (first | (refine St_gate ?_; refine xS ?_) | (refine StN_gate ?_; refine xN ?_)); clear H; intro w H))
  refine Call_of (litDeleteGIx H h0 hmax hf) ?_
  clear H h0 g0
  rintro _ w ⟨g0, H, ⟨rfl, hI⟩ | ⟨i0, hi0, rfl, hI⟩⟩
  · (repeat first | refine go ?_ | ((try conv => whnf); (first | (refine St_gate ?_; refine xS ?_) | (refine StN_gate ?_; refine xN ?_)); clear H; intro w H))
    exact Ret_in ⟨g0, xs, rfl, H, hI⟩
  · obtain ⟨b, rfl⟩ := hO.some (by omega)
    (repeat first | refine go ?_ | ((try conv => whnf); (first | (refine St_gate ?_; refine xS ?_) | (refine StN_gate ?_; refine xN ?_)); clear H; intro w H))
    refine Loop_intro (fun s : Nat × List Int × List Value × γ => [(6, .int .i64 (s.1 : Int)), (5, .int .i64 (s.2.1.length : Int))])
      (fun s w => s.1 ≤ xs.length ∧ s.2.2.1.length = xs.length ∧ s.2.2.1.take s.2.1.length = s.2.1.map lV ∧ s.2.2.1.drop s.1 = (xs.map lV).drop s.1 ∧ s.2.1.length < s.1 ∧ Iv s.2.2.2 s.2.1 (xs.drop s.1) ∧
        Sep w0 w (ownR (some ⟨b, 0, none⟩) xs.length cap 29 1 s.2.2.1 :: Rr s.2.2.2)) (fun s => xs.length - s.1) (i0 + 1, xs.take i0, xs.map lV, g0) ⟨?_, ?_, trivial⟩ ⟨by simp only []; omega, by simp, ?_, rfl, ?_, hI, H⟩ ?_
    · exact congrArg some (vint (by simp))
    · simp only []
      rw [List.length_take]
      exact congrArg some (vint (by omega))
    · simp only []
      rw [List.length_take, Nat.min_eq_left (by omega), List.map_take]
    · simp only []
      rw [List.length_take]; omega
    clear H hI
    rintro ⟨j, zs, ys, g⟩ w ⟨hj, hyl, htk, hdr, hlt, hI, H⟩
    simp only [] at hj hyl htk hdr hlt hI H ⊢
    refine Br_dec (fun k1 => ?_) (fun k1 => ?_)
    · have hjl : j < xs.length := by omega
      have hxj : xs[j]? = some xs[j] := List.getElem?_eq_getElem hjl
      have hyj : ys[j]? = some (lV xs[j]) := by
        have : (ys.drop j)[0]? = ((xs.map lV).drop j)[0]? := by rw [hdr]
        rw [List.getElem?_drop, List.getElem?_drop, Nat.add_zero, List.getElem?_map, hxj] at this
        exact this
      (repeat first | refine go ?_ | ((try conv => whnf); (first | (refine St_gate ?_; refine xS ?_) | (refine StN_gate ?_; refine xN ?_)); clear H; intro w H))
      refine Ix_in j rfl hjl ?_
      refine Ld_mO H (.head _) hyj ?_
      (repeat first | refine go ?_ | ((try conv => whnf); (first | (refine St_gate ?_; refine xS ?_) | (refine StN_gate ?_; refine xN ?_)); clear H; intro w H))
      have hdx : xs.drop j = xs[j] :: xs.drop (j + 1) := List.drop_eq_getElem_cons hjl
      rw [hdx] at hI
      refine Call_of (hf hI H) ?_
      clear H
      rintro _ w ⟨bb, g', rfl, H, hI2⟩
      have hdr2 : ys.drop (j + 1) = (xs.map lV).drop (j + 1) := by
        have := congrArg (List.drop 1) hdr
        rw [List.drop_drop, List.drop_drop] at this
        exact this
      cases bb with
      | true =>
        (repeat first | refine go ?_ | ((try conv => whnf); (first | (refine St_gate ?_; refine xS ?_) | (refine StN_gate ?_; refine xN ?_)); clear H; intro w H))
        refine ⟨(j + 1, zs, ys, g'), ⟨congrArg some (vint (by simp)), congrArg some (vint rfl), trivial⟩, ⟨by omega, hyl, htk, hdr2, by simp only []; omega, hI2, H⟩, by simp; omega⟩
      | false =>
        (repeat first | refine go ?_ | ((try conv => whnf); (first | (refine St_gate ?_; refine xS ?_) | (refine StN_gate ?_; refine xN ?_)); clear H; intro w H))
        refine Ix_in zs.length rfl (by omega) ?_
        refine St_uO H .head rfl (by omega) rfl ?_
        clear H; intro w H
        (repeat first | refine go ?_ | ((try conv => whnf); (first | (refine St_gate ?_; refine xS ?_) | (refine StN_gate ?_; refine xN ?_)); clear H; intro w H))
        refine ⟨(j + 1, zs ++ [xs[j]], ys.set zs.length (lV xs[j]), g'), ⟨congrArg some (vint (by simp)), congrArg some (vint (by simp)), trivial⟩, ⟨by omega, by simpa using hyl, ?_, ?_, by simp; omega, hI2, H⟩, by simp; omega⟩
        · simp only []
          rw [List.length_append, List.length_singleton, List.map_append, ← htk, List.take_add_one, List.getElem?_set_self (by omega), List.take_set_of_le (by omega)]
          rfl
        · simp only []
          rw [List.drop_set_of_lt (by omega)]
          exact hdr2
    · obtain rfl : j = xs.length := by omega
      rw [List.drop_length] at hI
      (repeat first | refine go ?_ | ((try conv => whnf); (first | (refine St_gate ?_; refine xS ?_) | (refine StN_gate ?_; refine xN ?_)); clear H; intro w H))
      refine Do_slice tok rfl rfl zs.length xs.length (.inr ⟨_, rfl⟩) (.inl ⟨rfl, rfl⟩) (by omega) (by omega) ?_
      rw [sliceAddr (by omega)]
      (repeat first | refine go ?_ | ((try conv => whnf); (first | (refine St_gate ?_; refine xS ?_) | (refine StN_gate ?_; refine xN ?_)); clear H; intro w H))
      refine DoN_clear H (.head _) hlt rfl rfl rfl ?_
      clear H
      intro w H
      replace H := H _ .head
      rw [htk] at H
      (repeat first | refine go ?_ | ((try conv => whnf); (first | (refine St_gate ?_; refine xS ?_) | (refine StN_gate ?_; refine xN ?_)); clear H; intro w H))
      refine Do_slice tok rfl rfl 0 zs.length (.inl ⟨rfl, rfl⟩) (.inr ⟨_, rfl⟩) (by omega) (by omega) ?_
      rw [add_zero_map]
      (repeat first | refine go ?_ | ((try conv => whnf); (first | (refine St_gate ?_; refine xS ?_) | (refine StN_gate ?_; refine xN ?_)); clear H; intro w H))
      exact Ret_in ⟨g, zs, rfl, H, hI⟩


section
variable {w0 w : World} {l : List Res} {eb : Nat} {s : St} {S : Nat → Prop} {top x0 : Int} {R0 : List Int} {c0 : List Int}
theorem seenM_congr {E : List Ent} {T R T' R' : List Int} (h : ∀ x, x ∈ T ++ R ↔ x ∈ T' ++ R') : seenM E T R = seenM E T' R' := by
  funext v
  unfold seenM
  have : (∃ x ∈ T ++ R, (Trail.var x : Int) = v) ↔ ∃ x ∈ T' ++ R', (Trail.var x : Int) = v := ⟨fun ⟨x, hx, hv⟩ => ⟨x, (h x).1 hx, hv⟩, fun ⟨x, hx, hv⟩ => ⟨x, (h x).2 hx, hv⟩⟩
  by_cases h1 : ∃ x ∈ T ++ R, (Trail.var x : Int) = v
  · rw [if_pos h1, if_pos (this.1 h1)]
  · rw [if_neg h1, if_neg (fun h2 => h1 (this.2 h2))]
/-- What the round has so far. -/
structure Rd where
  flag : Bool
  Z : List Int
  M : Nat → Prop
  n : Nat
structure RdI (s : St) (c0 : List Int) (top x0 : Int) (R0 : List Int) (g : Rd) (K r : List Int) : Prop where
  eq : g.Z = K ++ r
  ok : Sho s c0 top x0 (K ++ r) g.M
  no : g.flag = false → K ++ r = R0 ∧ ∀ y ∈ K, needB s [x0] (K ++ r) y = false
  yes : g.flag = true → (K ++ r).length < R0.length
abbrev rdL (eb : Nat) (s : St) (sb mb qs qa : Nat) (x0 : Int) (v2 v3 v4 : Value) (l : List Res) (g : Rd) : List Res :=
  engR eb s :: cellsR sb 150 [.pointer (some ⟨eb, 0, none⟩), .map (some mb), v2, v3, v4] :: mapD mb iI (seenM s.E [x0] g.Z) g.n :: cellsR qs 148 [.pointer (some ⟨sb, 0, none⟩)] :: cellsR qa 4 [.bool g.flag] :: l

theorem lShort2 {a : Option Addr} {n cap sb mb qs qa : Nat} {ys : List Value} {v2 v3 v4 : Value} {g : Rd} {K r : List Int} {x : Int} (hI : RdI s c0 top x0 R0 g K (x :: r))
    (H : Sep w0 w (ownR a n cap 29 1 ys :: rdL eb s sb mb qs qa x0 v2 v3 v4 l g)) (hg : Watch.Good S s) (hlits : ∀ c ∈ s.C, c.lits.length ≤ 1000000) (hC : s.C.length ≤ 1048576) :
    Does Tryz.prog 129 #[lV x, .pointer (some ⟨qs, 0, none⟩), .pointer (some ⟨qa, 0, none⟩)] w fun v w' => ∃ (b : Bool) (g' : Rd), v = .bool b ∧ Sep w0 w' (ownR a n cap 29 1 ys :: rdL eb s sb mb qs qa x0 v2 v3 v4 l g') ∧ RdI s c0 top x0 R0 g' (if b then K else K ++ [x]) r := by
  refine Does_intro tok (Tryz.call129 _ _) Tryz.func129 rfl (by rfl) ?_
  obtain ⟨flag, Z, M, mn⟩ := g
  obtain ⟨h1, h2, h3, h4⟩ := hI
  simp only [] at h1 h2 h3 h4
  subst h1
  have ht : tru s.E (-x) := h2.ok.fls x (by simp)
  (repeat first | refine go ?_ | ((try conv => whnf); (first | (refine St_gate ?_; refine xS ?_) | (refine StN_gate ?_; refine xN ?_)); clear H; intro w H))
  replace H := H.tp 1
  refine Call_of (lNeedless (T := [x0]) (R := K ++ x :: r) H mm mm hg hlits hC ht) ?_
  clear H
  rintro _ w ⟨rfl, H⟩
  cases hn : needB s [x0] (K ++ x :: r) x with
  | false =>
    (repeat first | refine go ?_ | ((try conv => whnf); (first | (refine St_gate ?_; refine xS ?_) | (refine StN_gate ?_; refine xN ?_)); clear H; intro w H))
    replace H := H.tp 1
    have e : K ++ x :: r = (K ++ [x]) ++ r := by simp
    refine Ret_in ⟨false, ⟨flag, K ++ x :: r, M, mn⟩, rfl, H, ?_⟩
    rw [if_neg Bool.false_ne_true]
    refine ⟨e, e ▸ h2, fun hf => ?_, fun hf => e ▸ h4 hf⟩
    obtain ⟨a1, a2⟩ := h3 hf
    refine ⟨by rw [← e]; exact a1, fun y hy => ?_⟩
    rw [← e]
    rw [List.mem_append, List.mem_singleton] at hy
    rcases hy with hy | rfl
    · exact a2 y hy
    · exact hn
  | true =>
    have hd := h2.drop hg hn
    have hlen : (K ++ r).length + 1 = (K ++ x :: r).length := by simp; omega
    have hno : ∀ y ∈ [x0] ++ (K ++ r), Trail.var y ≠ Trail.var x := by
      have ho := h2.ok.once
      have hp : ([x0] ++ (K ++ x :: r)).Perm (x :: ([x0] ++ (K ++ r))) := by
        rw [← List.append_assoc, ← List.append_assoc]
        exact List.perm_middle
      have ho2 := (hp.pairwise_iff (fun h => h.symm)).1 ho
      rw [List.pairwise_cons] at ho2
      exact fun y hy e => ho2.1 y hy e.symm
    (repeat first | refine go ?_ | ((try conv => whnf); (first | (refine St_gate ?_; refine xS ?_) | (refine StN_gate ?_; refine xN ?_)); clear H; intro w H))
    refine Draw_intro mixed [0, 1, 2, 3, 4, 5, 6] (by decide +kernel) (fun w _ fd => ?_); replace H := H.fr fd; clear fd
    (repeat first | refine go ?_ | ((try conv => whnf); (first | (refine St_gate ?_; refine xS ?_) | (refine StN_gate ?_; refine xN ?_)); clear H; intro w H))
    refine Call_of (fVar (x := x) _) ?_
    rintro _ _ ⟨rfl, rfl⟩
    rw [var_var]
    (repeat first | refine go ?_ | ((try conv => whnf); (first | (refine St_gate ?_; refine xS ?_) | (refine StN_gate ?_; refine xN ?_)); clear H; intro w H))
    (repeat (refine Kept_gate ?_; refine xK ?_))
    (repeat first | refine go ?_ | ((try conv => whnf); (first | (refine St_gate ?_; refine xS ?_) | (refine StN_gate ?_; refine xN ?_)); clear H; intro w H))
    refine DoN_delD iI_inj tok keyI rfl H mm rfl (Trail.var x : Int) ?_
    clear H
    intro w H
    replace H := H _ (by repeat first | exact Upd.head | apply Upd.tail)
    obtain ⟨n2, hn2⟩ : ∃ n2, (if (seenM s.E [x0] (K ++ x :: r) (Trail.var x : Int)).isSome = true then mn - 1 else mn) = n2 := ⟨_, rfl⟩
    rw [hn2, seenM_del (T' := [x0]) (R' := K ++ r) (by
      intro y
      constructor
      · intro hy
        refine ⟨?_, hno y hy⟩
        simp only [List.mem_append, List.mem_cons] at hy ⊢
        rcases hy with hy | hy | hy
        · exact .inl hy
        · exact .inr (.inl hy)
        · exact .inr (.inr (.inr hy))
      · rintro ⟨hy, hv⟩
        simp only [List.mem_append, List.mem_cons] at hy ⊢
        rcases hy with hy | hy | rfl | hy
        · exact .inl hy
        · exact .inr (.inl hy)
        · exact (hv rfl).elim
        · exact .inr (.inr hy))] at H
    (repeat first | refine go ?_ | ((try conv => whnf); (first | (refine St_gate ?_; refine xS ?_) | (refine StN_gate ?_; refine xN ?_)); clear H; intro w H))
    replace H := H.tp 1
    refine Ret_in ⟨true, ⟨true, K ++ r, fun v => M v ∨ v = Trail.var x, n2⟩, rfl, H, ?_⟩
    rw [if_pos rfl]
    refine ⟨rfl, hd, fun hf => (by cases hf), fun _ => ?_⟩
    cases hfl : flag with
    | false => have := (h3 hfl).1; rw [← this]; omega
    | true => have := h4 hfl; omega

theorem lShorten {p : Spot} {M : Nat → Prop} {R : List Int} (H : Sep w0 w (engR eb s :: stu p eb s.E top [x0] R l)) (hg : Watch.Good S s) (hs : Sho s c0 top x0 R M) (hlits : ∀ c ∈ s.C, c.lits.length ≤ 1000000) (hC : s.C.length ≤ 1048576) :
    Does Tryz.prog 100 #[.pointer (some ⟨p.sb, 0, none⟩)] w fun v w' => v = .tuple #[] ∧ ∃ R' M' p', Sho s c0 top x0 R' M' ∧ (∀ y ∈ R', needB s [x0] R' y = false) ∧ p'.sb = p.sb ∧ p'.mb = p.mb ∧
      Sep w0 w' (engR eb s :: stu p' eb s.E top [x0] R' l) := by
  have hdl := hg.deepLe
  have few := hs.ok.few hg
  have hn := hg.inv.vars
  rw [List.length_append] at few
  refine Does_intro tok (Tryz.call100 _ _) Tryz.func100 rfl (by rfl) ?_
  obtain ⟨sb, mb, n, ra, rc⟩ := p
  (repeat first | refine go ?_ | ((try conv => whnf); (first | (refine St_gate ?_; refine xS ?_) | (refine StN_gate ?_; refine xN ?_)); clear H; intro w H))
  (refine Nw_sep H ?_; clear H; intro qs w H; (try simp only [Value.cells, List.toList_toArray, List.append_nil, List.cons_append, List.nil_append] at H))
  (repeat first | refine go ?_ | ((try conv => whnf); (first | (refine St_gate ?_; refine xS ?_) | (refine StN_gate ?_; refine xN ?_)); clear H; intro w H))
  refine Nw_mapD (enc := iI) H ?_
  clear H
  intro pb w H
  (repeat first | refine go ?_ | ((try conv => whnf); (first | (refine St_gate ?_; refine xS ?_) | (refine StN_gate ?_; refine xN ?_)); clear H; intro w H))
  (refine Nw_sep H ?_; clear H; intro qm w H; (try simp only [Value.cells, List.toList_toArray, List.append_nil, List.cons_append, List.nil_append] at H))
  (repeat first | refine go ?_ | ((try conv => whnf); (first | (refine St_gate ?_; refine xS ?_) | (refine StN_gate ?_; refine xN ?_)); clear H; intro w H))
  replace H := H.tp 3
  refine Call_of (eTrue2 H (by omega)) ?_
  clear H
  rintro _ w ⟨ta, tc, rfl, H⟩
  have hll := litL_len s
  have hlo : ∀ x ∈ litL s, okLit x = true := fun x hx => by
    obtain ⟨e, he, rfl⟩ := (litL_mem x).1 hx
    exact (hg.inv.ok e he).1
  generalize hnn : litL s = L at H hll hlo ⊢
  (repeat first | refine go ?_ | ((try conv => whnf); (first | (refine St_gate ?_; refine xS ?_) | (refine StN_gate ?_; refine xN ?_)); clear H; intro w H))
  replace H := H.tp 4
  replace H := H.tp 3
  replace H := H.tp 4
  replace H := H.tp 3
  replace H := H.tp 7
  replace H := H.tp 7
  replace H := H.tp 7
  replace H := H.tp 7
  rw [plM_nil] at H
  replace H : Vc.Sep w0 w (engR eb s :: stu ⟨sb, mb, n, ra, rc⟩ eb s.E top [x0] R (ownR ta L.length tc 29 1 (L.map lV) :: mapD pb iI (plM fun _ => none) 0 :: cellsR qm 127 [.map (some pb)] :: cellsR qs 148 [.pointer (some ⟨sb, 0, none⟩)] :: l)) := H
  refine Loop_intro (fun q : Nat × (Int → Option Int) × Nat => [(13, .int .i64 (q.1 : Int))]) (fun q w => q.1 ≤ L.length ∧ Sep w0 w (engR eb s :: stu ⟨sb, mb, n, ra, rc⟩ eb s.E top [x0] R (ownR ta L.length tc 29 1 (L.map lV) :: mapD pb iI (plM q.2.1) q.2.2 :: cellsR qm 127 [.map (some pb)] :: cellsR qs 148 [.pointer (some ⟨sb, 0, none⟩)] :: l))) (fun q => L.length - q.1)
    (0, (fun _ => none), 0) ⟨rfl, trivial⟩ ⟨Nat.zero_le _, H⟩ ?_
  clear H
  rintro ⟨i, pm, pn⟩ w ⟨hi, H⟩
  simp only [] at hi H ⊢
  refine Br_dec (fun k1 => ?_) (fun k1 => ?_)
  · have hlt : i < L.length := by omega
    have hsrc := H.srcM (a := ta) (n := L.length) (cap := tc) (el := 29) (sz := 1) (xs := L.map lV) mm
    obtain ⟨yb, yo, rfl⟩ := hsrc.addr (by rw [List.length_map]; omega)
    have hyi : L[i]? = some L[i] := List.getElem?_eq_getElem hlt
    generalize L[i] = y at *
    refine Ix_in i rfl hlt ?_
    refine Ld_src (j := i) hsrc (v := lV y) (by rw [List.getElem?_map, hyi]; rfl) ?_
    clear hsrc
    (repeat first | refine go ?_ | ((try conv => whnf); (first | (refine St_gate ?_; refine xS ?_) | (refine StN_gate ?_; refine xN ?_)); clear H; intro w H))
    refine Draw_intro mixed [0, 1, 3, 2, 4] (by decide +kernel) (fun w _ fd => ?_); replace H := H.fr fd; clear fd
    (repeat first | refine go ?_ | ((try conv => whnf); (first | (refine St_gate ?_; refine xS ?_) | (refine StN_gate ?_; refine xN ?_)); clear H; intro w H))
    refine Call_of (fVar (x := y) _) ?_
    rintro _ _ ⟨rfl, rfl⟩
    rw [var_var]
    (try conv => whnf)
    (repeat (refine Kept_gate ?_; refine xK ?_))
    (repeat first | refine go ?_ | ((try conv => whnf); (first | (refine St_gate ?_; refine xS ?_) | (refine StN_gate ?_; refine xN ?_)); clear H; intro w H))
    refine DoU_putD iI_inj tok keyI H mm rfl (Trail.var y : Int) (iI i) ?_
    clear H
    intro w H
    replace H := H _ (by repeat first | exact Upd.head | apply Upd.tail)
    rw [plM_put] at H
    (repeat first | refine go ?_ | ((try conv => whnf); (first | (refine St_gate ?_; refine xS ?_) | (refine StN_gate ?_; refine xN ?_)); clear H; intro w H))
    exact ⟨(i + 1, _, _), ⟨congrArg some (vint (by simp)), trivial⟩, ⟨by omega, H⟩, by simp; omega⟩
  obtain rfl : i = L.length := by omega
  clear hi k1
  (repeat first | refine go ?_ | ((try conv => whnf); (first | (refine St_gate ?_; refine xS ?_) | (refine StN_gate ?_; refine xN ?_)); clear H; intro w H))
  replace H := H.tp 5
  replace H := H.tp 6
  replace H := H.tp 5
  have hone : ∀ x ∈ R, Lit.one x = true := fun x hx => by
    obtain ⟨e, he, hel⟩ := hs.ok.fls x (List.mem_append_right _ hx)
    rw [one_ok, ← Trail.okLit_neg, ← hel]
    exact (hg.inv.ok e he).1
  replace H : Vc.Sep w0 w (ownR ra R.length rc 29 1 (R.map lV) :: cellsR qm 127 [.map (some pb)] :: mapD pb iI (plM pm) pn :: _) := H
  refine Call_of (lSort H hone (by omega)) ?_
  clear H
  rintro _ w ⟨rfl, R1, hperm, H⟩
  have hs1 := hs.perm hperm.symm
  have hlen1 := hperm.length_eq
  rw [← hlen1] at H few
  clear hs hone
  (repeat first | refine go ?_ | ((try conv => whnf); (first | (refine St_gate ?_; refine xS ?_) | (refine StN_gate ?_; refine xN ?_)); clear H; intro w H))
  (refine Nw_sep H ?_; clear H; intro qa w H; (try simp only [Value.cells, List.toList_toArray, List.append_nil, List.cons_append, List.nil_append] at H))
  (repeat first | refine go ?_ | ((try conv => whnf); (first | (refine St_gate ?_; refine xS ?_) | (refine StN_gate ?_; refine xN ?_)); clear H; intro w H))
  replace H := H.tp 2
  replace H := H.tp 3
  replace H := H.tp 7
  replace H := H.tp 3
  replace H := H.tp 8
  replace H := H.tp 8
  replace H := H.tp 8
  replace H := H.tp 8
  replace H := H.tp 8
  have hsm : seenM s.E [x0] R = seenM s.E [x0] R1 := seenM_congr fun y => by
    simp only [List.mem_append]
    rw [hperm.mem_iff]
  unfold stuC stuM at H
  rw [hsm, ← hlen1] at H
  generalize hl' : (ownR ta L.length tc 29 1 (L.map lV) :: mapD pb iI (plM pm) pn :: cellsR qm 127 [.map (some pb)] :: l) = l' at H
  replace H : Vc.Sep w0 w (ownR ra R1.length rc 29 1 (R1.map lV) :: rdL eb s sb mb qs qa x0 (iI top) (iI 1) (.slice ra R1.length rc) l' ⟨true, R1, M, n⟩) := H
  refine Loop_intro (fun q : Rd × Nat => [(5, .pointer (some ⟨q.2, 0, none⟩))]) (fun q w => Sho s c0 top x0 q.1.Z q.1.M ∧ (q.1.flag = false → ∀ y ∈ q.1.Z, needB s [x0] q.1.Z y = false) ∧
      Sep w0 w (ownR ra q.1.Z.length rc 29 1 (q.1.Z.map lV) :: rdL eb s sb mb qs q.2 x0 (iI top) (iI 1) (.slice ra q.1.Z.length rc) l' q.1)) (fun q => 2 * q.1.Z.length + if q.1.flag then 1 else 0) (⟨true, R1, M, n⟩, qa) ⟨rfl, trivial⟩ ⟨hs1, by simp, H⟩ ?_
  clear H hs1 hlen1 few
  rintro ⟨⟨flag, Z, M, n⟩, qa⟩ w ⟨hs, hno, H⟩
  simp only [] at hs hno H ⊢
  have few := hs.ok.few hg
  rw [List.length_append] at few
  cases flag with
  | false =>
    (repeat first | refine go ?_ | ((try conv => whnf); (first | (refine St_gate ?_; refine xS ?_) | (refine StN_gate ?_; refine xN ?_)); clear H; intro w H))
    subst hl'
    replace H := ((((H.drop 4 rfl rfl).drop 4 rfl rfl).drop 4 rfl rfl).drop 4 rfl rfl).drop 4 rfl rfl
    replace H := ((H.top 3 rfl rfl).top 3 rfl rfl).top 3 rfl rfl
    exact Ret_in ⟨rfl, Z, M, ⟨sb, mb, n, ra, rc⟩, hs, hno rfl, rfl, rfl, H⟩
  | true =>
    (repeat first | refine go ?_ | ((try conv => whnf); (first | (refine St_gate ?_; refine xS ?_) | (refine StN_gate ?_; refine xN ?_)); clear H; intro w H))
    refine Draw_intro mixed [0, 1, 2, 3, 4, 5, 6, 7, 8, 9] (by decide +kernel) (fun w _ fd => ?_); replace H := H.fr fd; clear fd
    (repeat first | refine go ?_ | ((try conv => whnf); (first | (refine St_gate ?_; refine xS ?_) | (refine StN_gate ?_; refine xN ?_)); clear H; intro w H))
    (try conv => whnf)
    refine Call_of (litDeleteG (g0 := (⟨false, Z, M, n⟩ : Rd)) (Rr := fun g => rdL eb s sb mb qs qa x0 (iI top) (iI 1) (.slice ra Z.length rc) l' g) (Iv := RdI s c0 top x0 Z) H ⟨rfl, hs, fun _ => ⟨rfl, by simp⟩, fun h => by cases h⟩ (by omega) fun hI H => lShort2 hI H hg hlits hC) ?_
    clear H
    rintro _ w ⟨⟨flag, Z1, M1, n1⟩, zs, rfl, H, h1, h2, h3, h4⟩
    simp only [List.append_nil] at h1 h2 h3 h4
    subst h1
    (try conv => whnf)
    (repeat (refine Kept_gate ?_; refine xK ?_))
    (repeat first | refine go ?_ | ((try conv => whnf); (first | (refine St_gate ?_; refine xS ?_) | (refine StN_gate ?_; refine xN ?_)); clear H; intro w H))
    (refine Nw_sep H ?_; clear H; intro qa2 w H; (try simp only [Value.cells, List.toList_toArray, List.append_nil, List.cons_append, List.nil_append] at H))
    (repeat first | refine go ?_ | ((try conv => whnf); (first | (refine St_gate ?_; refine xS ?_) | (refine StN_gate ?_; refine xN ?_)); clear H; intro w H))
    have H2 : Vc.Sep w0 w (cellsR qa2 4 [.bool flag] :: ownR ra Z1.length rc 29 1 (Z1.map lV) :: engR eb s :: cellsR sb 150 [.pointer (some ⟨eb, 0, none⟩), .map (some mb), iI top, iI 1, .slice ra Z1.length rc] :: mapD mb iI (seenM s.E [x0] Z1) n1 :: cellsR qs 148 [.pointer (some ⟨sb, 0, none⟩)] :: cellsR qa 4 [.bool flag] :: l') := H
    clear H
    replace H2 := (((((H2.drop 6 rfl rfl).top 5 rfl rfl).top 5 rfl rfl).top 5 rfl rfl).top 5 rfl rfl).top 5 rfl rfl
    refine ⟨(⟨flag, Z1, M1, n1⟩, qa2), ⟨rfl, trivial⟩, ⟨h2, fun h => (h3 h).2, H2⟩, ?_⟩
    cases flag with
    | false => have := (h3 rfl).1; subst this; simp
    | true => have := h4 rfl; simp; omega
end
end Go.Proofs.YtcibiidebknkgaaGreat
