/- A range over a function: the walk of a function that holds one; the law of the statement; the mark at its end. -/
import Derived.Test.YtcibiidebknkgaaGreatSep
import Derived.RangeFuncSeq
set_option linter.unusedVariables false
set_option linter.unusedSimpArgs false
namespace Go.Vc
open Go

def markD (D : Nat) : Deferred := { target := .collected D, args := #[] }

structure RangeR (P : Program) (T : Tab) (N : Nat) (B : List (Nat × Value)) (g : Operand) (ps : Array Tmp) (asg body : Code) (ds : List Deferred) (e : List (Nat × Value)) (w : World) (K : Exit → List Deferred → List (Nat × Value) → World → Prop) : Prop where
  out : ∀ (a : Act) (Q : Exit → Act → World → Prop), TabOk P T → Fits N ds B e a → (∀ x a' ds' e' w', Fits N ds' B e' a' → K x ds' e' w' → Q x a' w') → (Code.rangeFunc g ps asg body).wp P Q a w

/-- The walk of a function that holds a range over a function, in no loop. -/
def vcM (P : Program) (T : Tab) (N : Nat) (B : List (Nat × Value)) : Code → List Deferred → List (Nat × Value) → World → (Exit → List Deferred → List (Nat × Value) → World → Prop) → Prop
  | .seq x y, ds, e, w, K => vcM P T N B x ds e w fun x ds e w => match x with
    | .normal => vcM P T N B y ds e w K
    | .exit i => K (.exit i) ds e w
    | .ret => K .ret ds e w
    | x => K x ds e w
  | .block id c, ds, e, w, K => vcM P T N B c ds e w fun x ds e w => match x with
    | .normal => K .normal ds e w
    | .exit i => match Nat.beq i id with
      | true => K .normal ds e w
      | false => K (.exit i) ds e w
    | .ret => K .ret ds e w
    | x => K x ds e w
  | .rangeFunc g ps asg body, ds, e, w, K => RangeR P T N B g ps asg body ds e w K
  | c, ds, e, w, K => vc P T N B c e w fun x e w => K x ds e w

theorem vcM_sound {P : Program} {T : Tab} (hT : TabOk P T) {N : Nat} {B : List (Nat × Value)} : ∀ (c : Code) {ds : List Deferred} {e : List (Nat × Value)} {w : World} {a : Act} {K : Exit → List Deferred → List (Nat × Value) → World → Prop} {Q : Exit → Act → World → Prop},
    vcM P T N B c ds e w K → Fits N ds B e a → (∀ x a' ds' e' w', Fits N ds' B e' a' → K x ds' e' w' → Q x a' w') → c.wp P Q a w := by
  intro c
  have leaf : ∀ (c : Code) {ds : List Deferred} {e : List (Nat × Value)} {w : World} {a : Act} {K : Exit → List Deferred → List (Nat × Value) → World → Prop} {Q : Exit → Act → World → Prop},
      vc P T N B c e w (fun x e w => K x ds e w) → Fits N ds B e a → (∀ x a' ds' e' w', Fits N ds' B e' a' → K x ds' e' w' → Q x a' w') → c.wp P Q a w :=
    fun c _ _ _ _ _ _ h hf hk => wpW_wp (vc_sound hT c h hf (fun x a' e' w' hf' hK => hk _ _ _ _ _ hf' hK))
  induction c with
  | seq x y ihx ihy =>
    intro ds e w a K Q h hf hk
    refine wp_seq (ihx h hf ?_)
    intro x' a' ds' e' w' hf' hK
    cases x' with
    | normal => exact ihy hK hf' hk
    | exit i => exact hk _ _ _ _ _ hf' hK
    | ret => exact hk _ _ _ _ _ hf' hK
    | goto => exact hk _ _ _ _ _ hf' hK
    | panic => exact hk _ _ _ _ _ hf' hK
    | outgrown => exact hk _ _ _ _ _ hf' hK
  | block id c ih =>
    intro ds e w a K Q h hf hk
    refine wp_block (ih h hf ?_)
    intro x' a' ds' e' w' hf' hK
    cases x' with
    | normal => exact hk _ _ _ _ _ hf' hK
    | exit i =>
      simp only at hK
      simp only [Exit.inBlock]
      split at hK
      · rename_i hb
        rw [if_pos (Nat.eq_of_beq_eq_true hb)]
        exact hk _ _ _ _ _ hf' hK
      · rename_i hb
        rw [if_neg (Nat.ne_of_beq_eq_false hb)]
        exact hk _ _ _ _ _ hf' hK
    | ret => exact hk _ _ _ _ _ hf' hK
    | goto => exact hk _ _ _ _ _ hf' hK
    | panic => exact hk _ _ _ _ _ hf' hK
    | outgrown => exact hk _ _ _ _ _ hf' hK
  | rangeFunc g ps asg body => intro ds e w a K Q h hf hk; exact h.out a Q hT hf hk
  | skip => exact leaf _
  | label => exact leaf _
  | exit => exact leaf _
  | ret => exact leaf _
  | goto => exact leaf _
  | refuse => exact leaf _
  | scope => exact leaf _
  | region => exact leaf _
  | loop => exact leaf _
  | cond => exact leaf _

/-- At the end: the mark is come to. -/
structure MarkR (w : World) (D : Nat) (K : World → Prop) : Prop where
  there : w.heap[D]? = some (.deferred (some []))
  out : K (w.putObj D (.deferred none))

def outM (T : Tab) (fn : Func) (R : Value → World → Prop) (x : Exit) (ds : List Deferred) (e : List (Nat × Value)) (w : World) : Prop :=
  match ds with
  | [] => outR T fn R x e w
  | [⟨.collected D, _⟩] => MarkR w D fun w => outR T fn R x e w
  | _ => False

theorem DoesM_intro {P : Program} {T : Tab} (hT : TabOk P T) {f : FuncId} {fn : Func} {c : Code} {args : List Value} {w : World} {R : Value → World → Prop}
    (hc : (callFunc f args.toArray).run P w = .ok (.enter f args.toArray) w) (hf : P.funcs[f]? = some fn) (hb : fn.body = some c)
    (hn : Nat.ble args.length fn.ntmps = true)
    (h : vcM P T fn.ntmps [] c [] (argsE 0 args) w (outM T fn R)) : Does P f args.toArray w R := by
  refine ⟨hc, (callsIn_wide (n := 0)).1 (callsIn_of_wp_marks hf hb trivial (wpIn_wide.2 (vcM_sound hT c h ?_ ?_)) rfl)⟩
  · have hn' : args.length ≤ fn.ntmps := Nat.le_of_ble_eq_true hn
    refine ⟨by simp; omega, rfl, ?_, fun i v h => by cases h⟩
    intro i v h
    obtain ⟨j, rfl, hj⟩ := get_argsE h
    have hlt : j < args.length := by
      rcases Nat.lt_or_ge j args.length with h | h
      · exact h
      · rw [List.getElem?_eq_none h] at hj; cases hj
    rw [Array.getD_eq_getD_getElem?, Array.getElem?_append_left (by simpa using hlt)]
    simp only [Nat.zero_add, List.getElem?_toArray, hj, Option.getD_some]
  · have fin : ∀ {a' : Act} {w' : World}, (∃ v, (results fn a'.tmps).run P w' = .ok v w' ∧ R v w') → LeavesInM Fence.wide 0 P fn a'.tmps (fun e w' => ∃ v, e = .returned v ∧ R v w') [] .returning w' := by
      rintro a' w' ⟨v, hr, hR⟩
      exact ⟨v, hr, v, rfl, hR⟩
    intro x a' ds' e' w' hf' hK
    have hds := hf'.defers
    unfold outM at hK
    split at hK
    · cases x with
      | normal => show LeavesInM _ _ _ _ _ _ a'.defers _ _; rw [hds]; exact fin (outR_post hT hf' hK)
      | ret => show LeavesInM _ _ _ _ _ _ a'.defers _ _; rw [hds]; exact fin (outR_post hT hf' hK)
      | exit => exact hK.elim
      | goto => exact hK.elim
      | panic => exact hK.elim
      | outgrown => exact hK.elim
    · rename_i D ag
      have hm := run_takeDeferred (P := P) hK.there
      have hK := hK.out
      cases x with
      | normal =>
        show LeavesInM _ _ _ _ _ _ a'.defers _ _; rw [hds]
        exact ⟨by simp, .inl ⟨_, _, rfl, hm, fin (outR_post hT hf' hK)⟩⟩
      | ret =>
        show LeavesInM _ _ _ _ _ _ a'.defers _ _; rw [hds]
        exact ⟨by simp, .inl ⟨_, _, rfl, hm, fin (outR_post hT hf' hK)⟩⟩
      | exit => exact hK.elim
      | goto => exact hK.elim
      | panic => exact hK.elim
      | outgrown => exact hK.elim
    · exact hK.elim

/-- An iterator that writes nothing, and gives 'arg 0', 'arg 1', .. -/
def IterOk (P : Program) (kB : FuncId) (lb : List Value) (n : Nat) (arg : Nat → List Value) (Rd : World → Prop) : Prop :=
  (∀ args w, (callFunc kB args).run P w = .ok (.enter kB args) w) ∧
  ∀ (l : Nat) (J : Nat → World → Prop) (Jx : World → Prop) (W : World), (∀ k w, k ≤ n → J k w → Rd w) →
    (∀ k w, k < n → J k w → YieldAt Fence.wide 0 P l (arg k).toArray w fun e w' => (e = .returned (.bool true) ∧ J (k + 1) w') ∨ (e = .returned (.bool false) ∧ Jx w')) →
    J 0 W → CallsIn Fence.wide 0 P kB (#[.func (.yield l) #[] #[]] ++ lb.toArray) W fun e w' => (∃ v, e = .returned v) ∧ (J n w' ∨ Jx w')

def argP : List Nat → List Value → List (Nat × Value) → List (Nat × Value)
  | p :: ps, v :: vs, e => argP ps vs ((p, v) :: e)
  | _, _, e => e

theorem Fits.argP {N : Nat} : ∀ {ps : List Nat} {vs : List Value} {e : List (Nat × Value)} {t : Array Value}, (∀ p ∈ ps, p < N) → Fits N [] [] e { tmps := t, defers := [] } →
    Fits N [] [] (Vc.argP ps vs e) { tmps := (ps.zip vs).foldl (fun t (p, v) => t.setIfInBounds p v) t, defers := [] }
  | [], _, _, _, _, hf => hf
  | _ :: _, [], _, _, _, hf => hf
  | p :: ps, v :: vs, e, t, hp, hf => Fits.argP (ps := ps) (vs := vs) (fun q hq => hp q (List.mem_cons_of_mem _ hq)) (hf.put (v := v) (hp p (List.mem_cons_self ..)) rfl)

theorem Range_intro {P : Program} {T : Tab} {N : Nat} {e : List (Nat × Value)} {w : World} {K : Exit → List Deferred → List (Nat × Value) → World → Prop} {g : Operand} {ps : Array Tmp} {asg body : Code} {ds : List Deferred}
    {kB : FuncId} {lb : List Value} {n : Nat} {arg : Nat → List Value} {Rd : World → Prop} (hit : IterOk P kB lb n arg Rd)
    (hg : ev e g = some (.func (.func kB) #[] lb.toArray)) (hps : ∀ k, k < n → (arg k).length = ps.toList.length) (hlt : ∀ p ∈ ps.toList, p < N)
    (h : ∀ (l D : Nat) (ob : LoopState → Option Code → Obj), D = w.heap.size → l = w.heap.size + 1 → (∀ s p, (ob s p).isCells = false) →
      ∃ (I : Nat → World → Prop) (Jx : Code → World → Prop), I 0 ((w.alloc (.deferred (some []))).alloc (ob .ready none)) ∧ (∀ k w', k ≤ n → I k w' → Rd w') ∧
        (∀ k w', k < n → I k w' → w'.heap[l]? = some (ob .ready none) ∧
          vc P T N [] asg (argP ps.toList (arg k) e) w' (fun x e' w' => match x with
            | .normal => w'.heap[l]? = some (ob .ready none) ∧ vc P T N [] body e' (w'.putObj l (ob .busy none)) (fun x e' w' => w'.heap[l]? = some (ob .busy none) ∧ match x with
              | .normal => I (k + 1) (w'.putObj l (ob .ready none))
              | .exit i => Jx (.exit i) (w'.putObj l (ob .done (some (.exit i))))
              | .ret => Jx .ret (w'.putObj l (ob .done (some .ret)))
              | _ => False)
            | _ => False)) ∧
        (∀ w', I n w' → w'.heap[l]? = some (ob .ready none) ∧ K .normal (markD D :: ds) e (w'.putObj l (ob .exhausted none))) ∧
        (∀ c w', Jx c w' → w'.heap[l]? = some (ob .done (some c)) ∧ match c with
          | .exit i => K (.exit i) (markD D :: ds) e (w'.putObj l (ob .exhausted (some (.exit i))))
          | .ret => K .ret (markD D :: ds) e (w'.putObj l (ob .exhausted (some .ret)))
          | _ => False)) : RangeR P T N [] g ps asg body ds e w K := by
  constructor
  intro a Q hT hf hk
  refine (wpIn_wide (n := 0)).1 (wpIn_rangeFunc ?_)
  intro fn hfn
  obtain ⟨rec, hrec⟩ : ∃ rec : LoopState → Option Code → Loop, rec = fun st pe => { state := st, pending := pe, fn, tmps := a.tmps, params := ps, assign := asg, body, defers := w.heap.size } := ⟨_, rfl⟩
  obtain ⟨I, Jx, h0, hRd, hround, hdone, hstop⟩ := h (w.heap.size + 1) w.heap.size (fun s p => .loop (rec s p)) rfl rfl (fun _ _ => rfl)
  have hev := hf.eval g _ hg
  obtain ⟨W1, hW1⟩ : ∃ W1, (w.alloc (.deferred (some []))).alloc (.loop (rec .ready none)) = W1 := ⟨_, rfl⟩
  rw [hW1] at h0
  refine ⟨w.heap.size + 1, [markD w.heap.size], W1, { target := .fn (.func kB) lb.toArray, args := #[.func (.yield (w.heap.size + 1)) #[] #[]] }, W1, kB,
    #[.func (.yield (w.heap.size + 1)) #[] #[]] ++ lb.toArray, W1, ?_, ?_, ?_, ?_, ?_, ?_⟩
  · rw [← hW1, hrec]; exact run_enterLoop_outer _ _ _ _ _
  · simp only [resolve, hev]
    simp [go_sem]
  · intro f' _; trivial
  · simp [invoke, go_sem, hit.1]
  · intro h; cases h
  · refine (hit.2 (w.heap.size + 1) I (fun w' => ∃ c, Jx c w') _ hRd ?_ h0).mono ?_
    · intro k w' hkn hI
      obtain ⟨hl, hv⟩ := hround k w' hkn hI
      have hy := run_yield (P := P) (args := (arg k).toArray) hl (by rw [hrec]; simp [hps k hkn])
      refine ⟨_, _, _, _, hy, roundIn_of_wpIn trivial ?_⟩
      have hfold : ((rec .ready none).params.zip (arg k).toArray).foldl (fun tmps (t, a) => tmps.setIfInBounds t a) (rec .ready none).tmps = (ps.toList.zip (arg k)).foldl (fun t (p, v) => t.setIfInBounds p v) a.tmps := by
        rw [hrec, ← Array.foldl_toList, Array.toList_zip]
      rw [hfold]
      have hasg : (rec .ready none).assign = asg := by rw [hrec]
      have hbod : (rec .ready none).body = body := by rw [hrec]
      rw [hasg, hbod]
      have hf0 : Fits N [] [] (argP ps.toList (arg k) e) _ := Fits.argP (vs := arg k) hlt ⟨hf.size, rfl, hf.cur, hf.base⟩
      refine vc_sound hT asg hv hf0 (Q := Exit.then _ _) ?_ (some (w.heap.size + 1))
      intro x a1 e1 w1 hf1 hK
      cases x with
      | normal =>
        obtain ⟨hl1, hv1⟩ := hK
        have hb1 := run_beginRound (P := P) hl1 (by rw [hrec])
        have hsb : { rec .ready none with state := .busy } = rec .busy none := by rw [hrec]
        rw [hsb] at hb1
        refine ⟨_, hb1, ?_⟩
        refine vc_sound hT body hv1 hf1 (Q := roundPost P _ _) ?_ (some (w.heap.size + 1))
        intro x a2 e2 w2 hf2 hK
        obtain ⟨hl2, hK⟩ := hK
        have he : ∀ jump : Option Code, { rec .busy none with state := if jump.isNone then .ready else .done, pending := jump } = rec (if jump.isNone then .ready else .done) jump := fun jump => by rw [hrec]
        cases x with
        | normal =>
          have := run_endRound (P := P) none hl2
          rw [he] at this
          exact ⟨_, _, this, .inl ⟨rfl, hK⟩⟩
        | exit i =>
          have := run_endRound (P := P) (some (.exit i)) hl2
          rw [he] at this
          exact ⟨_, _, this, .inr ⟨rfl, _, hK⟩⟩
        | ret =>
          have := run_endRound (P := P) (some .ret) hl2
          rw [he] at this
          exact ⟨_, _, this, .inr ⟨rfl, _, hK⟩⟩
        | goto => exact hK.elim
        | panic => exact hK.elim
        | outgrown => exact hK.elim
      | exit i => exact hK.elim
      | ret => exact hK.elim
      | goto => exact hK.elim
      | panic => exact hK.elim
      | outgrown => exact hK.elim
    · have hfM : Fits N (markD w.heap.size :: ds) [] e { a with defers := [markD w.heap.size] ++ a.defers } := ⟨hf.size, by rw [hf.defers]; rfl, hf.cur, hf.base⟩
      have he : ∀ st jump, { rec st jump with state := .exhausted } = rec .exhausted jump := fun st jump => by rw [hrec]
      have hp : ∀ st jump, (rec st jump).pending = jump := fun st jump => by rw [hrec]
      rintro e' w' ⟨⟨v, rfl⟩, (hI | ⟨c, hJ⟩)⟩
      · obtain ⟨hl, hK⟩ := hdone w' hI
        have := run_endLoop (P := P) hl (by rw [hrec]; simp)
        rw [he, hp] at this
        exact ⟨_, _, this, hk _ _ _ _ _ hfM hK⟩
      · obtain ⟨hl, hK⟩ := hstop c w' hJ
        have := run_endLoop (P := P) hl (by rw [hrec]; simp)
        rw [he, hp] at this
        refine ⟨_, _, this, ?_⟩
        cases c with
        | exit i => exact wpIn_exit (hk _ _ _ _ _ hfM hK)
        | ret => exact wpIn_ret (hk _ _ _ _ _ hfM hK)
        | _ => exact hK.elim

theorem YieldR.of {P : Program} {l : Nat} {vs : List Value} {w : World} {K : Value → World → Prop} {R : Ending → World → Prop} (h : YieldAt Fence.wide 0 P l vs.toArray w R) (hk : ∀ e w', R e w' → ∃ v, e = .returned v ∧ K v w') : YieldR P l vs w K := by
  obtain ⟨fn, tmps, asg, body, hy, hR⟩ := h
  exact ⟨fn, tmps, asg, body, hy, hR.mono hk⟩

/-- What an iterator is told of its rounds. -/
def Gives (P : Program) (l : Nat) (n : Nat) (arg : Nat → List Value) (J : Nat → World → Prop) (Jx : World → Prop) : Prop :=
  ∀ k w (K : Value → World → Prop), k < n → J k w → (∀ w', J (k + 1) w' → K (.bool true) w') → (∀ w', Jx w' → K (.bool false) w') → YieldR P l (arg k) w K

theorem Iter_intro {P : Program} {T : Tab} (hT : TabOk P T) {kB : FuncId} {lb : List Value} {n : Nat} {arg : Nat → List Value} {Rd : World → Prop} {fn : Func} {c : Code}
    (hc : ∀ args w, (callFunc kB args).run P w = .ok (.enter kB args) w) (hf : P.funcs[kB]? = some fn) (hb : fn.body = some c)
    (hn : Nat.ble (lb.length + 1) fn.ntmps = true)
    (h : ∀ (l : Nat) (J : Nat → World → Prop) (Jx : World → Prop) (W : World), (∀ k w, k ≤ n → J k w → Rd w) → Gives P l n arg J Jx → J 0 W →
      vc P T fn.ntmps [] c (argsE 0 (.func (.yield l) #[] #[] :: lb)) W (outR T fn fun _ w' => J n w' ∨ Jx w')) : IterOk P kB lb n arg Rd := by
  refine ⟨hc, fun l J Jx W hR hY h0 => ?_⟩
  have := Does_intro hT (args := .func (.yield l) #[] #[] :: lb) (hc _ W) hf hb hn (h l J Jx W hR ?_ h0)
  · have h2 := callsIn_wide (n := 0) |>.2 this.2
    have e : (Value.func (.yield l) #[] #[] :: lb).toArray = #[.func (.yield l) #[] #[]] ++ lb.toArray := by simp
    rw [e] at h2
    refine h2.mono ?_
    rintro e w' ⟨v, rfl, hJ⟩
    exact ⟨⟨v, rfl⟩, hJ⟩
  · intro k w K hk hJ h1 h2
    refine YieldR.of (hY k w hk hJ) ?_
    rintro e w' (⟨rfl, hj⟩ | ⟨rfl, hj⟩)
    · exact ⟨_, rfl, h1 _ hj⟩
    · exact ⟨_, rfl, h2 _ hj⟩

end Go.Vc
