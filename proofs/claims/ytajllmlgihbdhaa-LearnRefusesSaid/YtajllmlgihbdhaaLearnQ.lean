/- The document's answer on what follows: its functions. -/
import Derived.Test.YtajllmlgihbdhaaLearnP
import Derived.Test.YtajllmlgihbdhaaWatchU
import Derived.Test.YtajllmlgihbdhaaLitE
set_option linter.unusedVariables false
set_option linter.unusedSimpArgs false
namespace Go.Proofs.Ytajllmlgihbdhaa
open Go Go.Vc Go.Watch
set_option maxHeartbeats 4000000
set_option maxRecDepth 100000
abbrev nV (x : Int) : Value := .int .i64 x
theorem nums_one {V : List Int} : ∀ u ∈ V.map nV, oneCell u = true := by
  intro u hu
  rw [List.mem_map] at hu
  obtain ⟨y, _, rfl⟩ := hu
  rfl
theorem zN (n : Nat) : zcells (Value.int .i64 0).cells.toList n = (List.replicate n (0 : Int)).map nV := by
  show zcells [Value.int .i64 0] n = _
  rw [zcells_one, List.map_replicate]
section
variable {w0 w : World} {l : List Res} {n : Nat} {V : List Int} {va : Option Addr} {vc : Nat}

theorem rOf (hV : Src w va V.length 1 (V.map nV)) (hok : VOk n V) (hn : n ≤ 262144) {x : Int} (hx : FitV n x) : Does Try.prog 49 #[.slice va V.length vc, lV x] w fun v w' => v = nV (ofV V x) ∧ w = w' := by
  refine Does_intro tok (Try.call49 _ _) Try.func49 rfl (by rfl) ?_
  have hl := hok.len
  obtain ⟨hx0, hx1⟩ := hx
  obtain ⟨b, o, rfl⟩ := hV.addr (by rw [List.length_map]; omega)
  have hi : x.natAbs < V.length := by omega
  have hg : V[x.natAbs]? = some V[x.natAbs] := List.getElem?_eq_getElem hi
  have hr := hok.rng _ (List.getElem_mem hi)
  have ho : ofV V x = if x < 0 then -V[x.natAbs] else V[x.natAbs] := by
    unfold ofV
    rw [List.getD_eq_getElem?_getD, hg]; rfl
  rw [ho]
  generalize V[x.natAbs] = g at *
  by_cases h : x < 0
  · rw [if_pos h]
    (repeat first | refine go ?_ | ((try conv => whnf); (first | (refine St_gate ?_; refine xS ?_) | (refine StN_gate ?_; refine xN ?_)); clear H; intro w H))
    refine Ix_in x.natAbs (by omega) hi ?_
    (repeat first | refine go ?_ | ((try conv => whnf); (first | (refine St_gate ?_; refine xS ?_) | (refine StN_gate ?_; refine xN ?_)); clear H; intro w H))
    refine Ld_src (j := x.natAbs) hV (v := nV g) (by rw [List.getElem?_map, hg]; rfl) ?_
    (repeat first | refine go ?_ | ((try conv => whnf); (first | (refine St_gate ?_; refine xS ?_) | (refine StN_gate ?_; refine xN ?_)); clear H; intro w H))
    exact Ret_in ⟨vint (by omega), rfl⟩
  · rw [if_neg h]
    (repeat first | refine go ?_ | ((try conv => whnf); (first | (refine St_gate ?_; refine xS ?_) | (refine StN_gate ?_; refine xN ?_)); clear H; intro w H))
    refine Ix_in x.natAbs (by omega) hi ?_
    (repeat first | refine go ?_ | ((try conv => whnf); (first | (refine St_gate ?_; refine xS ?_) | (refine StN_gate ?_; refine xN ?_)); clear H; intro w H))
    refine Ld_src (j := x.natAbs) hV (v := nV g) (by rw [List.getElem?_map, hg]; rfl) ?_
    (repeat first | refine go ?_ | ((try conv => whnf); (first | (refine St_gate ?_; refine xS ?_) | (refine StN_gate ?_; refine xN ?_)); clear H; intro w H))
    exact Ret_in ⟨rfl, rfl⟩

theorem rWith (H : Sep w0 w l) (hV : ownR va V.length vc 3 1 (V.map nV) ∈ l) (hok : VOk n V) (hn : n ≤ 262144) {x : Int} (hx : FitV n x) : Does Try.prog 50 #[.slice va V.length vc, lV x] w fun v w' =>
    ∃ a c, v = .slice a (withV V x).length c ∧ Sep w0 w' (ownR a (withV V x).length c 3 1 ((withV V x).map nV) :: l) := by
  refine Does_intro tok (Try.call50 _ _) Try.func50 rfl (by rfl) ?_
  have hl := hok.len
  obtain ⟨hx0, hx1⟩ := hx
  have hi : x.natAbs < V.length := by omega
  have hwl : (withV V x).length = V.length := by unfold withV; rw [List.length_set]
  (repeat first | refine go ?_ | ((try conv => whnf); (first | (refine St_gate ?_; refine xS ?_) | (refine StN_gate ?_; refine xN ?_)); clear H; intro w H))
  (refine Nw_sep H ?_; clear H; intro eb w H; (try simp only [Value.cells, List.toList_toArray, List.append_nil, List.cons_append, List.nil_append] at H))
  (repeat first | refine go ?_ | ((try conv => whnf); (first | (refine St_gate ?_; refine xS ?_) | (refine StN_gate ?_; refine xN ?_)); clear H; intro w H))
  refine DoN_gate ?_
  refine append_new tok H rfl rfl rfl rfl rfl (by decide) (.head _) (H.srcM (.tail _ hV)) nums_one (by omega) (by unfold maxLen; omega) ?_
  clear H hV
  intro a2 c2 w H
  replace H := H _ .head
  (repeat first | refine go ?_ | ((try conv => whnf); (first | (refine St_gate ?_; refine xS ?_) | (refine StN_gate ?_; refine xN ?_)); clear H; intro w H))
  have hO := H.ownM (.head _)
  obtain ⟨b2, rfl⟩ := hO.some (by omega)
  have hset : ∀ z : Int, (V.map nV).set x.natAbs (nV z) = (V.set x.natAbs z).map nV := fun z => by rw [List.map_set]
  by_cases h : x < 0
  · have e : withV V x = V.set x.natAbs (-1) := by unfold withV; rw [if_pos h]
    rw [hwl, e]
    (repeat first | refine go ?_ | ((try conv => whnf); (first | (refine St_gate ?_; refine xS ?_) | (refine StN_gate ?_; refine xN ?_)); clear H; intro w H))
    refine Ix_in x.natAbs (by omega) hi ?_
    (repeat first | refine go ?_ | ((try conv => whnf); (first | (refine St_gate ?_; refine xS ?_) | (refine StN_gate ?_; refine xN ?_)); clear H; intro w H))
    refine St_uO H .head rfl (by simpa using hi) rfl ?_
    clear H; intro w H
    rw [hset] at H
    (repeat first | refine go ?_ | ((try conv => whnf); (first | (refine St_gate ?_; refine xS ?_) | (refine StN_gate ?_; refine xN ?_)); clear H; intro w H))
    exact Ret_in ⟨_, _, rfl, H⟩
  · have e : withV V x = V.set x.natAbs 1 := by unfold withV; rw [if_neg h]
    rw [hwl, e]
    (repeat first | refine go ?_ | ((try conv => whnf); (first | (refine St_gate ?_; refine xS ?_) | (refine StN_gate ?_; refine xN ?_)); clear H; intro w H))
    refine Ix_in x.natAbs (by omega) hi ?_
    (repeat first | refine go ?_ | ((try conv => whnf); (first | (refine St_gate ?_; refine xS ?_) | (refine StN_gate ?_; refine xN ?_)); clear H; intro w H))
    refine St_uO H .head rfl (by simpa using hi) rfl ?_
    clear H; intro w H
    rw [hset] at H
    (repeat first | refine go ?_ | ((try conv => whnf); (first | (refine St_gate ?_; refine xS ?_) | (refine StN_gate ?_; refine xN ?_)); clear H; intro w H))
    exact Ret_in ⟨_, _, rfl, H⟩

theorem rLeft {c : List Int} {a : Option Addr} {cc : Nat} (hV : Src w va V.length 1 (V.map nV)) (hok : VOk n V) (hn : n ≤ 262144) (hs : Src w a c.length 1 (c.map lV)) (hcap : c.length ≤ cc) (hcc : cc ≤ maxLen) (hf : ∀ y ∈ c, FitV n y) :
    Does Try.prog 76 #[.slice va V.length vc, .slice a c.length cc] w fun v w' => ((v = .tuple #[.bool true, nV 0, lV 0] ∧ ∃ y ∈ c, ofV V y = 1) ∨ ∃ (many : Nat) (last : Int), v = .tuple #[.bool false, nV many, lV last] ∧ LeftI V c many last) ∧ w = w' := by
  refine Does_intro tok (Try.call76 _ _) Try.func76 rfl (by rfl) ?_
  unfold maxLen at hcc
  refine Loop_intro (fun q : Nat × Nat × Int => [(13, nV q.1), (7, nV q.2.1), (8, lV q.2.2)]) (fun q w' => w = w' ∧ q.1 ≤ c.length ∧ q.2.1 ≤ q.1 ∧ LeftI V (c.take q.1) q.2.1 q.2.2) (fun q => c.length - q.1) (0, 0, 0) ⟨rfl, rfl, rfl, trivial⟩ ⟨rfl, Nat.zero_le _, Nat.le_refl _, LeftI.nil⟩ ?_
  rintro ⟨i, many, last⟩ _ ⟨rfl, hi, hmi, hL⟩
  simp only [] at hi hmi hL ⊢
  refine Br_dec (fun k1 => ?_) (fun k1 => ?_)
  · have hlt : i < c.length := by omega
    obtain ⟨b, o, rfl⟩ := hs.addr (by rw [List.length_map]; omega)
    have hx : c[i]? = some c[i] := List.getElem?_eq_getElem hlt
    have hxm := List.getElem_mem hlt
    have hnx : c.take (i + 1) = c.take i ++ [c[i]] := by rw [List.take_add_one, hx]; rfl
    generalize c[i] = y at *
    have hfy := hf y hxm
    have hv := hok.of y
    (repeat first | refine go ?_ | ((try conv => whnf); (first | (refine St_gate ?_; refine xS ?_) | (refine StN_gate ?_; refine xN ?_)); clear H; intro w H))
    refine Ix_in i rfl hlt ?_
    refine Ld_src (j := i) hs (v := lV y) (by rw [List.getElem?_map, hx]; rfl) ?_
    (repeat first | refine go ?_ | ((try conv => whnf); (first | (refine St_gate ?_; refine xS ?_) | (refine StN_gate ?_; refine xN ?_)); clear H; intro w H))
    refine Call_of (rOf hV hok hn hfy) ?_
    rintro _ _ ⟨rfl, rfl⟩
    by_cases h1 : ofV V y = 1
    · (repeat first | refine go ?_ | ((try conv => whnf); (first | (refine St_gate ?_; refine xS ?_) | (refine StN_gate ?_; refine xN ?_)); clear H; intro w H))
      exact Ret_in ⟨.inl ⟨rfl, y, hxm, h1⟩, rfl⟩
    (repeat first | refine go ?_ | ((try conv => whnf); (first | (refine St_gate ?_; refine xS ?_) | (refine StN_gate ?_; refine xN ?_)); clear H; intro w H))
    refine Call_of (rOf hV hok hn hfy) ?_
    rintro _ _ ⟨rfl, rfl⟩
    by_cases h0 : ofV V y = 0
    case neg =>
      (repeat first | refine go ?_ | ((try conv => whnf); (first | (refine St_gate ?_; refine xS ?_) | (refine StN_gate ?_; refine xN ?_)); clear H; intro w H))
      refine ⟨(i + 1, many, last), ⟨congrArg some (vint (by simp)), rfl, rfl, trivial⟩, ⟨rfl, by omega, by simp only []; omega, ?_⟩, by simp; omega⟩
      simp only []
      rw [hnx]; exact hL.same h1 fun h => (h0 h).elim
    (repeat first | refine go ?_ | ((try conv => whnf); (first | (refine St_gate ?_; refine xS ?_) | (refine StN_gate ?_; refine xN ?_)); clear H; intro w H))
    have hti : (c.take i).length = i := by rw [List.length_take]; omega
    refine Do_slice tok rfl rfl 0 i (.inl ⟨rfl, rfl⟩) (.inr ⟨_, rfl⟩) (by omega) (by omega) ?_
    rw [add_zero_map]
    (repeat first | refine go ?_ | ((try conv => whnf); (first | (refine St_gate ?_; refine xS ?_) | (refine StN_gate ?_; refine xN ?_)); clear H; intro w H))
    have hst : Src w (some ⟨b, o, none⟩) (c.take i).length 1 ((c.take i).map lV) := by
      have h := hs.take (k := i) (by omega)
      rw [Nat.mul_one, ← List.map_take] at h
      rw [hti]; exact h
    rw [← hti]
    refine Call_of (rHas hst (by omega)) ?_
    rintro _ _ ⟨rfl, rfl⟩
    by_cases hin : y ∈ c.take i
    · rw [decide_eq_true hin]
      (repeat first | refine go ?_ | ((try conv => whnf); (first | (refine St_gate ?_; refine xS ?_) | (refine StN_gate ?_; refine xN ?_)); clear H; intro w H))
      refine ⟨(i + 1, many, last), ⟨congrArg some (vint (by simp; omega)), rfl, rfl, trivial⟩, ⟨rfl, by omega, by simp only []; omega, ?_⟩, by simp; omega⟩
      simp only []
      rw [hnx]; exact hL.same h1 fun _ => hin
    · rw [decide_eq_false hin]
      (repeat first | refine go ?_ | ((try conv => whnf); (first | (refine St_gate ?_; refine xS ?_) | (refine StN_gate ?_; refine xN ?_)); clear H; intro w H))
      refine ⟨(i + 1, many + 1, y), ⟨congrArg some (vint (by simp; omega)), congrArg some (vint (by simp)), rfl, trivial⟩, ⟨rfl, by omega, by simp only []; omega, ?_⟩, by simp; omega⟩
      simp only []
      rw [hnx]; exact hL.more h0 hin
  · obtain rfl : i = c.length := by omega
    rw [List.take_length] at hL
    (repeat first | refine go ?_ | ((try conv => whnf); (first | (refine St_gate ?_; refine xS ?_) | (refine StN_gate ?_; refine xN ?_)); clear H; intro w H))
    exact Ret_in ⟨.inr ⟨many, last, rfl, hL⟩, rfl⟩

/-- The clauses, with room. -/
structure CSrc (w : World) (a : Option Addr) (C : List (List Int)) (R : List Fl) : Prop extends FSrc w a C R where
  room : ∀ x ∈ R, x.2.2.length ≤ x.2.1 ∧ x.2.1 ≤ maxLen
variable {C : List (List Int)} {R : List Fl} {ca : Option Addr} {cc : Nat} {Δ : Int → Prop}
theorem rClose (H : Sep w0 w (ownR va V.length vc 3 1 (V.map nV) :: l)) (hn : n ≤ 262144) (hs : ∀ {w' : World} {l' : List Res}, Sep w0 w' (l' ++ l) → CSrc w' ca C R) (hm : C.length ≤ 9223372036854775807) (hC : FitC n C) (hI : CInv n C Δ V) :
    Does Try.prog 51 #[.slice va V.length vc, .slice ca C.length cc] w fun v w' => ∃ a V' c b, v = .tuple #[.slice a (V' : List Int).length c, .bool b] ∧ (b = true ↔ Conf (GamL C) Δ) ∧ (b = false → CInv n C Δ V' ∧ ∀ x, Fo (GamL C) Δ x → TruV n V' x) ∧ Sep w0 w' (ownR a V'.length c 3 1 (V'.map nV) :: l) := by
  refine Does_intro tok (Try.call51 _ _) Try.func51 rfl (by rfl) ?_
  refine Loop_intro (fun q : List Int × Option Addr × Nat × Bool => [(0, .slice q.2.1 q.1.length q.2.2.1), (6, .bool q.2.2.2)]) (fun q w' => CInv n C Δ q.1 ∧ (q.2.2.2 = false → ∀ k ∈ C, ClosedV q.1 k) ∧ Sep w0 w' (ownR q.2.1 q.1.length q.2.2.1 3 1 (q.1.map nV) :: l)) (fun q => 2 * zerosV q.1 + if q.2.2.2 then 1 else 0)
    (V, va, vc, true) ⟨rfl, rfl, trivial⟩ ⟨hI, by simp, H⟩ ?_
  clear H hI
  rintro ⟨V, va, vc, ag⟩ w ⟨hI, hag, H⟩
  simp only [] at hI hag H ⊢
  cases ag with
  | false =>
    obtain ⟨hd, hfo⟩ := hI.done hC (hag rfl)
    (repeat first | refine go ?_ | ((try conv => whnf); (first | (refine St_gate ?_; refine xS ?_) | (refine StN_gate ?_; refine xN ?_)); clear H; intro w H))
    refine Ret_in ⟨va, V, vc, false, rfl, ?_, fun _ => ⟨hI, hfo⟩, H⟩
    constructor
    · intro h; cases h
    · intro h; exact (hd h).elim
  | true =>
    (repeat first | refine go ?_ | ((try conv => whnf); (first | (refine St_gate ?_; refine xS ?_) | (refine StN_gate ?_; refine xN ?_)); clear H; intro w H))
    refine Loop_intro (fun q : Nat × List Int × Option Addr × Nat × Bool => [(15, nV q.1), (0, .slice q.2.2.1 q.2.1.length q.2.2.2.1), (6, .bool q.2.2.2.2)])
      (fun q w' => q.1 ≤ C.length ∧ CInv n C Δ q.2.1 ∧ (q.2.2.2.2 = false → ∀ k ∈ C.take q.1, ClosedV q.2.1 k) ∧ zerosV q.2.1 ≤ zerosV V ∧ (q.2.2.2.2 = true → zerosV q.2.1 < zerosV V) ∧ Sep w0 w' (ownR q.2.2.1 q.2.1.length q.2.2.2.1 3 1 (q.2.1.map nV) :: l)) (fun q => C.length - q.1)
      (0, V, va, vc, false) ⟨rfl, rfl, rfl, trivial⟩ ⟨Nat.zero_le _, hI, by simp, Nat.le_refl _, by simp, H⟩ ?_
    clear H hI hag
    rintro ⟨i, V2, va, vc, ag⟩ w ⟨hi, hI, hag, hz1, hz2, H⟩
    simp only [] at hi hI hag hz1 hz2 H ⊢
    refine Br_dec (fun k1 => ?_) (fun k1 => ?_)
    · have hlt : i < C.length := by omega
      have hsrc : CSrc w ca C R := hs (l' := [_]) H
      obtain ⟨⟨ya, yc, ys⟩, hy, hyC, hys, hyl⟩ := hsrc.at hlt
      have hroom := hsrc.room _ (List.mem_of_getElem? hy)
      simp only [] at hyC hys hyl hroom
      obtain ⟨rb, ro, rfl⟩ := hsrc.rows.addr (by rw [List.length_map, hsrc.len]; omega)
      have hym := List.mem_of_getElem? hyC
      have hnx : C.take (i + 1) = C.take i ++ [ys] := by rw [List.take_add_one, hyC]; rfl
      refine Ix_in i rfl hlt ?_
      refine Ld_src (j := i) hsrc.rows (v := .slice ya ys.length yc) (by rw [List.getElem?_map, hy]; rfl) ?_
      (repeat first | refine go ?_ | ((try conv => whnf); (first | (refine St_gate ?_; refine xS ?_) | (refine StN_gate ?_; refine xN ?_)); clear H; intro w H))
      refine Call_of (rLeft (H.srcM (.head _)) hI.ok hn hys hroom.1 hroom.2 (hC ys hym).2) ?_
      rintro _ _ ⟨⟨rfl, hdone⟩ | ⟨many, last, rfl, hL⟩, rfl⟩
      · (repeat first | refine go ?_ | ((try conv => whnf); (first | (refine St_gate ?_; refine xS ?_) | (refine StN_gate ?_; refine xN ?_)); clear H; intro w H))
        refine ⟨(i + 1, V2, va, vc, ag), ⟨congrArg some (vint (by simp)), rfl, rfl, trivial⟩, ⟨by omega, hI, fun h k hk => ?_, hz1, hz2, H⟩, by simp; omega⟩
        simp only [] at h hk ⊢
        rw [hnx, List.mem_append, List.mem_singleton] at hk
        rcases hk with hk | rfl
        · exact hag h k hk
        · exact .inl hdone
      · by_cases hm0 : many = 0
        · subst hm0
          have hcf := hI.conf hC hym hL
          (repeat first | refine go ?_ | ((try conv => whnf); (first | (refine St_gate ?_; refine xS ?_) | (refine StN_gate ?_; refine xN ?_)); clear H; intro w H))
          refine Ret_in ⟨va, V2, vc, true, rfl, ⟨fun _ => hcf, fun _ => rfl⟩, fun h => (by cases h), H⟩
        by_cases hm1 : many = 1
        · subst hm1
          obtain ⟨hI2, hz⟩ := hI.unit hC hym hL
          (repeat first | refine go ?_ | ((try conv => whnf); (first | (refine St_gate ?_; refine xS ?_) | (refine StN_gate ?_; refine xN ?_)); clear H; intro w H))
          refine Call_of (rWith H (.head _) hI.ok hn ((hC ys hym).2 _ (hL.m1 rfl).1)) ?_
          clear H hsrc hys
          rintro _ w ⟨a2, c2, rfl, H⟩
          replace H := H.drop 1 rfl rfl
          (repeat first | refine go ?_ | ((try conv => whnf); (first | (refine St_gate ?_; refine xS ?_) | (refine StN_gate ?_; refine xN ?_)); clear H; intro w H))
          exact ⟨(i + 1, withV V2 last, a2, c2, true), ⟨congrArg some (vint (by simp)), rfl, rfl, trivial⟩, ⟨by omega, hI2, fun h => (by cases h), by simp only []; omega, fun _ => by simp only []; omega, H⟩, by simp; omega⟩
        · have hmm : 2 ≤ many := by omega
          (repeat first | refine go ?_ | ((try conv => whnf); (first | (refine St_gate ?_; refine xS ?_) | (refine StN_gate ?_; refine xN ?_)); clear H; intro w H))
          refine ⟨(i + 1, V2, va, vc, ag), ⟨congrArg some (vint (by simp)), rfl, rfl, trivial⟩, ⟨by omega, hI, fun h k hk => ?_, hz1, hz2, H⟩, by simp; omega⟩
          simp only [] at h hk ⊢
          rw [hnx, List.mem_append, List.mem_singleton] at hk
          rcases hk with hk | rfl
          · exact hag h k hk
          · exact hL.closed hmm
    · obtain rfl : i = C.length := by omega
      rw [List.take_length] at hag
      (repeat first | refine go ?_ | ((try conv => whnf); (first | (refine St_gate ?_; refine xS ?_) | (refine StN_gate ?_; refine xN ?_)); clear H; intro w H))
      refine ⟨(V2, va, vc, ag), ⟨rfl, rfl, trivial⟩, ⟨hI, hag, H⟩, ?_⟩
      cases ag with
      | false => simp; omega
      | true => have := hz2 rfl; simp; omega

theorem rFollows {c : List Int} {a : Option Addr} {k : Nat} (H : Sep w0 w l) (hn : n ≤ 262144) (hs : ∀ {w' : World} {l' : List Res}, Sep w0 w' (l' ++ l) → CSrc w' ca C R) (hm : C.length ≤ 9223372036854775807) (hC : FitC n C)
    (hc : ∀ {w' : World} {l' : List Res}, Sep w0 w' (l' ++ l) → Src w' a c.length 1 (c.map lV)) (hcm : c.length ≤ 9223372036854775807) (hf : ∀ y ∈ c, FitV n y) (hp : c.Pairwise fun x y => x.natAbs ≠ y.natAbs) :
    Does Try.prog 23 #[.int .i64 n, .slice ca C.length cc, .slice a c.length k] w fun v w' => ∃ b, v = .bool b ∧ (b = true ↔ Conf (GamL C) (fun z => ∃ y ∈ c, z = -y)) ∧ Sep w0 w' l := by
  refine Does_intro tok (Try.call23 _ _) Try.func23 rfl (by rfl) ?_
  (repeat first | refine go ?_ | ((try conv => whnf); (first | (refine St_gate ?_; refine xS ?_) | (refine StN_gate ?_; refine xN ?_)); clear H; intro w H))
  refine make_sep tok H rfl rfl rfl rfl rfl (by decide) (n + 1) (n + 1) (by omega) (by omega) (by omega) (by omega) (by unfold maxLen; omega) ?_
  clear H
  intro b0 w H
  rw [zN] at H
  have e0 : (List.replicate (n + 1) (0 : Int)).length = n + 1 := List.length_replicate
  (repeat first | refine go ?_ | ((try conv => whnf); (first | (refine St_gate ?_; refine xS ?_) | (refine StN_gate ?_; refine xN ?_)); clear H; intro w H))
  refine Loop_intro (fun q : Nat × Option Addr × Nat => [(17, nV q.1), (7, .slice q.2.1 (n + 1) q.2.2)]) (fun q w' => q.1 ≤ c.length ∧ Sep w0 w' (ownR q.2.1 (n + 1) q.2.2 3 1 ((withN (List.replicate (n + 1) 0) (c.take q.1)).map nV) :: l)) (fun q => c.length - q.1)
    (0, some ⟨b0, 0, none⟩, n + 1) ⟨rfl, rfl, trivial⟩ ⟨Nat.zero_le _, H⟩ ?_
  clear H
  rintro ⟨i, va, vc⟩ w ⟨hi, H⟩
  simp only [] at hi H ⊢
  have hok : VOk n (withN (List.replicate (n + 1) 0) (c.take i)) := withN_ok (VOk.zero n)
  have hl := hok.len
  refine Br_dec (fun k1 => ?_) (fun k1 => ?_)
  · have hlt : i < c.length := by omega
    have hsrc : Src w a c.length 1 (c.map lV) := hc (l' := [_]) H
    obtain ⟨yb, yo, rfl⟩ := hsrc.addr (by rw [List.length_map]; omega)
    have hx : c[i]? = some c[i] := List.getElem?_eq_getElem hlt
    have hxm := List.getElem_mem hlt
    have h0 := CInv.start_no (n := n) hf hp hx
    have hnx := withN_next (V := List.replicate (n + 1) 0) hx
    generalize c[i] = y at *
    generalize withN (List.replicate (n + 1) 0) (c.take i) = V at h0 hnx hok hl H
    have hfy := hf y hxm
    have hone : Lit.one y = true := by
      unfold FitV at hfy
      rw [one_ok]
      exact Trail.okLit_iff.2 (by omega)
    have hvar : Trail.var y ≤ n := by
      have := hfy.2
      rw [Trail.var_ok (by rw [← one_ok]; exact hone)]; exact this
    refine Ix_in i rfl hlt ?_
    refine Ld_src (j := i) hsrc (v := lV y) (by rw [List.getElem?_map, hx]; rfl) ?_
    (repeat first | refine go ?_ | ((try conv => whnf); (first | (refine St_gate ?_; refine xS ?_) | (refine StN_gate ?_; refine xN ?_)); clear H; intro w H))
    refine Call_of (rOne w) ?_
    rintro _ _ ⟨rfl, rfl⟩
    rw [hone]
    (repeat first | refine go ?_ | ((try conv => whnf); (first | (refine St_gate ?_; refine xS ?_) | (refine StN_gate ?_; refine xN ?_)); clear H; intro w H))
    refine Call_of (rVar (x := y) w) ?_
    rintro _ _ ⟨rfl, rfl⟩
    rw [var_var]
    (repeat first | refine go ?_ | ((try conv => whnf); (first | (refine St_gate ?_; refine xS ?_) | (refine StN_gate ?_; refine xN ?_)); clear H; intro w H))
    rw [← hl] at H
    have c1 := rOf (vc := vc) (H.srcM (.head _)) hok hn hfy
    have c2 := rWith (vc := vc) H (.head _) hok hn hfy.neg
    rw [hl] at c1 c2
    refine Call_of c1 ?_
    rintro _ _ ⟨rfl, rfl⟩
    rw [h0]
    have hyn : -(262144 : Int) ≤ y ∧ y ≤ 262144 := by unfold FitV at hfy; omega
    (repeat first | refine go ?_ | ((try conv => whnf); (first | (refine St_gate ?_; refine xS ?_) | (refine StN_gate ?_; refine xN ?_)); clear H; intro w H))
    try rw [Int.zero_sub]
    (repeat first | refine go ?_ | ((try conv => whnf); (first | (refine St_gate ?_; refine xS ?_) | (refine StN_gate ?_; refine xN ?_)); clear H; intro w H))
    refine Call_of c2 ?_
    clear H hsrc c1 c2
    rintro _ w ⟨a2, c2, rfl, H⟩
    replace H := H.drop 1 rfl rfl
    rw [← hnx] at H ⊢
    have hl2 : (withN (List.replicate (n + 1) 0) (c.take (i + 1))).length = n + 1 := (withN_ok (VOk.zero n)).len
    rw [hl2] at H ⊢
    (repeat first | refine go ?_ | ((try conv => whnf); (first | (refine St_gate ?_; refine xS ?_) | (refine StN_gate ?_; refine xN ?_)); clear H; intro w H))
    exact ⟨(i + 1, a2, c2), ⟨congrArg some (vint (by simp)), rfl, trivial⟩, ⟨by omega, H⟩, by simp; omega⟩
  · obtain rfl : i = c.length := by omega
    rw [List.take_length] at H hl hok
    have hI := CInv.start (C := C) hf hp
    generalize withN (List.replicate (n + 1) 0) c = V at *
    rw [← hl] at H ⊢
    (repeat first | refine go ?_ | ((try conv => whnf); (first | (refine St_gate ?_; refine xS ?_) | (refine StN_gate ?_; refine xN ?_)); clear H; intro w H))
    refine Call_of (rClose H hn hs hm hC hI) ?_
    clear H
    rintro _ w ⟨a2, V2, c2, b, rfl, hb, _, H⟩
    (repeat first | refine go ?_ | ((try conv => whnf); (first | (refine St_gate ?_; refine xS ?_) | (refine StN_gate ?_; refine xN ?_)); clear H; intro w H))
    exact Ret_in ⟨b, rfl, hb, H.tail⟩
end
end Go.Proofs.Ytajllmlgihbdhaa
