/- The document's answer: names, and whether an expression can be. -/
import Derived.Test.YthpekiohalejmaaGreatDoorTreeA
import Derived.Test.YthpekiohalejmaaGreatDoorTreeR
set_option linter.unusedVariables false
set_option linter.unusedSimpArgs false
namespace Go.Proofs.YthpekiohalejmaaGreatDoor
open Go Go.Vc Go.Tree
set_option maxHeartbeats 4000000
set_option maxRecDepth 100000
section
variable {w0 w : World} {l : List Res}
theorem dLetter (b : UInt8) : Does Tryz.prog 58 #[bV b] w fun v w' => v = .bool (letterB b) ∧ w = w' := by
  refine Does_intro tok (Tryz.call58 _ _) Tryz.func58 rfl (by rfl) ?_
  have hb : b.toNat < 256 := b.toNat_lt
  unfold bV
  by_cases h1 : 97 ≤ b.toNat
  case' pos => by_cases h2 : b.toNat ≤ 122
  case' neg => by_cases h2 : 65 ≤ b.toNat
  all_goals by_cases h3 : 65 ≤ b.toNat
  all_goals by_cases h4 : b.toNat ≤ 90
  all_goals first
    | (exfalso; omega)
    | ((repeat first | refine goN ?_ | ((try conv => whnf); first | (refine Ar_gate ?_; first | (fail_if_success skip) | refine xA ?_) | (first | refine Do_str_eq ?_ | refine Do_str_ne ?_ | refine DoN_len tok rfl ?_ | refine Eqv_in ?_)) | ((try conv => whnf); (first | (refine St_gate ?_; refine xS ?_) | (refine StN_gate ?_; refine xN ?_)); clear H; intro w H))
       exact Ret_in ⟨congrArg Value.bool (by rw [Bool.eq_iff_iff]; simp [letterB] <;> omega), rfl⟩)
theorem dDigit (b : UInt8) : Does Tryz.prog 59 #[bV b] w fun v w' => v = .bool (digitB b) ∧ w = w' := by
  refine Does_intro tok (Tryz.call59 _ _) Tryz.func59 rfl (by rfl) ?_
  have hb : b.toNat < 256 := b.toNat_lt
  unfold bV
  by_cases h1 : 48 ≤ b.toNat
  case' pos => by_cases h2 : b.toNat ≤ 57
  all_goals
    (repeat first | refine goN ?_ | ((try conv => whnf); first | (refine Ar_gate ?_; first | (fail_if_success skip) | refine xA ?_) | (first | refine Do_str_eq ?_ | refine Do_str_ne ?_ | refine DoN_len tok rfl ?_ | refine Eqv_in ?_)) | ((try conv => whnf); (first | (refine St_gate ?_; refine xS ?_) | (refine StN_gate ?_; refine xN ?_)); clear H; intro w H))
    exact Ret_in ⟨congrArg Value.bool (by rw [Bool.eq_iff_iff]; simp [digitB] <;> omega), rfl⟩
theorem dOne (s : ByteArray) {xs : List ByteArray} {a : Option Addr} {c : Nat} (hs : Src w a xs.length 1 (xs.map Value.string)) (hm : xs.length ≤ 1000000) :
    Does Tryz.prog 85 #[.string s, .slice a xs.length c] w fun v w' => v = .bool (xs.any fun k => decide (s = k)) ∧ w = w' := by
  refine Does_intro tok (Tryz.call85 _ _) Tryz.func85 rfl (by rfl) ?_
  (repeat first | refine goN ?_ | ((try conv => whnf); first | (refine Ar_gate ?_; first | (fail_if_success skip) | refine xA ?_) | (first | refine Do_str_eq ?_ | refine Do_str_ne ?_ | refine DoN_len tok rfl ?_ | refine Eqv_in ?_)) | ((try conv => whnf); (first | (refine St_gate ?_; refine xS ?_) | (refine StN_gate ?_; refine xN ?_)); clear H; intro w H))
  refine Loop_intro (fun i : Nat => [(9, .int .i64 (i : Int))]) (fun i w' => w = w' ∧ i ≤ xs.length ∧ ((xs.take i).any fun k => decide (s = k)) = false) (fun i => xs.length - i)
    0 ⟨rfl, trivial⟩ ⟨rfl, Nat.zero_le _, rfl⟩ ?_
  rintro i _ ⟨rfl, hi, hno⟩
  refine Br_dec (fun k1 => ?_) (fun k1 => ?_)
  · have hlt : i < xs.length := by omega
    obtain ⟨b, o, rfl⟩ := hs.addr (by rw [List.length_map]; omega)
    have hx : xs[i]? = some xs[i] := List.getElem?_eq_getElem hlt
    have hmem := List.getElem_mem hlt
    have htk : xs.take (i + 1) = xs.take i ++ [xs[i]] := by rw [List.take_add_one, hx]; rfl
    generalize xs[i] = x at *
    refine Ix_in i rfl hlt ?_
    refine Ld_src (j := i) hs (v := .string x) (by rw [List.getElem?_map, hx]; rfl) ?_
    (repeat first | refine goN ?_ | ((try conv => whnf); first | (refine Ar_gate ?_; first | (fail_if_success skip) | refine xA ?_) | (first | refine Do_str_eq ?_ | refine Do_str_ne ?_ | refine DoN_len tok rfl ?_ | refine Eqv_in ?_)) | ((try conv => whnf); (first | (refine St_gate ?_; refine xS ?_) | (refine StN_gate ?_; refine xN ?_)); clear H; intro w H))
    refine Br_dec (fun h => ?_) (fun h => ?_)
    · (repeat first | refine goN ?_ | ((try conv => whnf); first | (refine Ar_gate ?_; first | (fail_if_success skip) | refine xA ?_) | (first | refine Do_str_eq ?_ | refine Do_str_ne ?_ | refine DoN_len tok rfl ?_ | refine Eqv_in ?_)) | ((try conv => whnf); (first | (refine St_gate ?_; refine xS ?_) | (refine StN_gate ?_; refine xN ?_)); clear H; intro w H))
      exact Ret_in ⟨congrArg Value.bool (Eq.symm (List.any_eq_true.2 ⟨x, hmem, decide_eq_true h.symm⟩)), rfl⟩
    · (repeat first | refine goN ?_ | ((try conv => whnf); first | (refine Ar_gate ?_; first | (fail_if_success skip) | refine xA ?_) | (first | refine Do_str_eq ?_ | refine Do_str_ne ?_ | refine DoN_len tok rfl ?_ | refine Eqv_in ?_)) | ((try conv => whnf); (first | (refine St_gate ?_; refine xS ?_) | (refine StN_gate ?_; refine xN ?_)); clear H; intro w H))
      refine ⟨i + 1, ⟨congrArg some (vint (by omega)), trivial⟩, ⟨rfl, by omega, ?_⟩, by omega⟩
      rw [htk, List.any_append, hno]
      simp
      exact fun e => h e.symm
  · obtain rfl : i = xs.length := by omega
    rw [List.take_length] at hno
    (repeat first | refine goN ?_ | ((try conv => whnf); first | (refine Ar_gate ?_; first | (fail_if_success skip) | refine xA ?_) | (first | refine Do_str_eq ?_ | refine Do_str_ne ?_ | refine DoN_len tok rfl ?_ | refine Eqv_in ?_)) | ((try conv => whnf); (first | (refine St_gate ?_; refine xS ?_) | (refine StN_gate ?_; refine xN ?_)); clear H; intro w H))
    exact Ret_in ⟨by rw [hno]; rfl, rfl⟩
theorem dKept (s : ByteArray) (H : Sep w0 w l) : Does Tryz.prog 60 #[.string s] w fun v w' => v = .bool (keptB s) ∧ Sep w0 w' l := by
  refine Does_intro tok (Tryz.call60 _ _) Tryz.func60 rfl (by rfl) ?_
  (repeat first | refine goN ?_ | ((try conv => whnf); first | (refine Ar_gate ?_; first | (fail_if_success skip) | refine xA ?_) | (first | refine Do_str_eq ?_ | refine Do_str_ne ?_ | refine DoN_len tok rfl ?_ | refine Eqv_in ?_)) | ((try conv => whnf); (first | (refine St_gate ?_; refine xS ?_) | (refine StN_gate ?_; refine xN ?_)); clear H; intro w H))
  (refine Nw_sep H ?_; clear H; intro kb w H; (try simp only [Value.cells, List.toList_toArray, List.append_nil, List.cons_append, List.nil_append] at H))
  (repeat first | refine goN ?_ | ((try conv => whnf); first | (refine Ar_gate ?_; first | (fail_if_success skip) | refine xA ?_) | (first | refine Do_str_eq ?_ | refine Do_str_ne ?_ | refine DoN_len tok rfl ?_ | refine Eqv_in ?_)) | ((try conv => whnf); (first | (refine St_gate ?_; refine xS ?_) | (refine StN_gate ?_; refine xN ?_)); clear H; intro w H))
  have hsrc : Src w (some ⟨kb, 0, none⟩) 19 1 (keptL.map Value.string) := H.srcCM 19 1 (cs := keptL.map Value.string) (.head _) rfl (by decide)
  refine Call_of (dOne s (xs := keptL) hsrc (by decide)) ?_
  rintro _ _ ⟨rfl, rfl⟩
  (repeat first | refine goN ?_ | ((try conv => whnf); first | (refine Ar_gate ?_; first | (fail_if_success skip) | refine xA ?_) | (first | refine Do_str_eq ?_ | refine Do_str_ne ?_ | refine DoN_len tok rfl ?_ | refine Eqv_in ?_)) | ((try conv => whnf); (first | (refine St_gate ?_; refine xS ?_) | (refine StN_gate ?_; refine xN ?_)); clear H; intro w H))
  exact Ret_in ⟨rfl, H.tail⟩
theorem dName (s : ByteArray) (hs : s.size ≤ 2000000) (H : Sep w0 w l) : Does Tryz.prog 21 #[.string s] w fun v w' => v = .bool (nameB s) ∧ Sep w0 w' l := by
  refine Does_intro tok (Tryz.call21 _ _) Tryz.func21 rfl (by rfl) ?_
  have hsz : s.data.toList.length = s.size := rfl
  (repeat first | refine goN ?_ | ((try conv => whnf); first | (refine Ar_gate ?_; first | (fail_if_success skip) | refine xA ?_) | (first | refine Do_str_eq ?_ | refine Do_str_ne ?_ | refine DoN_len tok rfl ?_ | refine Eqv_in ?_)) | ((try conv => whnf); (first | (refine St_gate ?_; refine xS ?_) | (refine StN_gate ?_; refine xN ?_)); clear H; intro w H))
  refine Loop_intro (fun i : Nat => [(3, .int .i64 (i : Int))]) (fun i w => (i ≤ s.size ∧ (s.data.toList.take i).all innerB = true ∧ (0 < i → ∃ b, s.data.toList[0]? = some b ∧ letterB b = true)) ∧ Sep w0 w l) (fun i => s.size - i)
    0 ⟨rfl, trivial⟩ ⟨⟨Nat.zero_le _, rfl, fun h => by omega⟩, H⟩ ?_
  clear H
  rintro i w ⟨⟨hi, hall, hfirst⟩, H⟩
  (repeat first | refine goN ?_ | ((try conv => whnf); first | (refine Ar_gate ?_; first | (fail_if_success skip) | refine xA ?_) | (first | refine Do_str_eq ?_ | refine Do_str_ne ?_ | refine DoN_len tok rfl ?_ | refine Eqv_in ?_)) | ((try conv => whnf); (first | (refine St_gate ?_; refine xS ?_) | (refine StN_gate ?_; refine xN ?_)); clear H; intro w H))
  refine Br_dec (fun k1 => ?_) (fun k1 => ?_)
  · have hlt : i < s.data.toList.length := by omega
    have hx : s.data.toList[i]? = some s.data.toList[i] := List.getElem?_eq_getElem hlt
    have htk : s.data.toList.take (i + 1) = s.data.toList.take i ++ [s.data.toList[i]] := by rw [List.take_add_one, hx]; rfl
    have hmem := List.getElem_mem hlt
    generalize s.data.toList[i] = b at *
    have hb : b.toNat < 256 := b.toNat_lt
    have hnext : innerB b = true → (i = 0 → letterB b = true) → (i + 1 ≤ s.size ∧ (s.data.toList.take (i + 1)).all innerB = true ∧ (0 < i + 1 → ∃ b, s.data.toList[0]? = some b ∧ letterB b = true)) := fun h1 h2 => by
      refine ⟨by omega, by rw [htk, List.all_append, hall]; simp [h1], fun _ => ?_⟩
      by_cases h0 : i = 0
      · subst h0; exact ⟨b, hx, h2 rfl⟩
      · exact hfirst (by omega)
    have hbad : (innerB b = false ∨ i = 0 ∧ letterB b = false) → nameB s = false := fun h => by
      rw [Bool.eq_false_iff]
      intro hn
      unfold nameB at hn
      simp only [Bool.and_eq_true, List.all_eq_true] at hn
      rcases h with h | ⟨rfl, h⟩
      · have := hn.2 b hmem
        rw [h] at this; cases this
      · have := hn.1.1.2
        rw [hx] at this
        simp only [] at this
        rw [h] at this; cases this
    (repeat first | refine goN ?_ | ((try conv => whnf); first | (refine Ar_gate ?_; first | (fail_if_success skip) | refine xA ?_) | (first | refine Do_str_eq ?_ | refine Do_str_ne ?_ | refine DoN_len tok rfl ?_ | refine Eqv_in ?_)) | ((try conv => whnf); (first | (refine St_gate ?_; refine xS ?_) | (refine StN_gate ?_; refine xN ?_)); clear H; intro w H))
    refine Do_idx tok rfl hx ?_
    (repeat first | refine goN ?_ | ((try conv => whnf); first | (refine Ar_gate ?_; first | (fail_if_success skip) | refine xA ?_) | (first | refine Do_str_eq ?_ | refine Do_str_ne ?_ | refine DoN_len tok rfl ?_ | refine Eqv_in ?_)) | ((try conv => whnf); (first | (refine St_gate ?_; refine xS ?_) | (refine StN_gate ?_; refine xN ?_)); clear H; intro w H))
    refine Call_of (dLetter b) ?_
    rintro _ _ ⟨rfl, rfl⟩
    cases hl : letterB b with
    | true =>
      (repeat first | refine goN ?_ | ((try conv => whnf); first | (refine Ar_gate ?_; first | (fail_if_success skip) | refine xA ?_) | (first | refine Do_str_eq ?_ | refine Do_str_ne ?_ | refine DoN_len tok rfl ?_ | refine Eqv_in ?_)) | ((try conv => whnf); (first | (refine St_gate ?_; refine xS ?_) | (refine StN_gate ?_; refine xN ?_)); clear H; intro w H))
      exact ⟨i + 1, ⟨congrArg some (vint (by omega)), trivial⟩, ⟨hnext (by unfold innerB; rw [hl]; rfl) (fun _ => hl), H⟩, by omega⟩
    | false =>
      by_cases h0 : i = 0
      · (repeat first | refine goN ?_ | ((try conv => whnf); first | (refine Ar_gate ?_; first | (fail_if_success skip) | refine xA ?_) | (first | refine Do_str_eq ?_ | refine Do_str_ne ?_ | refine DoN_len tok rfl ?_ | refine Eqv_in ?_)) | ((try conv => whnf); (first | (refine St_gate ?_; refine xS ?_) | (refine StN_gate ?_; refine xN ?_)); clear H; intro w H))
        exact Ret_in ⟨by rw [hbad (.inr ⟨h0, hl⟩)]; rfl, H⟩
      (repeat first | refine goN ?_ | ((try conv => whnf); first | (refine Ar_gate ?_; first | (fail_if_success skip) | refine xA ?_) | (first | refine Do_str_eq ?_ | refine Do_str_ne ?_ | refine DoN_len tok rfl ?_ | refine Eqv_in ?_)) | ((try conv => whnf); (first | (refine St_gate ?_; refine xS ?_) | (refine StN_gate ?_; refine xN ?_)); clear H; intro w H))
      refine Do_idx tok rfl hx ?_
      (repeat first | refine goN ?_ | ((try conv => whnf); first | (refine Ar_gate ?_; first | (fail_if_success skip) | refine xA ?_) | (first | refine Do_str_eq ?_ | refine Do_str_ne ?_ | refine DoN_len tok rfl ?_ | refine Eqv_in ?_)) | ((try conv => whnf); (first | (refine St_gate ?_; refine xS ?_) | (refine StN_gate ?_; refine xN ?_)); clear H; intro w H))
      refine Call_of (dDigit b) ?_
      rintro _ _ ⟨rfl, rfl⟩
      cases hd : digitB b with
      | true =>
        (repeat first | refine goN ?_ | ((try conv => whnf); first | (refine Ar_gate ?_; first | (fail_if_success skip) | refine xA ?_) | (first | refine Do_str_eq ?_ | refine Do_str_ne ?_ | refine DoN_len tok rfl ?_ | refine Eqv_in ?_)) | ((try conv => whnf); (first | (refine St_gate ?_; refine xS ?_) | (refine StN_gate ?_; refine xN ?_)); clear H; intro w H))
        exact ⟨i + 1, ⟨congrArg some (vint (by omega)), trivial⟩, ⟨hnext (by unfold innerB; rw [hl, hd]; rfl) (fun h => absurd h h0), H⟩, by omega⟩
      | false =>
        (repeat first | refine goN ?_ | ((try conv => whnf); first | (refine Ar_gate ?_; first | (fail_if_success skip) | refine xA ?_) | (first | refine Do_str_eq ?_ | refine Do_str_ne ?_ | refine DoN_len tok rfl ?_ | refine Eqv_in ?_)) | ((try conv => whnf); (first | (refine St_gate ?_; refine xS ?_) | (refine StN_gate ?_; refine xN ?_)); clear H; intro w H))
        refine Do_idx tok rfl hx ?_
        by_cases h95 : b.toNat = 95
        · (repeat first | refine goN ?_ | ((try conv => whnf); first | (refine Ar_gate ?_; first | (fail_if_success skip) | refine xA ?_) | (first | refine Do_str_eq ?_ | refine Do_str_ne ?_ | refine DoN_len tok rfl ?_ | refine Eqv_in ?_)) | ((try conv => whnf); (first | (refine St_gate ?_; refine xS ?_) | (refine StN_gate ?_; refine xN ?_)); clear H; intro w H))
          exact ⟨i + 1, ⟨congrArg some (vint (by omega)), trivial⟩, ⟨hnext (by unfold innerB; rw [decide_eq_true h95, Bool.or_true]) (fun h => absurd h h0), H⟩, by omega⟩
        · (repeat first | refine goN ?_ | ((try conv => whnf); first | (refine Ar_gate ?_; first | (fail_if_success skip) | refine xA ?_) | (first | refine Do_str_eq ?_ | refine Do_str_ne ?_ | refine DoN_len tok rfl ?_ | refine Eqv_in ?_)) | ((try conv => whnf); (first | (refine St_gate ?_; refine xS ?_) | (refine StN_gate ?_; refine xN ?_)); clear H; intro w H))
          exact Ret_in ⟨by rw [hbad (.inl (by unfold innerB; rw [hl, hd, decide_eq_false h95]; rfl))]; rfl, H⟩
  · obtain rfl : i = s.size := by omega
    rw [← hsz, List.take_length] at hall
    unfold nameB
    rw [hall]
    by_cases h0 : s.size = 0
    · (repeat first | refine goN ?_ | ((try conv => whnf); first | (refine Ar_gate ?_; first | (fail_if_success skip) | refine xA ?_) | (first | refine Do_str_eq ?_ | refine Do_str_ne ?_ | refine DoN_len tok rfl ?_ | refine Eqv_in ?_)) | ((try conv => whnf); (first | (refine St_gate ?_; refine xS ?_) | (refine StN_gate ?_; refine xN ?_)); clear H; intro w H))
      exact Ret_in ⟨by rw [decide_eq_false (by omega : ¬ s.size ≠ 0)]; rfl, H⟩
    obtain ⟨b, hx, hl⟩ := hfirst (by omega)
    rw [hx, decide_eq_true h0]
    by_cases h32 : s.size ≤ 32
    case neg =>
      (repeat first | refine goN ?_ | ((try conv => whnf); first | (refine Ar_gate ?_; first | (fail_if_success skip) | refine xA ?_) | (first | refine Do_str_eq ?_ | refine Do_str_ne ?_ | refine DoN_len tok rfl ?_ | refine Eqv_in ?_)) | ((try conv => whnf); (first | (refine St_gate ?_; refine xS ?_) | (refine StN_gate ?_; refine xN ?_)); clear H; intro w H))
      exact Ret_in ⟨by rw [decide_eq_false h32]; rfl, H⟩
    rw [decide_eq_true h32]
    (repeat first | refine goN ?_ | ((try conv => whnf); first | (refine Ar_gate ?_; first | (fail_if_success skip) | refine xA ?_) | (first | refine Do_str_eq ?_ | refine Do_str_ne ?_ | refine DoN_len tok rfl ?_ | refine Eqv_in ?_)) | ((try conv => whnf); (first | (refine St_gate ?_; refine xS ?_) | (refine StN_gate ?_; refine xN ?_)); clear H; intro w H))
    refine Call_of (dKept s H) ?_
    clear H
    rintro _ w ⟨rfl, H⟩
    (repeat first | refine goN ?_ | ((try conv => whnf); first | (refine Ar_gate ?_; first | (fail_if_success skip) | refine xA ?_) | (first | refine Do_str_eq ?_ | refine Do_str_ne ?_ | refine DoN_len tok rfl ?_ | refine Eqv_in ?_)) | ((try conv => whnf); (first | (refine St_gate ?_; refine xS ?_) | (refine StN_gate ?_; refine xN ?_)); clear H; intro w H))
    exact Ret_in ⟨congrArg Value.bool (by simp [hl]), H⟩
def kidsZ (op : Int) : Int := if 1 ≤ op ∧ op ≤ 4 then 0 else if 5 ≤ op ∧ op ≤ 13 then 1 else if 14 ≤ op ∧ op ≤ 30 then 2 else -1
theorem dKids (op : Int) : Does Tryz.prog 111 #[.int .i64 op] w fun v w' => v = .int .i64 (kidsZ op) ∧ w = w' := by
  refine Does_intro tok (Tryz.call111 _ _) Tryz.func111 rfl (by rfl) ?_
  have h5 : op < 1 ∨ (1 ≤ op ∧ op ≤ 4) ∨ (5 ≤ op ∧ op ≤ 13) ∨ (14 ≤ op ∧ op ≤ 30) ∨ 31 ≤ op := by omega
  unfold kidsZ
  rcases h5 with h | h | h | h | h
  · rw [if_neg (by omega), if_neg (by omega), if_neg (by omega)]
    (repeat first | refine goN ?_ | ((try conv => whnf); first | (refine Ar_gate ?_; first | (fail_if_success skip) | refine xA ?_) | (first | refine Do_str_eq ?_ | refine Do_str_ne ?_ | refine DoN_len tok rfl ?_ | refine Eqv_in ?_)) | ((try conv => whnf); (first | (refine St_gate ?_; refine xS ?_) | (refine StN_gate ?_; refine xN ?_)); clear H; intro w H))
    exact Ret_in ⟨rfl, rfl⟩
  · rw [if_pos h]
    (repeat first | refine goN ?_ | ((try conv => whnf); first | (refine Ar_gate ?_; first | (fail_if_success skip) | refine xA ?_) | (first | refine Do_str_eq ?_ | refine Do_str_ne ?_ | refine DoN_len tok rfl ?_ | refine Eqv_in ?_)) | ((try conv => whnf); (first | (refine St_gate ?_; refine xS ?_) | (refine StN_gate ?_; refine xN ?_)); clear H; intro w H))
    exact Ret_in ⟨rfl, rfl⟩
  · rw [if_neg (by omega), if_pos h]
    (repeat first | refine goN ?_ | ((try conv => whnf); first | (refine Ar_gate ?_; first | (fail_if_success skip) | refine xA ?_) | (first | refine Do_str_eq ?_ | refine Do_str_ne ?_ | refine DoN_len tok rfl ?_ | refine Eqv_in ?_)) | ((try conv => whnf); (first | (refine St_gate ?_; refine xS ?_) | (refine StN_gate ?_; refine xN ?_)); clear H; intro w H))
    exact Ret_in ⟨rfl, rfl⟩
  · rw [if_neg (by omega), if_neg (by omega), if_pos h]
    (repeat first | refine goN ?_ | ((try conv => whnf); first | (refine Ar_gate ?_; first | (fail_if_success skip) | refine xA ?_) | (first | refine Do_str_eq ?_ | refine Do_str_ne ?_ | refine DoN_len tok rfl ?_ | refine Eqv_in ?_)) | ((try conv => whnf); (first | (refine St_gate ?_; refine xS ?_) | (refine StN_gate ?_; refine xN ?_)); clear H; intro w H))
    exact Ret_in ⟨rfl, rfl⟩
  · rw [if_neg (by omega), if_neg (by omega), if_neg (by omega)]
    (repeat first | refine goN ?_ | ((try conv => whnf); first | (refine Ar_gate ?_; first | (fail_if_success skip) | refine xA ?_) | (first | refine Do_str_eq ?_ | refine Do_str_ne ?_ | refine DoN_len tok rfl ?_ | refine Eqv_in ?_)) | ((try conv => whnf); (first | (refine St_gate ?_; refine xS ?_) | (refine StN_gate ?_; refine xN ?_)); clear H; intro w H))
    exact Ret_in ⟨rfl, rfl⟩
theorem kids_iff (op : Int) (n : Nat) : kidsZ op = (n : Int) ↔ (1 ≤ op ∧ op < 31) ∧ n = nk op := by
  unfold kidsZ nk
  split
  · rw [if_neg (by omega), if_neg (by omega)]; omega
  · split
    · omega
    · split
      · rw [if_pos (by omega)]; omega
      · rw [if_neg (by omega)]; omega
theorem dHas (x : Ex) : ∀ {w : World} {l : List Res} (H : Sep w0 w l) (hs : TOk w0 x) (hb : bulk x ≤ 2000000),
    Does Tryz.prog 82 #[exA x, .int .i64 4] w fun v w' => v = .bool (varB x) ∧ Sep w0 w' l := by
  induction x using Ex.ind with
  | h x ih =>
    intro w l H hs hb
    refine Does_intro tok (Tryz.call82 _ _) Tryz.func82 rfl (by rfl) ?_
    have hkl := kids_bulk x
    have hok := TOk_iff.1 hs
    rw [var_eq]
    (repeat first | refine goN ?_ | ((try conv => whnf); first | (refine Ar_gate ?_; first | (fail_if_success skip) | refine xA ?_) | (first | refine Do_str_eq ?_ | refine Do_str_ne ?_ | refine DoN_len tok rfl ?_ | refine Eqv_in ?_)) | ((try conv => whnf); (first | (refine St_gate ?_; refine xS ?_) | (refine StN_gate ?_; refine xN ?_)); clear H; intro w H))
    (refine Nw_sep H ?_; clear H; intro xb w H; (try simp only [Value.cells, List.toList_toArray, List.append_nil, List.cons_append, List.nil_append] at H))
    by_cases h1 : x.op = 4
    · (repeat first | refine goN ?_ | ((try conv => whnf); first | (refine Ar_gate ?_; first | (fail_if_success skip) | refine xA ?_) | (first | refine Do_str_eq ?_ | refine Do_str_ne ?_ | refine DoN_len tok rfl ?_ | refine Eqv_in ?_)) | ((try conv => whnf); (first | (refine St_gate ?_; refine xS ?_) | (refine StN_gate ?_; refine xN ?_)); clear H; intro w H))
      exact Ret_in ⟨by rw [decide_eq_true h1]; rfl, H.tail⟩
    rw [decide_eq_false h1]
    (repeat first | refine goN ?_ | ((try conv => whnf); first | (refine Ar_gate ?_; first | (fail_if_success skip) | refine xA ?_) | (first | refine Do_str_eq ?_ | refine Do_str_ne ?_ | refine DoN_len tok rfl ?_ | refine Eqv_in ?_)) | ((try conv => whnf); (first | (refine St_gate ?_; refine xS ?_) | (refine StN_gate ?_; refine xN ?_)); clear H; intro w H))
    refine Loop_intro (fun i : Nat => [(14, .int .i64 (i : Int))]) (fun i w => (i ≤ x.kids.length ∧ (x.kids.take i).any varB = false) ∧ Sep w0 w (cellsR xb 36 (exV x) :: l)) (fun i => x.kids.length - i)
      0 ⟨rfl, trivial⟩ ⟨⟨Nat.zero_le _, rfl⟩, H⟩ ?_
    clear H
    rintro i w ⟨⟨hi, hno⟩, H⟩
    refine Br_dec (fun k1 => ?_) (fun k1 => ?_)
    · have hlt : i < x.kids.length := by omega
      have hsrc := H.rd hok.1
      obtain ⟨b, o, ho⟩ := hsrc.addr (by rw [rowLen exV_len]; omega)
      have hx : x.kids[i]? = some x.kids[i] := List.getElem?_eq_getElem hlt
      have htk : x.kids.take (i + 1) = x.kids.take i ++ [x.kids[i]] := by rw [List.take_add_one, hx]; rfl
      have hmem := List.getElem_mem hlt
      have hrow := rowPart (f := exV) (sz := 6) exV_len hx
      generalize x.kids[i] = k at *
      rw [ho] at hsrc ⊢
      refine Ix_in i rfl hlt ?_
      refine LdN_src hsrc (vs := [.int .i64 k.op, .int .i64 k.num, .string k.name, .slice k.at_ k.kids.length k.cap, .int .i64 k.line, .int .i64 k.col]) hrow rfl ?_
      clear hsrc
      (repeat first | refine goN ?_ | ((try conv => whnf); first | (refine Ar_gate ?_; first | (fail_if_success skip) | refine xA ?_) | (first | refine Do_str_eq ?_ | refine Do_str_ne ?_ | refine DoN_len tok rfl ?_ | refine Eqv_in ?_)) | ((try conv => whnf); (first | (refine St_gate ?_; refine xS ?_) | (refine StN_gate ?_; refine xN ?_)); clear H; intro w H))
      (refine Nw_sep H ?_; clear H; intro kb w H; (try simp only [Value.cells, List.toList_toArray, List.append_nil, List.cons_append, List.nil_append] at H))
      (repeat first | refine goN ?_ | ((try conv => whnf); first | (refine Ar_gate ?_; first | (fail_if_success skip) | refine xA ?_) | (first | refine Do_str_eq ?_ | refine Do_str_ne ?_ | refine DoN_len tok rfl ?_ | refine Eqv_in ?_)) | ((try conv => whnf); (first | (refine St_gate ?_; refine xS ?_) | (refine StN_gate ?_; refine xN ?_)); clear H; intro w H))
      have hbk := bulk_kid hmem
      refine Call_of (ih k hmem H (hok.2 k hmem) (by omega)) ?_
      clear H
      rintro _ w ⟨rfl, H⟩
      cases hv : varB k with
      | true =>
        (repeat first | refine goN ?_ | ((try conv => whnf); first | (refine Ar_gate ?_; first | (fail_if_success skip) | refine xA ?_) | (first | refine Do_str_eq ?_ | refine Do_str_ne ?_ | refine DoN_len tok rfl ?_ | refine Eqv_in ?_)) | ((try conv => whnf); (first | (refine St_gate ?_; refine xS ?_) | (refine StN_gate ?_; refine xN ?_)); clear H; intro w H))
        exact Ret_in ⟨congrArg Value.bool (by rw [List.any_eq_true.2 ⟨k, hmem, hv⟩]; rfl), H.tail.tail⟩
      | false =>
        (repeat first | refine goN ?_ | ((try conv => whnf); first | (refine Ar_gate ?_; first | (fail_if_success skip) | refine xA ?_) | (first | refine Do_str_eq ?_ | refine Do_str_ne ?_ | refine DoN_len tok rfl ?_ | refine Eqv_in ?_)) | ((try conv => whnf); (first | (refine St_gate ?_; refine xS ?_) | (refine StN_gate ?_; refine xN ?_)); clear H; intro w H))
        refine ⟨i + 1, ⟨congrArg some (vint (by omega)), trivial⟩, ⟨⟨by omega, ?_⟩, H.tail⟩, by omega⟩
        rw [htk, List.any_append, hno]; simp [hv]
    · obtain rfl : i = x.kids.length := by omega
      rw [List.take_length] at hno
      (repeat first | refine goN ?_ | ((try conv => whnf); first | (refine Ar_gate ?_; first | (fail_if_success skip) | refine xA ?_) | (first | refine Do_str_eq ?_ | refine Do_str_ne ?_ | refine DoN_len tok rfl ?_ | refine Eqv_in ?_)) | ((try conv => whnf); (first | (refine St_gate ?_; refine xS ?_) | (refine StN_gate ?_; refine xN ?_)); clear H; intro w H))
      exact Ret_in ⟨by rw [hno]; rfl, H.tail⟩
end
end Go.Proofs.YthpekiohalejmaaGreatDoor
