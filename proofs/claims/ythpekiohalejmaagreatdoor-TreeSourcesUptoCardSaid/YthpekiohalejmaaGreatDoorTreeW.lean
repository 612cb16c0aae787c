/- Names: word.Name and what it calls. -/
import Derived.Test.YthpekiohalejmaaGreatDoorStr
set_option linter.unusedVariables false
set_option linter.unusedSimpArgs false
namespace Go.Proofs.YthpekiohalejmaaGreatDoor
open Go Go.Vc Go.Tree
set_option maxHeartbeats 4000000
set_option maxRecDepth 100000
section
variable {w : World}
def bV (b : UInt8) : Value := .int .u8 (b.toNat : Int)
theorem rLetter (b : UInt8) : Does Tryz.prog 88 #[bV b] w fun v w' => v = .bool (letterB b) ∧ w = w' := by
  refine Does_intro tok (Tryz.call88 _ _) Tryz.func88 rfl (by rfl) ?_
  have hb : b.toNat < 256 := b.toNat_lt
  unfold bV
  by_cases h1 : 97 ≤ b.toNat
  case' pos => by_cases h2 : b.toNat ≤ 122
  case' neg => by_cases h2 : 65 ≤ b.toNat
  all_goals by_cases h3 : 65 ≤ b.toNat
  all_goals by_cases h4 : b.toNat ≤ 90
  all_goals first
    | (exfalso; omega)
    | ((repeat first | refine goN ?_ | ((try conv => whnf); first | (refine Ar_gate ?_; first | (fail_if_success skip) | refine xA ?_) | (first | refine Do_str_eq ?_ | refine Do_str_ne ?_ | refine DoN_len tok rfl ?_ | refine Eqv_in ?_)) | ((try conv => whnf); (first | (refine St_gate ?_; refine xS ?_) | (refine StN_gate ?_; refine xN ?_)); clear H; intro w H))
       exact Ret_in ⟨congrArg Value.bool (by rw [Bool.eq_iff_iff]; simp [letterB] <;> omega), rfl⟩)
theorem rDigit (b : UInt8) : Does Tryz.prog 104 #[bV b] w fun v w' => v = .bool (digitB b) ∧ w = w' := by
  refine Does_intro tok (Tryz.call104 _ _) Tryz.func104 rfl (by rfl) ?_
  have hb : b.toNat < 256 := b.toNat_lt
  unfold bV
  by_cases h1 : 48 ≤ b.toNat
  case' pos => by_cases h2 : b.toNat ≤ 57
  all_goals
    (repeat first | refine goN ?_ | ((try conv => whnf); first | (refine Ar_gate ?_; first | (fail_if_success skip) | refine xA ?_) | (first | refine Do_str_eq ?_ | refine Do_str_ne ?_ | refine DoN_len tok rfl ?_ | refine Eqv_in ?_)) | ((try conv => whnf); (first | (refine St_gate ?_; refine xS ?_) | (refine StN_gate ?_; refine xN ?_)); clear H; intro w H))
    exact Ret_in ⟨congrArg Value.bool (by rw [Bool.eq_iff_iff]; simp [digitB] <;> omega), rfl⟩
theorem rInner (b : UInt8) : Does Tryz.prog 91 #[bV b] w fun v w' => v = .bool (innerB b) ∧ w = w' := by
  refine Does_intro tok (Tryz.call91 _ _) Tryz.func91 rfl (by rfl) ?_
  have hb : b.toNat < 256 := b.toNat_lt
  (repeat first | refine goN ?_ | ((try conv => whnf); first | (refine Ar_gate ?_; first | (fail_if_success skip) | refine xA ?_) | (first | refine Do_str_eq ?_ | refine Do_str_ne ?_ | refine DoN_len tok rfl ?_ | refine Eqv_in ?_)) | ((try conv => whnf); (first | (refine St_gate ?_; refine xS ?_) | (refine StN_gate ?_; refine xN ?_)); clear H; intro w H))
  refine Call_of (rLetter b) ?_
  rintro _ _ ⟨rfl, rfl⟩
  unfold innerB
  cases hl : letterB b with
  | true =>
    (repeat first | refine goN ?_ | ((try conv => whnf); first | (refine Ar_gate ?_; first | (fail_if_success skip) | refine xA ?_) | (first | refine Do_str_eq ?_ | refine Do_str_ne ?_ | refine DoN_len tok rfl ?_ | refine Eqv_in ?_)) | ((try conv => whnf); (first | (refine St_gate ?_; refine xS ?_) | (refine StN_gate ?_; refine xN ?_)); clear H; intro w H))
    exact Ret_in ⟨rfl, rfl⟩
  | false =>
    (repeat first | refine goN ?_ | ((try conv => whnf); first | (refine Ar_gate ?_; first | (fail_if_success skip) | refine xA ?_) | (first | refine Do_str_eq ?_ | refine Do_str_ne ?_ | refine DoN_len tok rfl ?_ | refine Eqv_in ?_)) | ((try conv => whnf); (first | (refine St_gate ?_; refine xS ?_) | (refine StN_gate ?_; refine xN ?_)); clear H; intro w H))
    refine Call_of (rDigit b) ?_
    rintro _ _ ⟨rfl, rfl⟩
    cases hd : digitB b with
    | true =>
      (repeat first | refine goN ?_ | ((try conv => whnf); first | (refine Ar_gate ?_; first | (fail_if_success skip) | refine xA ?_) | (first | refine Do_str_eq ?_ | refine Do_str_ne ?_ | refine DoN_len tok rfl ?_ | refine Eqv_in ?_)) | ((try conv => whnf); (first | (refine St_gate ?_; refine xS ?_) | (refine StN_gate ?_; refine xN ?_)); clear H; intro w H))
      exact Ret_in ⟨rfl, rfl⟩
    | false =>
      unfold bV
      by_cases h : b.toNat = 95
      · (repeat first | refine goN ?_ | ((try conv => whnf); first | (refine Ar_gate ?_; first | (fail_if_success skip) | refine xA ?_) | (first | refine Do_str_eq ?_ | refine Do_str_ne ?_ | refine DoN_len tok rfl ?_ | refine Eqv_in ?_)) | ((try conv => whnf); (first | (refine St_gate ?_; refine xS ?_) | (refine StN_gate ?_; refine xN ?_)); clear H; intro w H))
        exact Ret_in ⟨by rw [h]; rfl, rfl⟩
      · (repeat first | refine goN ?_ | ((try conv => whnf); first | (refine Ar_gate ?_; first | (fail_if_success skip) | refine xA ?_) | (first | refine Do_str_eq ?_ | refine Do_str_ne ?_ | refine DoN_len tok rfl ?_ | refine Eqv_in ?_)) | ((try conv => whnf); (first | (refine St_gate ?_; refine xS ?_) | (refine StN_gate ?_; refine xN ?_)); clear H; intro w H))
        exact Ret_in ⟨congrArg Value.bool (by simp [h]; try omega), rfl⟩
theorem rKept (s : ByteArray) : Does Tryz.prog 89 #[.string s] w fun v w' => v = .bool (keptB s) ∧ w = w' := by
  refine Does_intro tok (Tryz.call89 _ _) Tryz.func89 rfl (by rfl) ?_
  (repeat first | refine goN ?_ | ((try conv => whnf); first | (refine Ar_gate ?_; first | (fail_if_success skip) | refine xA ?_) | (first | refine Do_str_eq ?_ | refine Do_str_ne ?_ | refine DoN_len tok rfl ?_ | refine Eqv_in ?_)) | ((try conv => whnf); (first | (refine St_gate ?_; refine xS ?_) | (refine StN_gate ?_; refine xN ?_)); clear H; intro w H))
  iterate 19
    refine Br_dec (fun h => ?_) (fun h => ?_)
    · (repeat first | refine goN ?_ | ((try conv => whnf); first | (refine Ar_gate ?_; first | (fail_if_success skip) | refine xA ?_) | (first | refine Do_str_eq ?_ | refine Do_str_ne ?_ | refine DoN_len tok rfl ?_ | refine Eqv_in ?_)) | ((try conv => whnf); (first | (refine St_gate ?_; refine xS ?_) | (refine StN_gate ?_; refine xN ?_)); clear H; intro w H))
      exact Ret_in ⟨by rw [h]; rfl, rfl⟩
    (repeat first | refine goN ?_ | ((try conv => whnf); first | (refine Ar_gate ?_; first | (fail_if_success skip) | refine xA ?_) | (first | refine Do_str_eq ?_ | refine Do_str_ne ?_ | refine DoN_len tok rfl ?_ | refine Eqv_in ?_)) | ((try conv => whnf); (first | (refine St_gate ?_; refine xS ?_) | (refine StN_gate ?_; refine xN ?_)); clear H; intro w H))
  refine Ret_in ⟨congrArg Value.bool ?_, rfl⟩
  simp [keptB, keptL, str, *]
theorem rRun (s : ByteArray) (hs : s.size ≤ 1000000) : Does Tryz.prog 90 #[.string s, .func (.func 91) #[] #[]] w fun v w' => ∃ n : Nat, v = .int .i64 (n : Int) ∧ n ≤ s.size ∧ (n = s.size ↔ s.data.toList.all innerB = true) ∧ w = w' := by
  refine Does_intro tok (Tryz.call90 _ _) Tryz.func90 rfl (by rfl) ?_
  have hsz : s.data.toList.length = s.size := rfl
  (repeat first | refine goN ?_ | ((try conv => whnf); first | (refine Ar_gate ?_; first | (fail_if_success skip) | refine xA ?_) | (first | refine Do_str_eq ?_ | refine Do_str_ne ?_ | refine DoN_len tok rfl ?_ | refine Eqv_in ?_)) | ((try conv => whnf); (first | (refine St_gate ?_; refine xS ?_) | (refine StN_gate ?_; refine xN ?_)); clear H; intro w H))
  refine Loop_intro (fun i : Nat => [(8, .int .i64 (i : Int))]) (fun i w' => w = w' ∧ i ≤ s.size ∧ (s.data.toList.take i).all innerB = true) (fun i => s.size - i) 0 ⟨rfl, trivial⟩ ⟨rfl, Nat.zero_le _, rfl⟩ ?_
  rintro i _ ⟨rfl, hi, hall⟩
  refine Br_dec (fun k1 => ?_) (fun k1 => ?_)
  · have hlt : i < s.data.toList.length := by omega
    have hx : s.data.toList[i]? = some s.data.toList[i] := List.getElem?_eq_getElem hlt
    have htk : s.data.toList.take (i + 1) = s.data.toList.take i ++ [s.data.toList[i]] := by rw [List.take_add_one, hx]; rfl
    have hmem := List.getElem_mem hlt
    generalize s.data.toList[i] = b at *
    refine Do_idx tok rfl hx ?_
    refine Call_of (rInner b) ?_
    rintro _ _ ⟨rfl, rfl⟩
    cases hb : innerB b with
    | true =>
      (repeat first | refine goN ?_ | ((try conv => whnf); first | (refine Ar_gate ?_; first | (fail_if_success skip) | refine xA ?_) | (first | refine Do_str_eq ?_ | refine Do_str_ne ?_ | refine DoN_len tok rfl ?_ | refine Eqv_in ?_)) | ((try conv => whnf); (first | (refine St_gate ?_; refine xS ?_) | (refine StN_gate ?_; refine xN ?_)); clear H; intro w H))
      refine ⟨i + 1, ⟨congrArg some (vint (by omega)), trivial⟩, ⟨rfl, by omega, ?_⟩, by omega⟩
      rw [htk, List.all_append, hall]; simp [hb]
    | false =>
      (repeat first | refine goN ?_ | ((try conv => whnf); first | (refine Ar_gate ?_; first | (fail_if_success skip) | refine xA ?_) | (first | refine Do_str_eq ?_ | refine Do_str_ne ?_ | refine DoN_len tok rfl ?_ | refine Eqv_in ?_)) | ((try conv => whnf); (first | (refine St_gate ?_; refine xS ?_) | (refine StN_gate ?_; refine xN ?_)); clear H; intro w H))
      refine Ret_in ⟨i, rfl, hi, ⟨fun h => by omega, fun h => ?_⟩, rfl⟩
      have := List.all_eq_true.1 h b hmem
      rw [hb] at this; cases this
  · obtain rfl : i = s.size := by omega
    rw [← hsz, List.take_length] at hall
    (repeat first | refine goN ?_ | ((try conv => whnf); first | (refine Ar_gate ?_; first | (fail_if_success skip) | refine xA ?_) | (first | refine Do_str_eq ?_ | refine Do_str_ne ?_ | refine DoN_len tok rfl ?_ | refine Eqv_in ?_)) | ((try conv => whnf); (first | (refine St_gate ?_; refine xS ?_) | (refine StN_gate ?_; refine xN ?_)); clear H; intro w H))
    exact Ret_in ⟨s.size, rfl, Nat.le_refl _, ⟨fun _ => hall, fun _ => rfl⟩, rfl⟩
theorem rName (s : ByteArray) (hs : s.size ≤ 2000000) : Does Tryz.prog 69 #[.string s] w fun v w' => v = .bool (nameB s) ∧ w = w' := by
  refine Does_intro tok (Tryz.call69 _ _) Tryz.func69 rfl (by rfl) ?_
  have hsz : s.data.toList.length = s.size := rfl
  (repeat first | refine goN ?_ | ((try conv => whnf); first | (refine Ar_gate ?_; first | (fail_if_success skip) | refine xA ?_) | (first | refine Do_str_eq ?_ | refine Do_str_ne ?_ | refine DoN_len tok rfl ?_ | refine Eqv_in ?_)) | ((try conv => whnf); (first | (refine St_gate ?_; refine xS ?_) | (refine StN_gate ?_; refine xN ?_)); clear H; intro w H))
  refine Br_dec (fun h0 => ?_) (fun h0 => ?_)
  · (repeat first | refine goN ?_ | ((try conv => whnf); first | (refine Ar_gate ?_; first | (fail_if_success skip) | refine xA ?_) | (first | refine Do_str_eq ?_ | refine Do_str_ne ?_ | refine DoN_len tok rfl ?_ | refine Eqv_in ?_)) | ((try conv => whnf); (first | (refine St_gate ?_; refine xS ?_) | (refine StN_gate ?_; refine xN ?_)); clear H; intro w H))
    refine Ret_in ⟨by rw [h0]; rfl, rfl⟩
  have hne : s.size ≠ 0 := fun h => h0 (by
    obtain ⟨x⟩ := s
    have : x = #[] := Array.eq_empty_of_size_eq_zero h
    rw [this])
  unfold nameB
  rw [decide_eq_true hne]
  (repeat first | refine goN ?_ | ((try conv => whnf); first | (refine Ar_gate ?_; first | (fail_if_success skip) | refine xA ?_) | (first | refine Do_str_eq ?_ | refine Do_str_ne ?_ | refine DoN_len tok rfl ?_ | refine Eqv_in ?_)) | ((try conv => whnf); (first | (refine St_gate ?_; refine xS ?_) | (refine StN_gate ?_; refine xN ?_)); clear H; intro w H))
  by_cases h32 : 32 < s.size
  · rw [decide_eq_false (by omega : ¬ s.size ≤ 32)]
    (repeat first | refine goN ?_ | ((try conv => whnf); first | (refine Ar_gate ?_; first | (fail_if_success skip) | refine xA ?_) | (first | refine Do_str_eq ?_ | refine Do_str_ne ?_ | refine DoN_len tok rfl ?_ | refine Eqv_in ?_)) | ((try conv => whnf); (first | (refine St_gate ?_; refine xS ?_) | (refine StN_gate ?_; refine xN ?_)); clear H; intro w H))
    exact Ret_in ⟨rfl, rfl⟩
  rw [decide_eq_true (by omega : s.size ≤ 32)]
  have hx : s.data.toList[0]? = some (s.data.toList[0]'(by omega)) := List.getElem?_eq_getElem _
  generalize s.data.toList[0]'(by omega) = b at *
  rw [hx]
  (repeat first | refine goN ?_ | ((try conv => whnf); first | (refine Ar_gate ?_; first | (fail_if_success skip) | refine xA ?_) | (first | refine Do_str_eq ?_ | refine Do_str_ne ?_ | refine DoN_len tok rfl ?_ | refine Eqv_in ?_)) | ((try conv => whnf); (first | (refine St_gate ?_; refine xS ?_) | (refine StN_gate ?_; refine xN ?_)); clear H; intro w H))
  refine Do_idx (i := 0) tok rfl hx ?_
  (repeat first | refine goN ?_ | ((try conv => whnf); first | (refine Ar_gate ?_; first | (fail_if_success skip) | refine xA ?_) | (first | refine Do_str_eq ?_ | refine Do_str_ne ?_ | refine DoN_len tok rfl ?_ | refine Eqv_in ?_)) | ((try conv => whnf); (first | (refine St_gate ?_; refine xS ?_) | (refine StN_gate ?_; refine xN ?_)); clear H; intro w H))
  refine Call_of (rLetter b) ?_
  rintro _ _ ⟨rfl, rfl⟩
  cases hb : letterB b with
  | false =>
    (repeat first | refine goN ?_ | ((try conv => whnf); first | (refine Ar_gate ?_; first | (fail_if_success skip) | refine xA ?_) | (first | refine Do_str_eq ?_ | refine Do_str_ne ?_ | refine DoN_len tok rfl ?_ | refine Eqv_in ?_)) | ((try conv => whnf); (first | (refine St_gate ?_; refine xS ?_) | (refine StN_gate ?_; refine xN ?_)); clear H; intro w H))
    exact Ret_in ⟨by simp [hb]; rfl, rfl⟩
  | true =>
    (repeat first | refine goN ?_ | ((try conv => whnf); first | (refine Ar_gate ?_; first | (fail_if_success skip) | refine xA ?_) | (first | refine Do_str_eq ?_ | refine Do_str_ne ?_ | refine DoN_len tok rfl ?_ | refine Eqv_in ?_)) | ((try conv => whnf); (first | (refine St_gate ?_; refine xS ?_) | (refine StN_gate ?_; refine xN ?_)); clear H; intro w H))
    refine Call_of (rKept s) ?_
    rintro _ _ ⟨rfl, rfl⟩
    cases hk : keptB s with
    | true =>
      (repeat first | refine goN ?_ | ((try conv => whnf); first | (refine Ar_gate ?_; first | (fail_if_success skip) | refine xA ?_) | (first | refine Do_str_eq ?_ | refine Do_str_ne ?_ | refine DoN_len tok rfl ?_ | refine Eqv_in ?_)) | ((try conv => whnf); (first | (refine St_gate ?_; refine xS ?_) | (refine StN_gate ?_; refine xN ?_)); clear H; intro w H))
      exact Ret_in ⟨by simp [hb]; rfl, rfl⟩
    | false =>
      (repeat first | refine goN ?_ | ((try conv => whnf); first | (refine Ar_gate ?_; first | (fail_if_success skip) | refine xA ?_) | (first | refine Do_str_eq ?_ | refine Do_str_ne ?_ | refine DoN_len tok rfl ?_ | refine Eqv_in ?_)) | ((try conv => whnf); (first | (refine St_gate ?_; refine xS ?_) | (refine StN_gate ?_; refine xN ?_)); clear H; intro w H))
      refine Call_of (rRun s (by omega)) ?_
      rintro _ _ ⟨n, rfl, hn, hiff, rfl⟩
      cases ha : s.data.toList.all innerB with
      | true =>
        obtain rfl := hiff.2 ha
        (repeat first | refine goN ?_ | ((try conv => whnf); first | (refine Ar_gate ?_; first | (fail_if_success skip) | refine xA ?_) | (first | refine Do_str_eq ?_ | refine Do_str_ne ?_ | refine DoN_len tok rfl ?_ | refine Eqv_in ?_)) | ((try conv => whnf); (first | (refine St_gate ?_; refine xS ?_) | (refine StN_gate ?_; refine xN ?_)); clear H; intro w H))
        exact Ret_in ⟨by simp [hb]; rfl, rfl⟩
      | false =>
        have : n ≠ s.size := fun h => by rw [hiff.1 h] at ha; cases ha
        (repeat first | refine goN ?_ | ((try conv => whnf); first | (refine Ar_gate ?_; first | (fail_if_success skip) | refine xA ?_) | (first | refine Do_str_eq ?_ | refine Do_str_ne ?_ | refine DoN_len tok rfl ?_ | refine Eqv_in ?_)) | ((try conv => whnf); (first | (refine St_gate ?_; refine xS ?_) | (refine StN_gate ?_; refine xN ?_)); clear H; intro w H))
        exact Ret_in ⟨congrArg Value.bool (by simp [hb]; omega), rfl⟩
end
end Go.Proofs.YthpekiohalejmaaGreatDoor
