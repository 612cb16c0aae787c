/- Models: can they be? -/
import Derived.Test.YthpekiohalejmaaGreatDoorTreeN
set_option linter.unusedVariables false
set_option linter.unusedSimpArgs false
namespace Go.Proofs.YthpekiohalejmaaGreatDoor
open Go Go.Vc Go.Tree
set_option maxHeartbeats 4000000
set_option maxRecDepth 100000
theorem enIndexW {w0 w : World} {l : List Res} {xs : List En} {a : Option Addr} {c : Nat} (H : Sep w0 w l) (hs : ∀ {w' : World} {l' : List Res}, Sep w0 w' (l' ++ l) → Src w' a xs.length 4 (xs.flatMap enV)) (hm : xs.length ≤ 10000000) {k : FuncId}  {p : En → Bool}
    (hf : ∀ x ∈ xs, ∀ {w : World} {l' : List Res}, Sep w0 w (l' ++ l) → Does Tryz.prog k #[enA x] w fun v w' => v = .bool (p x) ∧ Sep w0 w' (l' ++ l)) :
    Does Tryz.prog 68 #[.slice a xs.length c, .func (.func k) #[] #[]] w fun v w' => v = .int .i64 (match xs.findIdx? p with | some i => (i : Int) | none => -1) ∧ Sep w0 w' l := by
  refine Does_intro tok (Tryz.call68 _ _) Tryz.func68 rfl (by rfl) ?_
  (repeat first | refine goN ?_ | ((try conv => whnf); first | (refine Ar_gate ?_; first | (fail_if_success skip) | refine xA ?_) | (first | refine Do_str_eq ?_ | refine Do_str_ne ?_ | refine DoN_len tok rfl ?_ | refine Eqv_in ?_)) | ((try conv => whnf); (first | (refine St_gate ?_; refine xS ?_) | (refine StN_gate ?_; refine xN ?_)); clear H; intro w H))
  refine Loop_intro (fun i : Nat => [(8, .int .i64 (i : Int))]) (fun i w => (i ≤ xs.length ∧ ∀ j x, j < i → xs[j]? = some x → p x = false) ∧ Sep w0 w l) (fun i => xs.length - i) 0 ⟨rfl, trivial⟩ ⟨⟨Nat.zero_le _, fun j x h => by omega⟩, H⟩ ?_
  clear H
  rintro i w ⟨⟨hi, hno⟩, H⟩
  simp only [] at hi hno ⊢
  refine Br_dec (fun k1 => ?_) (fun k1 => ?_)
  · have hlt : i < xs.length := by omega
    have s1 := hs (l' := []) H
    obtain ⟨ba, oa, rfl⟩ := s1.addr (by rw [rowLen enV_len]; omega)
    have hx : xs[i]? = some xs[i] := List.getElem?_eq_getElem hlt
    refine Ix_in i rfl hlt ?_
    refine LdN_src s1 (vs := [.string xs[i].name, .slice xs[i].a xs[i].vals.length xs[i].c, .int .i64 xs[i].line, .int .i64 xs[i].col]) (rowPart (f := enV) (sz := 4) enV_len hx) rfl ?_
    clear s1
    (repeat first | refine goN ?_ | ((try conv => whnf); first | (refine Ar_gate ?_; first | (fail_if_success skip) | refine xA ?_) | (first | refine Do_str_eq ?_ | refine Do_str_ne ?_ | refine DoN_len tok rfl ?_ | refine Eqv_in ?_)) | ((try conv => whnf); (first | (refine St_gate ?_; refine xS ?_) | (refine StN_gate ?_; refine xN ?_)); clear H; intro w H))
    refine Call_of (hf xs[i] (List.getElem_mem hlt) (l' := []) H) ?_
    clear H
    rintro _ w ⟨rfl, H⟩
    refine Br_if (fun hp => ?_) (fun hp => ?_)
    · refine Ret_in ⟨vint ?_, H⟩
      have : xs.findIdx? p = some i := by
        rw [List.findIdx?_eq_some_iff_getElem]
        exact ⟨hlt, hp, fun j hj => by rw [hno j xs[j] hj (List.getElem?_eq_getElem (by omega))]; exact Bool.false_ne_true⟩
      rw [this]
    · (repeat first | refine goN ?_ | ((try conv => whnf); first | (refine Ar_gate ?_; first | (fail_if_success skip) | refine xA ?_) | (first | refine Do_str_eq ?_ | refine Do_str_ne ?_ | refine DoN_len tok rfl ?_ | refine Eqv_in ?_)) | ((try conv => whnf); (first | (refine St_gate ?_; refine xS ?_) | (refine StN_gate ?_; refine xN ?_)); clear H; intro w H))
      refine ⟨i + 1, ⟨congrArg some (vint (by omega)), trivial⟩, ⟨⟨by omega, fun j x hj hjx => ?_⟩, H⟩, by omega⟩
      rcases Nat.lt_or_ge j i with h | h
      · exact hno j x h hjx
      · obtain rfl : j = i := by omega
        rw [hx] at hjx; cases hjx; simpa using hp
  · refine Ret_in ⟨vint ?_, H⟩
    have : xs.findIdx? p = none := by
      rw [List.findIdx?_eq_none_iff]
      intro x hx
      obtain ⟨j, hj⟩ := List.getElem?_of_mem hx
      exact hno j x (by have := (List.getElem?_eq_some_iff.1 hj).1; omega) hj
    rw [this]
theorem enContains {w0 w : World} {l : List Res} {xs : List En} {a : Option Addr} {c : Nat} (H : Sep w0 w l) (hs : ∀ {w' : World} {l' : List Res}, Sep w0 w' (l' ++ l) → Src w' a xs.length 4 (xs.flatMap enV)) (hm : xs.length ≤ 10000000) {k : FuncId}  {p : En → Bool}
    (hf : ∀ x ∈ xs, ∀ {w : World} {l' : List Res}, Sep w0 w (l' ++ l) → Does Tryz.prog k #[enA x] w fun v w' => v = .bool (p x) ∧ Sep w0 w' (l' ++ l)) :
    Does Tryz.prog 42 #[.slice a xs.length c, .func (.func k) #[] #[]] w fun v w' => v = .bool (xs.any p) ∧ Sep w0 w' l := by
  refine Does_intro tok (Tryz.call42 _ _) Tryz.func42 rfl (by rfl) ?_
  (repeat first | refine goN ?_ | ((try conv => whnf); first | (refine Ar_gate ?_; first | (fail_if_success skip) | refine xA ?_) | (first | refine Do_str_eq ?_ | refine Do_str_ne ?_ | refine DoN_len tok rfl ?_ | refine Eqv_in ?_)) | ((try conv => whnf); (first | (refine St_gate ?_; refine xS ?_) | (refine StN_gate ?_; refine xN ?_)); clear H; intro w H))
  refine Call_of (enIndexW H hs hm hf) ?_
  clear H
  rintro _ w ⟨rfl, H⟩
  (repeat first | refine goN ?_ | ((try conv => whnf); first | (refine Ar_gate ?_; first | (fail_if_success skip) | refine xA ?_) | (first | refine Do_str_eq ?_ | refine Do_str_ne ?_ | refine DoN_len tok rfl ?_ | refine Eqv_in ?_)) | ((try conv => whnf); (first | (refine St_gate ?_; refine xS ?_) | (refine StN_gate ?_; refine xN ?_)); clear H; intro w H))
  refine Ret_in ⟨vbool ?_, H⟩
  cases h : xs.findIdx? p with
  | none =>
    rw [List.findIdx?_eq_none_iff] at h
    have : xs.any p = false := by rw [List.any_eq_false]; intro x hx; rw [h x hx]; exact Bool.false_ne_true
    rw [this]; rfl
  | some i =>
    obtain ⟨hlt, h1, _⟩ := List.findIdx?_eq_some_iff_getElem.1 h
    have : xs.any p = true := List.any_eq_true.2 ⟨xs[i], List.getElem_mem hlt, h1⟩
    rw [this]
    exact decide_eq_true (show (i : Int) ≥ 0 by omega)

theorem deIndexW {w0 w : World} {l : List Res} {xs : List De} {a : Option Addr} {c : Nat} (H : Sep w0 w l) (hs : ∀ {w' : World} {l' : List Res}, Sep w0 w' (l' ++ l) → Src w' a xs.length 7 (xs.flatMap deV)) (hm : xs.length ≤ 10000000) {k : FuncId}  {p : De → Bool}
    (hf : ∀ x ∈ xs, ∀ {w : World} {l' : List Res}, Sep w0 w (l' ++ l) → Does Tryz.prog k #[deA x] w fun v w' => v = .bool (p x) ∧ Sep w0 w' (l' ++ l)) :
    Does Tryz.prog 72 #[.slice a xs.length c, .func (.func k) #[] #[]] w fun v w' => v = .int .i64 (match xs.findIdx? p with | some i => (i : Int) | none => -1) ∧ Sep w0 w' l := by
  refine Does_intro tok (Tryz.call72 _ _) Tryz.func72 rfl (by rfl) ?_
  (repeat first | refine goN ?_ | ((try conv => whnf); first | (refine Ar_gate ?_; first | (fail_if_success skip) | refine xA ?_) | (first | refine Do_str_eq ?_ | refine Do_str_ne ?_ | refine DoN_len tok rfl ?_ | refine Eqv_in ?_)) | ((try conv => whnf); (first | (refine St_gate ?_; refine xS ?_) | (refine StN_gate ?_; refine xN ?_)); clear H; intro w H))
  refine Loop_intro (fun i : Nat => [(8, .int .i64 (i : Int))]) (fun i w => (i ≤ xs.length ∧ ∀ j x, j < i → xs[j]? = some x → p x = false) ∧ Sep w0 w l) (fun i => xs.length - i) 0 ⟨rfl, trivial⟩ ⟨⟨Nat.zero_le _, fun j x h => by omega⟩, H⟩ ?_
  clear H
  rintro i w ⟨⟨hi, hno⟩, H⟩
  simp only [] at hi hno ⊢
  refine Br_dec (fun k1 => ?_) (fun k1 => ?_)
  · have hlt : i < xs.length := by omega
    have s1 := hs (l' := []) H
    obtain ⟨ba, oa, rfl⟩ := s1.addr (by rw [rowLen deV_len]; omega)
    have hx : xs[i]? = some xs[i] := List.getElem?_eq_getElem hlt
    refine Ix_in i rfl hlt ?_
    refine LdN_src s1 (vs := [.string xs[i].name, .string xs[i].typ, .int .i64 xs[i].lo, .int .i64 xs[i].hi, .slice xs[i].a xs[i].begins.length xs[i].c, .int .i64 xs[i].line, .int .i64 xs[i].col]) (rowPart (f := deV) (sz := 7) deV_len hx) rfl ?_
    clear s1
    (repeat first | refine goN ?_ | ((try conv => whnf); first | (refine Ar_gate ?_; first | (fail_if_success skip) | refine xA ?_) | (first | refine Do_str_eq ?_ | refine Do_str_ne ?_ | refine DoN_len tok rfl ?_ | refine Eqv_in ?_)) | ((try conv => whnf); (first | (refine St_gate ?_; refine xS ?_) | (refine StN_gate ?_; refine xN ?_)); clear H; intro w H))
    refine Call_of (hf xs[i] (List.getElem_mem hlt) (l' := []) H) ?_
    clear H
    rintro _ w ⟨rfl, H⟩
    refine Br_if (fun hp => ?_) (fun hp => ?_)
    · refine Ret_in ⟨vint ?_, H⟩
      have : xs.findIdx? p = some i := by
        rw [List.findIdx?_eq_some_iff_getElem]
        exact ⟨hlt, hp, fun j hj => by rw [hno j xs[j] hj (List.getElem?_eq_getElem (by omega))]; exact Bool.false_ne_true⟩
      rw [this]
    · (repeat first | refine goN ?_ | ((try conv => whnf); first | (refine Ar_gate ?_; first | (fail_if_success skip) | refine xA ?_) | (first | refine Do_str_eq ?_ | refine Do_str_ne ?_ | refine DoN_len tok rfl ?_ | refine Eqv_in ?_)) | ((try conv => whnf); (first | (refine St_gate ?_; refine xS ?_) | (refine StN_gate ?_; refine xN ?_)); clear H; intro w H))
      refine ⟨i + 1, ⟨congrArg some (vint (by omega)), trivial⟩, ⟨⟨by omega, fun j x hj hjx => ?_⟩, H⟩, by omega⟩
      rcases Nat.lt_or_ge j i with h | h
      · exact hno j x h hjx
      · obtain rfl : j = i := by omega
        rw [hx] at hjx; cases hjx; simpa using hp
  · refine Ret_in ⟨vint ?_, H⟩
    have : xs.findIdx? p = none := by
      rw [List.findIdx?_eq_none_iff]
      intro x hx
      obtain ⟨j, hj⟩ := List.getElem?_of_mem hx
      exact hno j x (by have := (List.getElem?_eq_some_iff.1 hj).1; omega) hj
    rw [this]
theorem deContains {w0 w : World} {l : List Res} {xs : List De} {a : Option Addr} {c : Nat} (H : Sep w0 w l) (hs : ∀ {w' : World} {l' : List Res}, Sep w0 w' (l' ++ l) → Src w' a xs.length 7 (xs.flatMap deV)) (hm : xs.length ≤ 10000000) {k : FuncId}  {p : De → Bool}
    (hf : ∀ x ∈ xs, ∀ {w : World} {l' : List Res}, Sep w0 w (l' ++ l) → Does Tryz.prog k #[deA x] w fun v w' => v = .bool (p x) ∧ Sep w0 w' (l' ++ l)) :
    Does Tryz.prog 45 #[.slice a xs.length c, .func (.func k) #[] #[]] w fun v w' => v = .bool (xs.any p) ∧ Sep w0 w' l := by
  refine Does_intro tok (Tryz.call45 _ _) Tryz.func45 rfl (by rfl) ?_
  (repeat first | refine goN ?_ | ((try conv => whnf); first | (refine Ar_gate ?_; first | (fail_if_success skip) | refine xA ?_) | (first | refine Do_str_eq ?_ | refine Do_str_ne ?_ | refine DoN_len tok rfl ?_ | refine Eqv_in ?_)) | ((try conv => whnf); (first | (refine St_gate ?_; refine xS ?_) | (refine StN_gate ?_; refine xN ?_)); clear H; intro w H))
  refine Call_of (deIndexW H hs hm hf) ?_
  clear H
  rintro _ w ⟨rfl, H⟩
  (repeat first | refine goN ?_ | ((try conv => whnf); first | (refine Ar_gate ?_; first | (fail_if_success skip) | refine xA ?_) | (first | refine Do_str_eq ?_ | refine Do_str_ne ?_ | refine DoN_len tok rfl ?_ | refine Eqv_in ?_)) | ((try conv => whnf); (first | (refine St_gate ?_; refine xS ?_) | (refine StN_gate ?_; refine xN ?_)); clear H; intro w H))
  refine Ret_in ⟨vbool ?_, H⟩
  cases h : xs.findIdx? p with
  | none =>
    rw [List.findIdx?_eq_none_iff] at h
    have : xs.any p = false := by rw [List.any_eq_false]; intro x hx; rw [h x hx]; exact Bool.false_ne_true
    rw [this]; rfl
  | some i =>
    obtain ⟨hlt, h1, _⟩ := List.findIdx?_eq_some_iff_getElem.1 h
    have : xs.any p = true := List.any_eq_true.2 ⟨xs[i], List.getElem_mem hlt, h1⟩
    rw [this]
    exact decide_eq_true (show (i : Int) ≥ 0 by omega)

theorem asIndexW {w0 w : World} {l : List Res} {xs : List As} {a : Option Addr} {c : Nat} (H : Sep w0 w l) (hs : ∀ {w' : World} {l' : List Res}, Sep w0 w' (l' ++ l) → Src w' a xs.length 9 (xs.flatMap asV)) (hm : xs.length ≤ 10000000) {k : FuncId}  {p : As → Bool}
    (hf : ∀ x ∈ xs, ∀ {w : World} {l' : List Res}, Sep w0 w (l' ++ l) → Does Tryz.prog k #[asA x] w fun v w' => v = .bool (p x) ∧ Sep w0 w' (l' ++ l)) :
    Does Tryz.prog 105 #[.slice a xs.length c, .func (.func k) #[] #[]] w fun v w' => v = .int .i64 (match xs.findIdx? p with | some i => (i : Int) | none => -1) ∧ Sep w0 w' l := by
  refine Does_intro tok (Tryz.call105 _ _) Tryz.func105 rfl (by rfl) ?_
  (repeat first | refine goN ?_ | ((try conv => whnf); first | (refine Ar_gate ?_; first | (fail_if_success skip) | refine xA ?_) | (first | refine Do_str_eq ?_ | refine Do_str_ne ?_ | refine DoN_len tok rfl ?_ | refine Eqv_in ?_)) | ((try conv => whnf); (first | (refine St_gate ?_; refine xS ?_) | (refine StN_gate ?_; refine xN ?_)); clear H; intro w H))
  refine Loop_intro (fun i : Nat => [(8, .int .i64 (i : Int))]) (fun i w => (i ≤ xs.length ∧ ∀ j x, j < i → xs[j]? = some x → p x = false) ∧ Sep w0 w l) (fun i => xs.length - i) 0 ⟨rfl, trivial⟩ ⟨⟨Nat.zero_le _, fun j x h => by omega⟩, H⟩ ?_
  clear H
  rintro i w ⟨⟨hi, hno⟩, H⟩
  simp only [] at hi hno ⊢
  refine Br_dec (fun k1 => ?_) (fun k1 => ?_)
  · have hlt : i < xs.length := by omega
    have s1 := hs (l' := []) H
    obtain ⟨ba, oa, rfl⟩ := s1.addr (by rw [rowLen asV_len]; omega)
    have hx : xs[i]? = some xs[i] := List.getElem?_eq_getElem hlt
    refine Ix_in i rfl hlt ?_
    refine LdN_src s1 (vs := [.string xs[i].name, .int .i64 xs[i].to.op, .int .i64 xs[i].to.num, .string xs[i].to.name, .slice xs[i].to.at_ xs[i].to.kids.length xs[i].to.cap, .int .i64 xs[i].to.line, .int .i64 xs[i].to.col, .int .i64 xs[i].line, .int .i64 xs[i].col]) (rowPart (f := asV) (sz := 9) asV_len hx) rfl ?_
    clear s1
    (repeat first | refine goN ?_ | ((try conv => whnf); first | (refine Ar_gate ?_; first | (fail_if_success skip) | refine xA ?_) | (first | refine Do_str_eq ?_ | refine Do_str_ne ?_ | refine DoN_len tok rfl ?_ | refine Eqv_in ?_)) | ((try conv => whnf); (first | (refine St_gate ?_; refine xS ?_) | (refine StN_gate ?_; refine xN ?_)); clear H; intro w H))
    refine Call_of (hf xs[i] (List.getElem_mem hlt) (l' := []) H) ?_
    clear H
    rintro _ w ⟨rfl, H⟩
    refine Br_if (fun hp => ?_) (fun hp => ?_)
    · refine Ret_in ⟨vint ?_, H⟩
      have : xs.findIdx? p = some i := by
        rw [List.findIdx?_eq_some_iff_getElem]
        exact ⟨hlt, hp, fun j hj => by rw [hno j xs[j] hj (List.getElem?_eq_getElem (by omega))]; exact Bool.false_ne_true⟩
      rw [this]
    · (repeat first | refine goN ?_ | ((try conv => whnf); first | (refine Ar_gate ?_; first | (fail_if_success skip) | refine xA ?_) | (first | refine Do_str_eq ?_ | refine Do_str_ne ?_ | refine DoN_len tok rfl ?_ | refine Eqv_in ?_)) | ((try conv => whnf); (first | (refine St_gate ?_; refine xS ?_) | (refine StN_gate ?_; refine xN ?_)); clear H; intro w H))
      refine ⟨i + 1, ⟨congrArg some (vint (by omega)), trivial⟩, ⟨⟨by omega, fun j x hj hjx => ?_⟩, H⟩, by omega⟩
      rcases Nat.lt_or_ge j i with h | h
      · exact hno j x h hjx
      · obtain rfl : j = i := by omega
        rw [hx] at hjx; cases hjx; simpa using hp
  · refine Ret_in ⟨vint ?_, H⟩
    have : xs.findIdx? p = none := by
      rw [List.findIdx?_eq_none_iff]
      intro x hx
      obtain ⟨j, hj⟩ := List.getElem?_of_mem hx
      exact hno j x (by have := (List.getElem?_eq_some_iff.1 hj).1; omega) hj
    rw [this]
theorem asContains {w0 w : World} {l : List Res} {xs : List As} {a : Option Addr} {c : Nat} (H : Sep w0 w l) (hs : ∀ {w' : World} {l' : List Res}, Sep w0 w' (l' ++ l) → Src w' a xs.length 9 (xs.flatMap asV)) (hm : xs.length ≤ 10000000) {k : FuncId}  {p : As → Bool}
    (hf : ∀ x ∈ xs, ∀ {w : World} {l' : List Res}, Sep w0 w (l' ++ l) → Does Tryz.prog k #[asA x] w fun v w' => v = .bool (p x) ∧ Sep w0 w' (l' ++ l)) :
    Does Tryz.prog 94 #[.slice a xs.length c, .func (.func k) #[] #[]] w fun v w' => v = .bool (xs.any p) ∧ Sep w0 w' l := by
  refine Does_intro tok (Tryz.call94 _ _) Tryz.func94 rfl (by rfl) ?_
  (repeat first | refine goN ?_ | ((try conv => whnf); first | (refine Ar_gate ?_; first | (fail_if_success skip) | refine xA ?_) | (first | refine Do_str_eq ?_ | refine Do_str_ne ?_ | refine DoN_len tok rfl ?_ | refine Eqv_in ?_)) | ((try conv => whnf); (first | (refine St_gate ?_; refine xS ?_) | (refine StN_gate ?_; refine xN ?_)); clear H; intro w H))
  refine Call_of (asIndexW H hs hm hf) ?_
  clear H
  rintro _ w ⟨rfl, H⟩
  (repeat first | refine goN ?_ | ((try conv => whnf); first | (refine Ar_gate ?_; first | (fail_if_success skip) | refine xA ?_) | (first | refine Do_str_eq ?_ | refine Do_str_ne ?_ | refine DoN_len tok rfl ?_ | refine Eqv_in ?_)) | ((try conv => whnf); (first | (refine St_gate ?_; refine xS ?_) | (refine StN_gate ?_; refine xN ?_)); clear H; intro w H))
  refine Ret_in ⟨vbool ?_, H⟩
  cases h : xs.findIdx? p with
  | none =>
    rw [List.findIdx?_eq_none_iff] at h
    have : xs.any p = false := by rw [List.any_eq_false]; intro x hx; rw [h x hx]; exact Bool.false_ne_true
    rw [this]; rfl
  | some i =>
    obtain ⟨hlt, h1, _⟩ := List.findIdx?_eq_some_iff_getElem.1 h
    have : xs.any p = true := List.any_eq_true.2 ⟨xs[i], List.getElem_mem hlt, h1⟩
    rw [this]
    exact decide_eq_true (show (i : Int) ≥ 0 by omega)

theorem ruIndexW {w0 w : World} {l : List Res} {xs : List Ru} {a : Option Addr} {c : Nat} (H : Sep w0 w l) (hs : ∀ {w' : World} {l' : List Res}, Sep w0 w' (l' ++ l) → Src w' a xs.length 7 (xs.flatMap ruV)) (hm : xs.length ≤ 10000000) {k : FuncId}  {p : Ru → Bool}
    (hf : ∀ x ∈ xs, ∀ {w : World} {l' : List Res}, Sep w0 w (l' ++ l) → Does Tryz.prog k #[ruA x] w fun v w' => v = .bool (p x) ∧ Sep w0 w' (l' ++ l)) :
    Does Tryz.prog 93 #[.slice a xs.length c, .func (.func k) #[] #[]] w fun v w' => v = .int .i64 (match xs.findIdx? p with | some i => (i : Int) | none => -1) ∧ Sep w0 w' l := by
  refine Does_intro tok (Tryz.call93 _ _) Tryz.func93 rfl (by rfl) ?_
  (repeat first | refine goN ?_ | ((try conv => whnf); first | (refine Ar_gate ?_; first | (fail_if_success skip) | refine xA ?_) | (first | refine Do_str_eq ?_ | refine Do_str_ne ?_ | refine DoN_len tok rfl ?_ | refine Eqv_in ?_)) | ((try conv => whnf); (first | (refine St_gate ?_; refine xS ?_) | (refine StN_gate ?_; refine xN ?_)); clear H; intro w H))
  refine Loop_intro (fun i : Nat => [(8, .int .i64 (i : Int))]) (fun i w => (i ≤ xs.length ∧ ∀ j x, j < i → xs[j]? = some x → p x = false) ∧ Sep w0 w l) (fun i => xs.length - i) 0 ⟨rfl, trivial⟩ ⟨⟨Nat.zero_le _, fun j x h => by omega⟩, H⟩ ?_
  clear H
  rintro i w ⟨⟨hi, hno⟩, H⟩
  simp only [] at hi hno ⊢
  refine Br_dec (fun k1 => ?_) (fun k1 => ?_)
  · have hlt : i < xs.length := by omega
    have s1 := hs (l' := []) H
    obtain ⟨ba, oa, rfl⟩ := s1.addr (by rw [rowLen ruV_len]; omega)
    have hx : xs[i]? = some xs[i] := List.getElem?_eq_getElem hlt
    refine Ix_in i rfl hlt ?_
    refine LdN_src s1 (vs := [.int .i64 xs[i].when_.op, .int .i64 xs[i].when_.num, .string xs[i].when_.name, .slice xs[i].when_.at_ xs[i].when_.kids.length xs[i].when_.cap, .int .i64 xs[i].when_.line, .int .i64 xs[i].when_.col, .slice xs[i].a xs[i].acts.length xs[i].c]) (rowPart (f := ruV) (sz := 7) ruV_len hx) rfl ?_
    clear s1
    (repeat first | refine goN ?_ | ((try conv => whnf); first | (refine Ar_gate ?_; first | (fail_if_success skip) | refine xA ?_) | (first | refine Do_str_eq ?_ | refine Do_str_ne ?_ | refine DoN_len tok rfl ?_ | refine Eqv_in ?_)) | ((try conv => whnf); (first | (refine St_gate ?_; refine xS ?_) | (refine StN_gate ?_; refine xN ?_)); clear H; intro w H))
    refine Call_of (hf xs[i] (List.getElem_mem hlt) (l' := []) H) ?_
    clear H
    rintro _ w ⟨rfl, H⟩
    refine Br_if (fun hp => ?_) (fun hp => ?_)
    · refine Ret_in ⟨vint ?_, H⟩
      have : xs.findIdx? p = some i := by
        rw [List.findIdx?_eq_some_iff_getElem]
        exact ⟨hlt, hp, fun j hj => by rw [hno j xs[j] hj (List.getElem?_eq_getElem (by omega))]; exact Bool.false_ne_true⟩
      rw [this]
    · (repeat first | refine goN ?_ | ((try conv => whnf); first | (refine Ar_gate ?_; first | (fail_if_success skip) | refine xA ?_) | (first | refine Do_str_eq ?_ | refine Do_str_ne ?_ | refine DoN_len tok rfl ?_ | refine Eqv_in ?_)) | ((try conv => whnf); (first | (refine St_gate ?_; refine xS ?_) | (refine StN_gate ?_; refine xN ?_)); clear H; intro w H))
      refine ⟨i + 1, ⟨congrArg some (vint (by omega)), trivial⟩, ⟨⟨by omega, fun j x hj hjx => ?_⟩, H⟩, by omega⟩
      rcases Nat.lt_or_ge j i with h | h
      · exact hno j x h hjx
      · obtain rfl : j = i := by omega
        rw [hx] at hjx; cases hjx; simpa using hp
  · refine Ret_in ⟨vint ?_, H⟩
    have : xs.findIdx? p = none := by
      rw [List.findIdx?_eq_none_iff]
      intro x hx
      obtain ⟨j, hj⟩ := List.getElem?_of_mem hx
      exact hno j x (by have := (List.getElem?_eq_some_iff.1 hj).1; omega) hj
    rw [this]
theorem ruContains {w0 w : World} {l : List Res} {xs : List Ru} {a : Option Addr} {c : Nat} (H : Sep w0 w l) (hs : ∀ {w' : World} {l' : List Res}, Sep w0 w' (l' ++ l) → Src w' a xs.length 7 (xs.flatMap ruV)) (hm : xs.length ≤ 10000000) {k : FuncId}  {p : Ru → Bool}
    (hf : ∀ x ∈ xs, ∀ {w : World} {l' : List Res}, Sep w0 w (l' ++ l) → Does Tryz.prog k #[ruA x] w fun v w' => v = .bool (p x) ∧ Sep w0 w' (l' ++ l)) :
    Does Tryz.prog 75 #[.slice a xs.length c, .func (.func k) #[] #[]] w fun v w' => v = .bool (xs.any p) ∧ Sep w0 w' l := by
  refine Does_intro tok (Tryz.call75 _ _) Tryz.func75 rfl (by rfl) ?_
  (repeat first | refine goN ?_ | ((try conv => whnf); first | (refine Ar_gate ?_; first | (fail_if_success skip) | refine xA ?_) | (first | refine Do_str_eq ?_ | refine Do_str_ne ?_ | refine DoN_len tok rfl ?_ | refine Eqv_in ?_)) | ((try conv => whnf); (first | (refine St_gate ?_; refine xS ?_) | (refine StN_gate ?_; refine xN ?_)); clear H; intro w H))
  refine Call_of (ruIndexW H hs hm hf) ?_
  clear H
  rintro _ w ⟨rfl, H⟩
  (repeat first | refine goN ?_ | ((try conv => whnf); first | (refine Ar_gate ?_; first | (fail_if_success skip) | refine xA ?_) | (first | refine Do_str_eq ?_ | refine Do_str_ne ?_ | refine DoN_len tok rfl ?_ | refine Eqv_in ?_)) | ((try conv => whnf); (first | (refine St_gate ?_; refine xS ?_) | (refine StN_gate ?_; refine xN ?_)); clear H; intro w H))
  refine Ret_in ⟨vbool ?_, H⟩
  cases h : xs.findIdx? p with
  | none =>
    rw [List.findIdx?_eq_none_iff] at h
    have : xs.any p = false := by rw [List.any_eq_false]; intro x hx; rw [h x hx]; exact Bool.false_ne_true
    rw [this]; rfl
  | some i =>
    obtain ⟨hlt, h1, _⟩ := List.findIdx?_eq_some_iff_getElem.1 h
    have : xs.any p = true := List.any_eq_true.2 ⟨xs[i], List.getElem_mem hlt, h1⟩
    rw [this]
    exact decide_eq_true (show (i : Int) ≥ 0 by omega)

theorem prIndexW {w0 w : World} {l : List Res} {xs : List Pr} {a : Option Addr} {c : Nat} (H : Sep w0 w l) (hs : ∀ {w' : World} {l' : List Res}, Sep w0 w' (l' ++ l) → Src w' a xs.length 4 (xs.flatMap prV)) (hm : xs.length ≤ 10000000) {k : FuncId}  {p : Pr → Bool}
    (hf : ∀ x ∈ xs, ∀ {w : World} {l' : List Res}, Sep w0 w (l' ++ l) → Does Tryz.prog k #[prA x] w fun v w' => v = .bool (p x) ∧ Sep w0 w' (l' ++ l)) :
    Does Tryz.prog 74 #[.slice a xs.length c, .func (.func k) #[] #[]] w fun v w' => v = .int .i64 (match xs.findIdx? p with | some i => (i : Int) | none => -1) ∧ Sep w0 w' l := by
  refine Does_intro tok (Tryz.call74 _ _) Tryz.func74 rfl (by rfl) ?_
  (repeat first | refine goN ?_ | ((try conv => whnf); first | (refine Ar_gate ?_; first | (fail_if_success skip) | refine xA ?_) | (first | refine Do_str_eq ?_ | refine Do_str_ne ?_ | refine DoN_len tok rfl ?_ | refine Eqv_in ?_)) | ((try conv => whnf); (first | (refine St_gate ?_; refine xS ?_) | (refine StN_gate ?_; refine xN ?_)); clear H; intro w H))
  refine Loop_intro (fun i : Nat => [(8, .int .i64 (i : Int))]) (fun i w => (i ≤ xs.length ∧ ∀ j x, j < i → xs[j]? = some x → p x = false) ∧ Sep w0 w l) (fun i => xs.length - i) 0 ⟨rfl, trivial⟩ ⟨⟨Nat.zero_le _, fun j x h => by omega⟩, H⟩ ?_
  clear H
  rintro i w ⟨⟨hi, hno⟩, H⟩
  simp only [] at hi hno ⊢
  refine Br_dec (fun k1 => ?_) (fun k1 => ?_)
  · have hlt : i < xs.length := by omega
    have s1 := hs (l' := []) H
    obtain ⟨ba, oa, rfl⟩ := s1.addr (by rw [rowLen prV_len]; omega)
    have hx : xs[i]? = some xs[i] := List.getElem?_eq_getElem hlt
    refine Ix_in i rfl hlt ?_
    refine LdN_src s1 (vs := [.string xs[i].name, .slice xs[i].a xs[i].rules.length xs[i].c, .int .i64 xs[i].line, .int .i64 xs[i].col]) (rowPart (f := prV) (sz := 4) prV_len hx) rfl ?_
    clear s1
    (repeat first | refine goN ?_ | ((try conv => whnf); first | (refine Ar_gate ?_; first | (fail_if_success skip) | refine xA ?_) | (first | refine Do_str_eq ?_ | refine Do_str_ne ?_ | refine DoN_len tok rfl ?_ | refine Eqv_in ?_)) | ((try conv => whnf); (first | (refine St_gate ?_; refine xS ?_) | (refine StN_gate ?_; refine xN ?_)); clear H; intro w H))
    refine Call_of (hf xs[i] (List.getElem_mem hlt) (l' := []) H) ?_
    clear H
    rintro _ w ⟨rfl, H⟩
    refine Br_if (fun hp => ?_) (fun hp => ?_)
    · refine Ret_in ⟨vint ?_, H⟩
      have : xs.findIdx? p = some i := by
        rw [List.findIdx?_eq_some_iff_getElem]
        exact ⟨hlt, hp, fun j hj => by rw [hno j xs[j] hj (List.getElem?_eq_getElem (by omega))]; exact Bool.false_ne_true⟩
      rw [this]
    · (repeat first | refine goN ?_ | ((try conv => whnf); first | (refine Ar_gate ?_; first | (fail_if_success skip) | refine xA ?_) | (first | refine Do_str_eq ?_ | refine Do_str_ne ?_ | refine DoN_len tok rfl ?_ | refine Eqv_in ?_)) | ((try conv => whnf); (first | (refine St_gate ?_; refine xS ?_) | (refine StN_gate ?_; refine xN ?_)); clear H; intro w H))
      refine ⟨i + 1, ⟨congrArg some (vint (by omega)), trivial⟩, ⟨⟨by omega, fun j x hj hjx => ?_⟩, H⟩, by omega⟩
      rcases Nat.lt_or_ge j i with h | h
      · exact hno j x h hjx
      · obtain rfl : j = i := by omega
        rw [hx] at hjx; cases hjx; simpa using hp
  · refine Ret_in ⟨vint ?_, H⟩
    have : xs.findIdx? p = none := by
      rw [List.findIdx?_eq_none_iff]
      intro x hx
      obtain ⟨j, hj⟩ := List.getElem?_of_mem hx
      exact hno j x (by have := (List.getElem?_eq_some_iff.1 hj).1; omega) hj
    rw [this]
theorem prContains {w0 w : World} {l : List Res} {xs : List Pr} {a : Option Addr} {c : Nat} (H : Sep w0 w l) (hs : ∀ {w' : World} {l' : List Res}, Sep w0 w' (l' ++ l) → Src w' a xs.length 4 (xs.flatMap prV)) (hm : xs.length ≤ 10000000) {k : FuncId}  {p : Pr → Bool}
    (hf : ∀ x ∈ xs, ∀ {w : World} {l' : List Res}, Sep w0 w (l' ++ l) → Does Tryz.prog k #[prA x] w fun v w' => v = .bool (p x) ∧ Sep w0 w' (l' ++ l)) :
    Does Tryz.prog 48 #[.slice a xs.length c, .func (.func k) #[] #[]] w fun v w' => v = .bool (xs.any p) ∧ Sep w0 w' l := by
  refine Does_intro tok (Tryz.call48 _ _) Tryz.func48 rfl (by rfl) ?_
  (repeat first | refine goN ?_ | ((try conv => whnf); first | (refine Ar_gate ?_; first | (fail_if_success skip) | refine xA ?_) | (first | refine Do_str_eq ?_ | refine Do_str_ne ?_ | refine DoN_len tok rfl ?_ | refine Eqv_in ?_)) | ((try conv => whnf); (first | (refine St_gate ?_; refine xS ?_) | (refine StN_gate ?_; refine xN ?_)); clear H; intro w H))
  refine Call_of (prIndexW H hs hm hf) ?_
  clear H
  rintro _ w ⟨rfl, H⟩
  (repeat first | refine goN ?_ | ((try conv => whnf); first | (refine Ar_gate ?_; first | (fail_if_success skip) | refine xA ?_) | (first | refine Do_str_eq ?_ | refine Do_str_ne ?_ | refine DoN_len tok rfl ?_ | refine Eqv_in ?_)) | ((try conv => whnf); (first | (refine St_gate ?_; refine xS ?_) | (refine StN_gate ?_; refine xN ?_)); clear H; intro w H))
  refine Ret_in ⟨vbool ?_, H⟩
  cases h : xs.findIdx? p with
  | none =>
    rw [List.findIdx?_eq_none_iff] at h
    have : xs.any p = false := by rw [List.any_eq_false]; intro x hx; rw [h x hx]; exact Bool.false_ne_true
    rw [this]; rfl
  | some i =>
    obtain ⟨hlt, h1, _⟩ := List.findIdx?_eq_some_iff_getElem.1 h
    have : xs.any p = true := List.any_eq_true.2 ⟨xs[i], List.getElem_mem hlt, h1⟩
    rw [this]
    exact decide_eq_true (show (i : Int) ≥ 0 by omega)

theorem stIndex {xs : List ByteArray} {a : Option Addr} {c : Nat} {w : World} (hs : Src w a xs.length 1 (xs.map Value.string)) {k : FuncId}  {p : ByteArray → Bool} (hm : xs.length ≤ maxLen)
    (hf : ∀ x ∈ xs, Does Tryz.prog k #[Value.string x] w fun v w' => v = .bool (p x) ∧ w = w') :
    Does Tryz.prog 92 #[.slice a xs.length c, .func (.func k) #[] #[]] w fun v w' => v = .int .i64 (match xs.findIdx? p with | some i => (i : Int) | none => -1) ∧ w = w' := by
  refine Does_intro tok (Tryz.call92 _ _) Tryz.func92 rfl (by rfl) ?_
  refine Loop_intro (fun i : Nat => [(8, .int .i64 (i : Int))]) (fun i w' => w = w' ∧ i ≤ xs.length ∧ ∀ j x, j < i → xs[j]? = some x → p x = false) (fun i => xs.length - i) 0 ⟨rfl, trivial⟩ ⟨rfl, Nat.zero_le _, fun j x h => by omega⟩ ?_
  rintro i _ ⟨rfl, hi, hno⟩
  simp only [] at hi hno ⊢
  unfold maxLen at hm
  refine Br_dec (fun k1 => ?_) (fun k1 => ?_)
  · have hlt : i < xs.length := by omega
    obtain ⟨b, o, rfl⟩ := hs.addr (by rw [List.length_map]; omega)
    refine Ix_in i rfl hlt ?_
    have hx : xs[i]? = some xs[i] := List.getElem?_eq_getElem hlt
    refine Ld_src (j := i) hs (v := Value.string xs[i]) (by rw [List.getElem?_map, hx]; rfl) ?_
    (repeat first | refine goN ?_ | ((try conv => whnf); first | (refine Ar_gate ?_; first | (fail_if_success skip) | refine xA ?_) | (first | refine Do_str_eq ?_ | refine Do_str_ne ?_ | refine DoN_len tok rfl ?_ | refine Eqv_in ?_)) | ((try conv => whnf); (first | (refine St_gate ?_; refine xS ?_) | (refine StN_gate ?_; refine xN ?_)); clear H; intro w H))
    refine Call_of (hf xs[i] (List.getElem_mem hlt)) ?_
    rintro _ _ ⟨rfl, rfl⟩
    refine Br_if (fun hp => ?_) (fun hp => ?_)
    · refine Ret_in ⟨vint ?_, rfl⟩
      have : xs.findIdx? p = some i := by
        rw [List.findIdx?_eq_some_iff_getElem]
        exact ⟨hlt, hp, fun j hj => by rw [hno j xs[j] hj (List.getElem?_eq_getElem (by omega))]; exact Bool.false_ne_true⟩
      rw [this]
    · (repeat first | refine goN ?_ | ((try conv => whnf); first | (refine Ar_gate ?_; first | (fail_if_success skip) | refine xA ?_) | (first | refine Do_str_eq ?_ | refine Do_str_ne ?_ | refine DoN_len tok rfl ?_ | refine Eqv_in ?_)) | ((try conv => whnf); (first | (refine St_gate ?_; refine xS ?_) | (refine StN_gate ?_; refine xN ?_)); clear H; intro w H))
      refine ⟨i + 1, ⟨congrArg some (vint (by omega)), trivial⟩, ⟨rfl, by omega, fun j x hj hjx => ?_⟩, by omega⟩
      rcases Nat.lt_or_ge j i with h | h
      · exact hno j x h hjx
      · obtain rfl : j = i := by omega
        rw [hx] at hjx; cases hjx; simpa using hp
  · refine Ret_in ⟨vint ?_, rfl⟩
    have : xs.findIdx? p = none := by
      rw [List.findIdx?_eq_none_iff]
      intro x hx
      obtain ⟨j, hj⟩ := List.getElem?_of_mem hx
      exact hno j x (by have := (List.getElem?_eq_some_iff.1 hj).1; omega) hj
    rw [this]

theorem stContains {xs : List ByteArray} {a : Option Addr} {c : Nat} {w : World} (hs : Src w a xs.length 1 (xs.map Value.string)) {k : FuncId}  {p : ByteArray → Bool} (hm : xs.length ≤ maxLen)
    (hf : ∀ x ∈ xs, Does Tryz.prog k #[Value.string x] w fun v w' => v = .bool (p x) ∧ w = w') :
    Does Tryz.prog 70 #[.slice a xs.length c, .func (.func k) #[] #[]] w fun v w' => v = .bool (xs.any p) ∧ w = w' := by
  refine Does_intro tok (Tryz.call70 _ _) Tryz.func70 rfl (by rfl) ?_
  (repeat first | refine goN ?_ | ((try conv => whnf); first | (refine Ar_gate ?_; first | (fail_if_success skip) | refine xA ?_) | (first | refine Do_str_eq ?_ | refine Do_str_ne ?_ | refine DoN_len tok rfl ?_ | refine Eqv_in ?_)) | ((try conv => whnf); (first | (refine St_gate ?_; refine xS ?_) | (refine StN_gate ?_; refine xN ?_)); clear H; intro w H))
  refine Call_of (stIndex hs hm hf) ?_
  rintro _ _ ⟨rfl, rfl⟩
  (repeat first | refine goN ?_ | ((try conv => whnf); first | (refine Ar_gate ?_; first | (fail_if_success skip) | refine xA ?_) | (first | refine Do_str_eq ?_ | refine Do_str_ne ?_ | refine DoN_len tok rfl ?_ | refine Eqv_in ?_)) | ((try conv => whnf); (first | (refine St_gate ?_; refine xS ?_) | (refine StN_gate ?_; refine xN ?_)); clear H; intro w H))
  refine Ret_in ⟨vbool ?_, rfl⟩
  cases h : xs.findIdx? p with
  | none =>
    rw [List.findIdx?_eq_none_iff] at h
    have : xs.any p = false := by rw [List.any_eq_false]; intro x hx; rw [h x hx]; exact Bool.false_ne_true
    rw [this]; rfl
  | some i =>
    obtain ⟨hlt, h1, _⟩ := List.findIdx?_eq_some_iff_getElem.1 h
    have : xs.any p = true := List.any_eq_true.2 ⟨xs[i], List.getElem_mem hlt, h1⟩
    rw [this]
    exact decide_eq_true (show (i : Int) ≥ 0 by omega)

section
variable {w0 w : World} {l : List Res}
theorem any_not {α : Type} (l : List α) (p : α → Bool) : (!l.any fun k => !p k) = l.all p := (List.all_eq_not_any_not ..).symm
theorem rMany (n k : Nat) (hn : n ≤ 100000000) (hk : k ≤ 1) : Does Tryz.prog 41 #[.int .i64 (n : Int), .int .i64 (k : Int)] w fun v w' => v = .bool (manyB n k) ∧ w = w' := by
  refine Does_intro tok (Tryz.call41 _ _) Tryz.func41 rfl (by rfl) ?_
  unfold manyB
  by_cases h1 : k ≤ n
  case neg =>
    (repeat first | refine goN ?_ | ((try conv => whnf); first | (refine Ar_gate ?_; first | (fail_if_success skip) | refine xA ?_) | (first | refine Do_str_eq ?_ | refine Do_str_ne ?_ | refine DoN_len tok rfl ?_ | refine Eqv_in ?_)) | ((try conv => whnf); (first | (refine St_gate ?_; refine xS ?_) | (refine StN_gate ?_; refine xN ?_)); clear H; intro w H))
    exact Ret_in ⟨by rw [decide_eq_false h1]; rfl, rfl⟩
  by_cases h2 : n ≤ 32
  · (repeat first | refine goN ?_ | ((try conv => whnf); first | (refine Ar_gate ?_; first | (fail_if_success skip) | refine xA ?_) | (first | refine Do_str_eq ?_ | refine Do_str_ne ?_ | refine DoN_len tok rfl ?_ | refine Eqv_in ?_)) | ((try conv => whnf); (first | (refine St_gate ?_; refine xS ?_) | (refine StN_gate ?_; refine xN ?_)); clear H; intro w H))
    exact Ret_in ⟨congrArg Value.bool (by rw [decide_eq_true h1, decide_eq_true h2]; simp <;> omega), rfl⟩
  · (repeat first | refine goN ?_ | ((try conv => whnf); first | (refine Ar_gate ?_; first | (fail_if_success skip) | refine xA ?_) | (first | refine Do_str_eq ?_ | refine Do_str_ne ?_ | refine DoN_len tok rfl ?_ | refine Eqv_in ?_)) | ((try conv => whnf); (first | (refine St_gate ?_; refine xS ?_) | (refine StN_gate ?_; refine xN ?_)); clear H; intro w H))
    exact Ret_in ⟨congrArg Value.bool (by rw [decide_eq_true h1, decide_eq_false h2]; simp <;> omega), rfl⟩
theorem rEnum1 (s : ByteArray) (hs : s.size ≤ 2000000) : Does Tryz.prog 71 #[.string s] w fun v w' => v = .bool (!nameB s) ∧ w = w' := by
  refine Does_intro tok (Tryz.call71 _ _) Tryz.func71 rfl (by rfl) ?_
  (repeat first | refine goN ?_ | ((try conv => whnf); first | (refine Ar_gate ?_; first | (fail_if_success skip) | refine xA ?_) | (first | refine Do_str_eq ?_ | refine Do_str_ne ?_ | refine DoN_len tok rfl ?_ | refine Eqv_in ?_)) | ((try conv => whnf); (first | (refine St_gate ?_; refine xS ?_) | (refine StN_gate ?_; refine xN ?_)); clear H; intro w H))
  refine Call_of (rName s hs) ?_
  rintro _ _ ⟨rfl, rfl⟩
  (repeat first | refine goN ?_ | ((try conv => whnf); first | (refine Ar_gate ?_; first | (fail_if_success skip) | refine xA ?_) | (first | refine Do_str_eq ?_ | refine Do_str_ne ?_ | refine DoN_len tok rfl ?_ | refine Eqv_in ?_)) | ((try conv => whnf); (first | (refine St_gate ?_; refine xS ?_) | (refine StN_gate ?_; refine xN ?_)); clear H; intro w H))
  exact Ret_in ⟨rfl, rfl⟩
theorem tEnum (e : En) (H : Sep w0 w l) (hs : EnOk w0 e) (hb : enK e ≤ 2000000) : Does Tryz.prog 44 #[enA e] w fun v w' => v = .bool (enB e) ∧ Sep w0 w' l := by
  refine Does_intro tok (Tryz.call44 _ _) Tryz.func44 rfl (by rfl) ?_
  have hlen := sum_len (l := e.vals) (g := fun v => v.size + 1) fun x => by omega
  have hval : ∀ v ∈ e.vals, v.size ≤ 2000000 := fun v hv => by
    have := sum_mem (g := fun v : ByteArray => v.size + 1) hv
    unfold enK at hb; omega
  unfold enK at hb
  unfold enB
  (repeat first | refine goN ?_ | ((try conv => whnf); first | (refine Ar_gate ?_; first | (fail_if_success skip) | refine xA ?_) | (first | refine Do_str_eq ?_ | refine Do_str_ne ?_ | refine DoN_len tok rfl ?_ | refine Eqv_in ?_)) | ((try conv => whnf); (first | (refine St_gate ?_; refine xS ?_) | (refine StN_gate ?_; refine xN ?_)); clear H; intro w H))
  (refine Nw_sep H ?_; clear H; intro xb w H; (try simp only [Value.cells, List.toList_toArray, List.append_nil, List.cons_append, List.nil_append] at H))
  (repeat first | refine goN ?_ | ((try conv => whnf); first | (refine Ar_gate ?_; first | (fail_if_success skip) | refine xA ?_) | (first | refine Do_str_eq ?_ | refine Do_str_ne ?_ | refine DoN_len tok rfl ?_ | refine Eqv_in ?_)) | ((try conv => whnf); (first | (refine St_gate ?_; refine xS ?_) | (refine StN_gate ?_; refine xN ?_)); clear H; intro w H))
  refine Call_of (rName e.name (by omega)) ?_
  rintro _ _ ⟨rfl, rfl⟩
  cases h1 : nameB e.name with
  | false =>
    (repeat first | refine goN ?_ | ((try conv => whnf); first | (refine Ar_gate ?_; first | (fail_if_success skip) | refine xA ?_) | (first | refine Do_str_eq ?_ | refine Do_str_ne ?_ | refine DoN_len tok rfl ?_ | refine Eqv_in ?_)) | ((try conv => whnf); (first | (refine St_gate ?_; refine xS ?_) | (refine StN_gate ?_; refine xN ?_)); clear H; intro w H))
    exact Ret_in ⟨rfl, H.tail⟩
  | true =>
    (repeat first | refine goN ?_ | ((try conv => whnf); first | (refine Ar_gate ?_; first | (fail_if_success skip) | refine xA ?_) | (first | refine Do_str_eq ?_ | refine Do_str_ne ?_ | refine DoN_len tok rfl ?_ | refine Eqv_in ?_)) | ((try conv => whnf); (first | (refine St_gate ?_; refine xS ?_) | (refine StN_gate ?_; refine xN ?_)); clear H; intro w H))
    refine Call_of (rMany e.vals.length 1 (by omega) (by decide)) ?_
    rintro _ _ ⟨rfl, rfl⟩
    cases h2 : manyB e.vals.length 1 with
    | false =>
      (repeat first | refine goN ?_ | ((try conv => whnf); first | (refine Ar_gate ?_; first | (fail_if_success skip) | refine xA ?_) | (first | refine Do_str_eq ?_ | refine Do_str_ne ?_ | refine DoN_len tok rfl ?_ | refine Eqv_in ?_)) | ((try conv => whnf); (first | (refine St_gate ?_; refine xS ?_) | (refine StN_gate ?_; refine xN ?_)); clear H; intro w H))
      exact Ret_in ⟨rfl, H.tail⟩
    | true =>
      (repeat first | refine goN ?_ | ((try conv => whnf); first | (refine Ar_gate ?_; first | (fail_if_success skip) | refine xA ?_) | (first | refine Do_str_eq ?_ | refine Do_str_ne ?_ | refine DoN_len tok rfl ?_ | refine Eqv_in ?_)) | ((try conv => whnf); (first | (refine St_gate ?_; refine xS ?_) | (refine StN_gate ?_; refine xN ?_)); clear H; intro w H))
      refine Call_of (stContains (p := fun v => !nameB v) (H.rd hs.1) (by unfold maxLen; omega) fun x hx => rEnum1 x (hval x hx)) ?_
      rintro _ _ ⟨rfl, rfl⟩
      (repeat first | refine goN ?_ | ((try conv => whnf); first | (refine Ar_gate ?_; first | (fail_if_success skip) | refine xA ?_) | (first | refine Do_str_eq ?_ | refine Do_str_ne ?_ | refine DoN_len tok rfl ?_ | refine Eqv_in ?_)) | ((try conv => whnf); (first | (refine St_gate ?_; refine xS ?_) | (refine StN_gate ?_; refine xN ?_)); clear H; intro w H))
      exact Ret_in ⟨congrArg Value.bool (any_not ..), H.tail⟩
theorem tEnum1 (e : En) (H : Sep w0 w l) (hs : EnOk w0 e) (hb : enK e ≤ 2000000) : Does Tryz.prog 43 #[enA e] w fun v w' => v = .bool (!enB e) ∧ Sep w0 w' l := by
  refine Does_intro tok (Tryz.call43 _ _) Tryz.func43 rfl (by rfl) ?_
  (repeat first | refine goN ?_ | ((try conv => whnf); first | (refine Ar_gate ?_; first | (fail_if_success skip) | refine xA ?_) | (first | refine Do_str_eq ?_ | refine Do_str_ne ?_ | refine DoN_len tok rfl ?_ | refine Eqv_in ?_)) | ((try conv => whnf); (first | (refine St_gate ?_; refine xS ?_) | (refine StN_gate ?_; refine xN ?_)); clear H; intro w H))
  (refine Nw_sep H ?_; clear H; intro xb w H; (try simp only [Value.cells, List.toList_toArray, List.append_nil, List.cons_append, List.nil_append] at H))
  (repeat first | refine goN ?_ | ((try conv => whnf); first | (refine Ar_gate ?_; first | (fail_if_success skip) | refine xA ?_) | (first | refine Do_str_eq ?_ | refine Do_str_ne ?_ | refine DoN_len tok rfl ?_ | refine Eqv_in ?_)) | ((try conv => whnf); (first | (refine St_gate ?_; refine xS ?_) | (refine StN_gate ?_; refine xN ?_)); clear H; intro w H))
  refine Call_of (tEnum e H hs hb) ?_
  clear H
  rintro _ w ⟨rfl, H⟩
  (repeat first | refine goN ?_ | ((try conv => whnf); first | (refine Ar_gate ?_; first | (fail_if_success skip) | refine xA ?_) | (first | refine Do_str_eq ?_ | refine Do_str_ne ?_ | refine DoN_len tok rfl ?_ | refine Eqv_in ?_)) | ((try conv => whnf); (first | (refine St_gate ?_; refine xS ?_) | (refine StN_gate ?_; refine xN ?_)); clear H; intro w H))
  exact Ret_in ⟨rfl, H.tail⟩
theorem tDecl0 (x : Ex) (H : Sep w0 w l) (hs : TOk w0 x) (hb : bulk x ≤ 2000000) : Does Tryz.prog 73 #[exA x] w fun v w' => v = .bool (!writB x) ∧ Sep w0 w' l := by
  refine Does_intro tok (Tryz.call73 _ _) Tryz.func73 rfl (by rfl) ?_
  (repeat first | refine goN ?_ | ((try conv => whnf); first | (refine Ar_gate ?_; first | (fail_if_success skip) | refine xA ?_) | (first | refine Do_str_eq ?_ | refine Do_str_ne ?_ | refine DoN_len tok rfl ?_ | refine Eqv_in ?_)) | ((try conv => whnf); (first | (refine St_gate ?_; refine xS ?_) | (refine StN_gate ?_; refine xN ?_)); clear H; intro w H))
  (refine Nw_sep H ?_; clear H; intro xb w H; (try simp only [Value.cells, List.toList_toArray, List.append_nil, List.cons_append, List.nil_append] at H))
  (repeat first | refine goN ?_ | ((try conv => whnf); first | (refine Ar_gate ?_; first | (fail_if_success skip) | refine xA ?_) | (first | refine Do_str_eq ?_ | refine Do_str_ne ?_ | refine DoN_len tok rfl ?_ | refine Eqv_in ?_)) | ((try conv => whnf); (first | (refine St_gate ?_; refine xS ?_) | (refine StN_gate ?_; refine xN ?_)); clear H; intro w H))
  refine Call_of (tWritten x H (fun h => hs.rd h) hb) ?_
  clear H
  rintro _ w ⟨rfl, H⟩
  (repeat first | refine goN ?_ | ((try conv => whnf); first | (refine Ar_gate ?_; first | (fail_if_success skip) | refine xA ?_) | (first | refine Do_str_eq ?_ | refine Do_str_ne ?_ | refine DoN_len tok rfl ?_ | refine Eqv_in ?_)) | ((try conv => whnf); (first | (refine St_gate ?_; refine xS ?_) | (refine StN_gate ?_; refine xN ?_)); clear H; intro w H))
  exact Ret_in ⟨rfl, H.tail⟩
theorem tAssign (a : As) (H : Sep w0 w l) (hs : TOk w0 a.to) (hb : asK a ≤ 2000000) : Does Tryz.prog 96 #[asA a] w fun v w' => v = .bool (asB a) ∧ Sep w0 w' l := by
  refine Does_intro tok (Tryz.call96 _ _) Tryz.func96 rfl (by rfl) ?_
  unfold asK at hb
  unfold asB
  (repeat first | refine goN ?_ | ((try conv => whnf); first | (refine Ar_gate ?_; first | (fail_if_success skip) | refine xA ?_) | (first | refine Do_str_eq ?_ | refine Do_str_ne ?_ | refine DoN_len tok rfl ?_ | refine Eqv_in ?_)) | ((try conv => whnf); (first | (refine St_gate ?_; refine xS ?_) | (refine StN_gate ?_; refine xN ?_)); clear H; intro w H))
  (refine Nw_sep H ?_; clear H; intro xb w H; (try simp only [Value.cells, List.toList_toArray, List.append_nil, List.cons_append, List.nil_append] at H))
  (repeat first | refine goN ?_ | ((try conv => whnf); first | (refine Ar_gate ?_; first | (fail_if_success skip) | refine xA ?_) | (first | refine Do_str_eq ?_ | refine Do_str_ne ?_ | refine DoN_len tok rfl ?_ | refine Eqv_in ?_)) | ((try conv => whnf); (first | (refine St_gate ?_; refine xS ?_) | (refine StN_gate ?_; refine xN ?_)); clear H; intro w H))
  refine Call_of (rName a.name (by omega)) ?_
  rintro _ _ ⟨rfl, rfl⟩
  cases h1 : nameB a.name with
  | false =>
    (repeat first | refine goN ?_ | ((try conv => whnf); first | (refine Ar_gate ?_; first | (fail_if_success skip) | refine xA ?_) | (first | refine Do_str_eq ?_ | refine Do_str_ne ?_ | refine DoN_len tok rfl ?_ | refine Eqv_in ?_)) | ((try conv => whnf); (first | (refine St_gate ?_; refine xS ?_) | (refine StN_gate ?_; refine xN ?_)); clear H; intro w H))
    exact Ret_in ⟨rfl, H.tail⟩
  | true =>
    (repeat first | refine goN ?_ | ((try conv => whnf); first | (refine Ar_gate ?_; first | (fail_if_success skip) | refine xA ?_) | (first | refine Do_str_eq ?_ | refine Do_str_ne ?_ | refine DoN_len tok rfl ?_ | refine Eqv_in ?_)) | ((try conv => whnf); (first | (refine St_gate ?_; refine xS ?_) | (refine StN_gate ?_; refine xN ?_)); clear H; intro w H))
    refine LdN_src (o := 0) (j := 1) (H.srcCM 1 9 (.head _) rfl (by decide)) (vs := [.int .i64 a.to.op, .int .i64 a.to.num, .string a.to.name, .slice a.to.at_ a.to.kids.length a.to.cap, .int .i64 a.to.line, .int .i64 a.to.col]) rfl rfl ?_
    (repeat first | refine goN ?_ | ((try conv => whnf); first | (refine Ar_gate ?_; first | (fail_if_success skip) | refine xA ?_) | (first | refine Do_str_eq ?_ | refine Do_str_ne ?_ | refine DoN_len tok rfl ?_ | refine Eqv_in ?_)) | ((try conv => whnf); (first | (refine St_gate ?_; refine xS ?_) | (refine StN_gate ?_; refine xN ?_)); clear H; intro w H))
    refine Call_of (tWritten a.to H (fun h => hs.rd h) (by omega)) ?_
    clear H
    rintro _ w ⟨rfl, H⟩
    (repeat first | refine goN ?_ | ((try conv => whnf); first | (refine Ar_gate ?_; first | (fail_if_success skip) | refine xA ?_) | (first | refine Do_str_eq ?_ | refine Do_str_ne ?_ | refine DoN_len tok rfl ?_ | refine Eqv_in ?_)) | ((try conv => whnf); (first | (refine St_gate ?_; refine xS ?_) | (refine StN_gate ?_; refine xN ?_)); clear H; intro w H))
    exact Ret_in ⟨rfl, H.tail⟩
theorem tAssign1 (x : As) (H : Sep w0 w l) (hs : TOk w0 x.to) (hb : asK x ≤ 2000000) : Does Tryz.prog 95 #[asA x] w fun v w' => v = .bool (!asB x) ∧ Sep w0 w' l := by
  refine Does_intro tok (Tryz.call95 _ _) Tryz.func95 rfl (by rfl) ?_
  (repeat first | refine goN ?_ | ((try conv => whnf); first | (refine Ar_gate ?_; first | (fail_if_success skip) | refine xA ?_) | (first | refine Do_str_eq ?_ | refine Do_str_ne ?_ | refine DoN_len tok rfl ?_ | refine Eqv_in ?_)) | ((try conv => whnf); (first | (refine St_gate ?_; refine xS ?_) | (refine StN_gate ?_; refine xN ?_)); clear H; intro w H))
  (refine Nw_sep H ?_; clear H; intro xb w H; (try simp only [Value.cells, List.toList_toArray, List.append_nil, List.cons_append, List.nil_append] at H))
  (repeat first | refine goN ?_ | ((try conv => whnf); first | (refine Ar_gate ?_; first | (fail_if_success skip) | refine xA ?_) | (first | refine Do_str_eq ?_ | refine Do_str_ne ?_ | refine DoN_len tok rfl ?_ | refine Eqv_in ?_)) | ((try conv => whnf); (first | (refine St_gate ?_; refine xS ?_) | (refine StN_gate ?_; refine xN ?_)); clear H; intro w H))
  refine Call_of (tAssign x H hs hb) ?_
  clear H
  rintro _ w ⟨rfl, H⟩
  (repeat first | refine goN ?_ | ((try conv => whnf); first | (refine Ar_gate ?_; first | (fail_if_success skip) | refine xA ?_) | (first | refine Do_str_eq ?_ | refine Do_str_ne ?_ | refine DoN_len tok rfl ?_ | refine Eqv_in ?_)) | ((try conv => whnf); (first | (refine St_gate ?_; refine xS ?_) | (refine StN_gate ?_; refine xN ?_)); clear H; intro w H))
  exact Ret_in ⟨rfl, H.tail⟩
theorem tRule (r : Ru) (H : Sep w0 w l) (hs : RuOk w0 r) (hb : ruK r ≤ 2000000) : Does Tryz.prog 77 #[ruA r] w fun v w' => v = .bool (ruB r) ∧ Sep w0 w' l := by
  refine Does_intro tok (Tryz.call77 _ _) Tryz.func77 rfl (by rfl) ?_
  have hlen := sum_len (l := r.acts) (g := asK) fun x => by unfold asK; omega
  have hval : ∀ a ∈ r.acts, asK a ≤ 2000000 := fun v hv => by
    have := sum_mem (g := asK) hv
    unfold ruK at hb; omega
  unfold ruK at hb
  unfold ruB
  (repeat first | refine goN ?_ | ((try conv => whnf); first | (refine Ar_gate ?_; first | (fail_if_success skip) | refine xA ?_) | (first | refine Do_str_eq ?_ | refine Do_str_ne ?_ | refine DoN_len tok rfl ?_ | refine Eqv_in ?_)) | ((try conv => whnf); (first | (refine St_gate ?_; refine xS ?_) | (refine StN_gate ?_; refine xN ?_)); clear H; intro w H))
  (refine Nw_sep H ?_; clear H; intro xb w H; (try simp only [Value.cells, List.toList_toArray, List.append_nil, List.cons_append, List.nil_append] at H))
  (repeat first | refine goN ?_ | ((try conv => whnf); first | (refine Ar_gate ?_; first | (fail_if_success skip) | refine xA ?_) | (first | refine Do_str_eq ?_ | refine Do_str_ne ?_ | refine DoN_len tok rfl ?_ | refine Eqv_in ?_)) | ((try conv => whnf); (first | (refine St_gate ?_; refine xS ?_) | (refine StN_gate ?_; refine xN ?_)); clear H; intro w H))
  refine LdN_src (o := 0) (j := 0) (H.srcCM 1 7 (.head _) rfl (by decide)) (vs := [.int .i64 r.when_.op, .int .i64 r.when_.num, .string r.when_.name, .slice r.when_.at_ r.when_.kids.length r.when_.cap, .int .i64 r.when_.line, .int .i64 r.when_.col]) rfl rfl ?_
  (repeat first | refine goN ?_ | ((try conv => whnf); first | (refine Ar_gate ?_; first | (fail_if_success skip) | refine xA ?_) | (first | refine Do_str_eq ?_ | refine Do_str_ne ?_ | refine DoN_len tok rfl ?_ | refine Eqv_in ?_)) | ((try conv => whnf); (first | (refine St_gate ?_; refine xS ?_) | (refine StN_gate ?_; refine xN ?_)); clear H; intro w H))
  refine Call_of (tWritten r.when_ H (fun h => hs.1.rd h) (by omega)) ?_
  clear H
  rintro _ w ⟨rfl, H⟩
  cases h1 : writB r.when_ with
  | false =>
    (repeat first | refine goN ?_ | ((try conv => whnf); first | (refine Ar_gate ?_; first | (fail_if_success skip) | refine xA ?_) | (first | refine Do_str_eq ?_ | refine Do_str_ne ?_ | refine DoN_len tok rfl ?_ | refine Eqv_in ?_)) | ((try conv => whnf); (first | (refine St_gate ?_; refine xS ?_) | (refine StN_gate ?_; refine xN ?_)); clear H; intro w H))
    exact Ret_in ⟨rfl, H.tail⟩
  | true =>
    (repeat first | refine goN ?_ | ((try conv => whnf); first | (refine Ar_gate ?_; first | (fail_if_success skip) | refine xA ?_) | (first | refine Do_str_eq ?_ | refine Do_str_ne ?_ | refine DoN_len tok rfl ?_ | refine Eqv_in ?_)) | ((try conv => whnf); (first | (refine St_gate ?_; refine xS ?_) | (refine StN_gate ?_; refine xN ?_)); clear H; intro w H))
    refine Call_of (rMany r.acts.length 1 (by omega) (by decide)) ?_
    rintro _ _ ⟨rfl, rfl⟩
    cases h2 : manyB r.acts.length 1 with
    | false =>
      (repeat first | refine goN ?_ | ((try conv => whnf); first | (refine Ar_gate ?_; first | (fail_if_success skip) | refine xA ?_) | (first | refine Do_str_eq ?_ | refine Do_str_ne ?_ | refine DoN_len tok rfl ?_ | refine Eqv_in ?_)) | ((try conv => whnf); (first | (refine St_gate ?_; refine xS ?_) | (refine StN_gate ?_; refine xN ?_)); clear H; intro w H))
      exact Ret_in ⟨rfl, H.tail⟩
    | true =>
      (repeat first | refine goN ?_ | ((try conv => whnf); first | (refine Ar_gate ?_; first | (fail_if_success skip) | refine xA ?_) | (first | refine Do_str_eq ?_ | refine Do_str_ne ?_ | refine DoN_len tok rfl ?_ | refine Eqv_in ?_)) | ((try conv => whnf); (first | (refine St_gate ?_; refine xS ?_) | (refine StN_gate ?_; refine xN ?_)); clear H; intro w H))
      refine Call_of (asContains (p := fun a => !asB a) H (fun h => h.rd hs.2.1) (by omega) fun a ha {w} {l'} H => tAssign1 a H (hs.2.2 a ha) (hval a ha)) ?_
      clear H
      rintro _ w ⟨rfl, H⟩
      (repeat first | refine goN ?_ | ((try conv => whnf); first | (refine Ar_gate ?_; first | (fail_if_success skip) | refine xA ?_) | (first | refine Do_str_eq ?_ | refine Do_str_ne ?_ | refine DoN_len tok rfl ?_ | refine Eqv_in ?_)) | ((try conv => whnf); (first | (refine St_gate ?_; refine xS ?_) | (refine StN_gate ?_; refine xN ?_)); clear H; intro w H))
      exact Ret_in ⟨congrArg Value.bool (any_not ..), H.tail⟩
theorem tRule1 (x : Ru) (H : Sep w0 w l) (hs : RuOk w0 x) (hb : ruK x ≤ 2000000) : Does Tryz.prog 76 #[ruA x] w fun v w' => v = .bool (!ruB x) ∧ Sep w0 w' l := by
  refine Does_intro tok (Tryz.call76 _ _) Tryz.func76 rfl (by rfl) ?_
  (repeat first | refine goN ?_ | ((try conv => whnf); first | (refine Ar_gate ?_; first | (fail_if_success skip) | refine xA ?_) | (first | refine Do_str_eq ?_ | refine Do_str_ne ?_ | refine DoN_len tok rfl ?_ | refine Eqv_in ?_)) | ((try conv => whnf); (first | (refine St_gate ?_; refine xS ?_) | (refine StN_gate ?_; refine xN ?_)); clear H; intro w H))
  (refine Nw_sep H ?_; clear H; intro xb w H; (try simp only [Value.cells, List.toList_toArray, List.append_nil, List.cons_append, List.nil_append] at H))
  (repeat first | refine goN ?_ | ((try conv => whnf); first | (refine Ar_gate ?_; first | (fail_if_success skip) | refine xA ?_) | (first | refine Do_str_eq ?_ | refine Do_str_ne ?_ | refine DoN_len tok rfl ?_ | refine Eqv_in ?_)) | ((try conv => whnf); (first | (refine St_gate ?_; refine xS ?_) | (refine StN_gate ?_; refine xN ?_)); clear H; intro w H))
  refine Call_of (tRule x H hs hb) ?_
  clear H
  rintro _ w ⟨rfl, H⟩
  (repeat first | refine goN ?_ | ((try conv => whnf); first | (refine Ar_gate ?_; first | (fail_if_success skip) | refine xA ?_) | (first | refine Do_str_eq ?_ | refine Do_str_ne ?_ | refine DoN_len tok rfl ?_ | refine Eqv_in ?_)) | ((try conv => whnf); (first | (refine St_gate ?_; refine xS ?_) | (refine StN_gate ?_; refine xN ?_)); clear H; intro w H))
  exact Ret_in ⟨rfl, H.tail⟩
theorem tProcess (p : Pr) (H : Sep w0 w l) (hs : PrOk w0 p) (hb : prK p ≤ 2000000) : Does Tryz.prog 50 #[prA p] w fun v w' => v = .bool (prB p) ∧ Sep w0 w' l := by
  refine Does_intro tok (Tryz.call50 _ _) Tryz.func50 rfl (by rfl) ?_
  have hlen := sum_len (l := p.rules) (g := ruK) fun x => by unfold ruK; omega
  have hval : ∀ a ∈ p.rules, ruK a ≤ 2000000 := fun v hv => by
    have := sum_mem (g := ruK) hv
    unfold prK at hb; omega
  unfold prK at hb
  unfold prB
  (repeat first | refine goN ?_ | ((try conv => whnf); first | (refine Ar_gate ?_; first | (fail_if_success skip) | refine xA ?_) | (first | refine Do_str_eq ?_ | refine Do_str_ne ?_ | refine DoN_len tok rfl ?_ | refine Eqv_in ?_)) | ((try conv => whnf); (first | (refine St_gate ?_; refine xS ?_) | (refine StN_gate ?_; refine xN ?_)); clear H; intro w H))
  (refine Nw_sep H ?_; clear H; intro xb w H; (try simp only [Value.cells, List.toList_toArray, List.append_nil, List.cons_append, List.nil_append] at H))
  (repeat first | refine goN ?_ | ((try conv => whnf); first | (refine Ar_gate ?_; first | (fail_if_success skip) | refine xA ?_) | (first | refine Do_str_eq ?_ | refine Do_str_ne ?_ | refine DoN_len tok rfl ?_ | refine Eqv_in ?_)) | ((try conv => whnf); (first | (refine St_gate ?_; refine xS ?_) | (refine StN_gate ?_; refine xN ?_)); clear H; intro w H))
  refine Call_of (rName p.name (by omega)) ?_
  rintro _ _ ⟨rfl, rfl⟩
  cases h1 : nameB p.name with
  | false =>
    (repeat first | refine goN ?_ | ((try conv => whnf); first | (refine Ar_gate ?_; first | (fail_if_success skip) | refine xA ?_) | (first | refine Do_str_eq ?_ | refine Do_str_ne ?_ | refine DoN_len tok rfl ?_ | refine Eqv_in ?_)) | ((try conv => whnf); (first | (refine St_gate ?_; refine xS ?_) | (refine StN_gate ?_; refine xN ?_)); clear H; intro w H))
    exact Ret_in ⟨rfl, H.tail⟩
  | true =>
    (repeat first | refine goN ?_ | ((try conv => whnf); first | (refine Ar_gate ?_; first | (fail_if_success skip) | refine xA ?_) | (first | refine Do_str_eq ?_ | refine Do_str_ne ?_ | refine DoN_len tok rfl ?_ | refine Eqv_in ?_)) | ((try conv => whnf); (first | (refine St_gate ?_; refine xS ?_) | (refine StN_gate ?_; refine xN ?_)); clear H; intro w H))
    refine Call_of (rMany p.rules.length 0 (by omega) (by decide)) ?_
    rintro _ _ ⟨rfl, rfl⟩
    cases h2 : manyB p.rules.length 0 with
    | false =>
      (repeat first | refine goN ?_ | ((try conv => whnf); first | (refine Ar_gate ?_; first | (fail_if_success skip) | refine xA ?_) | (first | refine Do_str_eq ?_ | refine Do_str_ne ?_ | refine DoN_len tok rfl ?_ | refine Eqv_in ?_)) | ((try conv => whnf); (first | (refine St_gate ?_; refine xS ?_) | (refine StN_gate ?_; refine xN ?_)); clear H; intro w H))
      exact Ret_in ⟨rfl, H.tail⟩
    | true =>
      (repeat first | refine goN ?_ | ((try conv => whnf); first | (refine Ar_gate ?_; first | (fail_if_success skip) | refine xA ?_) | (first | refine Do_str_eq ?_ | refine Do_str_ne ?_ | refine DoN_len tok rfl ?_ | refine Eqv_in ?_)) | ((try conv => whnf); (first | (refine St_gate ?_; refine xS ?_) | (refine StN_gate ?_; refine xN ?_)); clear H; intro w H))
      refine Call_of (ruContains (p := fun a => !ruB a) H (fun h => h.rd hs.1) (by omega) fun a ha {w} {l'} H => tRule1 a H (hs.2 a ha) (hval a ha)) ?_
      clear H
      rintro _ w ⟨rfl, H⟩
      (repeat first | refine goN ?_ | ((try conv => whnf); first | (refine Ar_gate ?_; first | (fail_if_success skip) | refine xA ?_) | (first | refine Do_str_eq ?_ | refine Do_str_ne ?_ | refine DoN_len tok rfl ?_ | refine Eqv_in ?_)) | ((try conv => whnf); (first | (refine St_gate ?_; refine xS ?_) | (refine StN_gate ?_; refine xN ?_)); clear H; intro w H))
      exact Ret_in ⟨congrArg Value.bool (any_not ..), H.tail⟩
theorem tProcess1 (x : Pr) (H : Sep w0 w l) (hs : PrOk w0 x) (hb : prK x ≤ 2000000) : Does Tryz.prog 49 #[prA x] w fun v w' => v = .bool (!prB x) ∧ Sep w0 w' l := by
  refine Does_intro tok (Tryz.call49 _ _) Tryz.func49 rfl (by rfl) ?_
  (repeat first | refine goN ?_ | ((try conv => whnf); first | (refine Ar_gate ?_; first | (fail_if_success skip) | refine xA ?_) | (first | refine Do_str_eq ?_ | refine Do_str_ne ?_ | refine DoN_len tok rfl ?_ | refine Eqv_in ?_)) | ((try conv => whnf); (first | (refine St_gate ?_; refine xS ?_) | (refine StN_gate ?_; refine xN ?_)); clear H; intro w H))
  (refine Nw_sep H ?_; clear H; intro xb w H; (try simp only [Value.cells, List.toList_toArray, List.append_nil, List.cons_append, List.nil_append] at H))
  (repeat first | refine goN ?_ | ((try conv => whnf); first | (refine Ar_gate ?_; first | (fail_if_success skip) | refine xA ?_) | (first | refine Do_str_eq ?_ | refine Do_str_ne ?_ | refine DoN_len tok rfl ?_ | refine Eqv_in ?_)) | ((try conv => whnf); (first | (refine St_gate ?_; refine xS ?_) | (refine StN_gate ?_; refine xN ?_)); clear H; intro w H))
  refine Call_of (tProcess x H hs hb) ?_
  clear H
  rintro _ w ⟨rfl, H⟩
  (repeat first | refine goN ?_ | ((try conv => whnf); first | (refine Ar_gate ?_; first | (fail_if_success skip) | refine xA ?_) | (first | refine Do_str_eq ?_ | refine Do_str_ne ?_ | refine DoN_len tok rfl ?_ | refine Eqv_in ?_)) | ((try conv => whnf); (first | (refine St_gate ?_; refine xS ?_) | (refine StN_gate ?_; refine xN ?_)); clear H; intro w H))
  exact Ret_in ⟨rfl, H.tail⟩
theorem tDecl (d : De) (H : Sep w0 w l) (hs : DeOk w0 d) (hb : deK d ≤ 2000000) : Does Tryz.prog 47 #[deA d] w fun v w' => v = .bool (deB d) ∧ Sep w0 w' l := by
  refine Does_intro tok (Tryz.call47 _ _) Tryz.func47 rfl (by rfl) ?_
  have hlen := sum_len (l := d.begins) (g := bulk) fun x => by have := bulk_pos x; omega
  have hval : ∀ a ∈ d.begins, bulk a ≤ 2000000 := fun v hv => by
    have := sum_mem (g := bulk) hv
    unfold deK at hb; omega
  unfold deK at hb
  unfold deB
  (repeat first | refine goN ?_ | ((try conv => whnf); first | (refine Ar_gate ?_; first | (fail_if_success skip) | refine xA ?_) | (first | refine Do_str_eq ?_ | refine Do_str_ne ?_ | refine DoN_len tok rfl ?_ | refine Eqv_in ?_)) | ((try conv => whnf); (first | (refine St_gate ?_; refine xS ?_) | (refine StN_gate ?_; refine xN ?_)); clear H; intro w H))
  (refine Nw_sep H ?_; clear H; intro xb w H; (try simp only [Value.cells, List.toList_toArray, List.append_nil, List.cons_append, List.nil_append] at H))
  have h5 : (-1000000 ≤ d.lo ∧ -1000000 ≤ d.hi ∧ d.lo ≤ 1000000 ∧ d.hi ≤ 1000000) ∨ d.lo < -1000000 ∨ (-1000000 ≤ d.lo ∧ d.hi < -1000000) ∨ (-1000000 ≤ d.lo ∧ -1000000 ≤ d.hi ∧ 1000000 < d.lo) ∨ (-1000000 ≤ d.lo ∧ -1000000 ≤ d.hi ∧ d.lo ≤ 1000000 ∧ 1000000 < d.hi) := by omega
  by_cases ht : d.typ = (⟨#[]⟩ : ByteArray)
  · have hE0 : endsB d = (decide (-1000000 ≤ d.lo) && decide (-1000000 ≤ d.hi) && decide (d.lo ≤ 1000000) && decide (d.hi ≤ 1000000)) := if_pos ht
    by_cases hin : -1000000 ≤ d.lo ∧ -1000000 ≤ d.hi ∧ d.lo ≤ 1000000 ∧ d.hi ≤ 1000000
    · have hE : endsB d = true := by rw [hE0, decide_eq_true hin.1, decide_eq_true hin.2.1, decide_eq_true hin.2.2.1, decide_eq_true hin.2.2.2]; rfl
      (repeat first | refine goN ?_ | ((try conv => whnf); first | (refine Ar_gate ?_; first | (fail_if_success skip) | refine xA ?_) | (first | refine Do_str_eq ?_ | refine Do_str_ne ?_ | refine DoN_len tok rfl ?_ | refine Eqv_in ?_)) | ((try conv => whnf); (first | (refine St_gate ?_; refine xS ?_) | (refine StN_gate ?_; refine xN ?_)); clear H; intro w H))
      refine Call_of (rName d.name (by omega)) ?_
      rintro _ _ ⟨rfl, rfl⟩
      cases hn : nameB d.name with
      | false =>
        (repeat first | refine goN ?_ | ((try conv => whnf); first | (refine Ar_gate ?_; first | (fail_if_success skip) | refine xA ?_) | (first | refine Do_str_eq ?_ | refine Do_str_ne ?_ | refine DoN_len tok rfl ?_ | refine Eqv_in ?_)) | ((try conv => whnf); (first | (refine St_gate ?_; refine xS ?_) | (refine StN_gate ?_; refine xN ?_)); clear H; intro w H))
        exact Ret_in ⟨by rw [hE]; rfl, H.tail⟩
      | true =>
        by_cases hl1 : d.begins.length ≤ 1
        case neg =>
          (repeat first | refine goN ?_ | ((try conv => whnf); first | (refine Ar_gate ?_; first | (fail_if_success skip) | refine xA ?_) | (first | refine Do_str_eq ?_ | refine Do_str_ne ?_ | refine DoN_len tok rfl ?_ | refine Eqv_in ?_)) | ((try conv => whnf); (first | (refine St_gate ?_; refine xS ?_) | (refine StN_gate ?_; refine xN ?_)); clear H; intro w H))
          exact Ret_in ⟨by rw [hE, decide_eq_false hl1]; rfl, H.tail⟩
        (repeat first | refine goN ?_ | ((try conv => whnf); first | (refine Ar_gate ?_; first | (fail_if_success skip) | refine xA ?_) | (first | refine Do_str_eq ?_ | refine Do_str_ne ?_ | refine DoN_len tok rfl ?_ | refine Eqv_in ?_)) | ((try conv => whnf); (first | (refine St_gate ?_; refine xS ?_) | (refine StN_gate ?_; refine xN ?_)); clear H; intro w H))
        refine Call_of (exContains (p := fun a => !writB a) H (fun h => h.rd hs.1) (by omega) fun a ha {w} {l'} H => tDecl0 a H (hs.2 a ha) (hval a ha)) ?_
        clear H
        rintro _ w ⟨rfl, H⟩
        (repeat first | refine goN ?_ | ((try conv => whnf); first | (refine Ar_gate ?_; first | (fail_if_success skip) | refine xA ?_) | (first | refine Do_str_eq ?_ | refine Do_str_ne ?_ | refine DoN_len tok rfl ?_ | refine Eqv_in ?_)) | ((try conv => whnf); (first | (refine St_gate ?_; refine xS ?_) | (refine StN_gate ?_; refine xN ?_)); clear H; intro w H))
        exact Ret_in ⟨by rw [hE, decide_eq_true hl1]; exact congrArg Value.bool (any_not ..), H.tail⟩
    · have hE : endsB d = false := by
        rw [hE0, Bool.eq_false_iff]
        intro h
        simp only [Bool.and_eq_true, decide_eq_true_eq] at h
        omega
      rcases h5 with h5 | h5 | h5 | h5 | h5
      · exact absurd h5 hin
      all_goals
        (repeat first | refine goN ?_ | ((try conv => whnf); first | (refine Ar_gate ?_; first | (fail_if_success skip) | refine xA ?_) | (first | refine Do_str_eq ?_ | refine Do_str_ne ?_ | refine DoN_len tok rfl ?_ | refine Eqv_in ?_)) | ((try conv => whnf); (first | (refine St_gate ?_; refine xS ?_) | (refine StN_gate ?_; refine xN ?_)); clear H; intro w H))
        exact Ret_in ⟨by rw [hE]; rfl, H.tail⟩
  · have hE0 : endsB d = (decide (d.lo = 0) && decide (d.hi = 0) && (decide (d.typ = boolS) || nameB d.typ)) := if_neg ht
    by_cases h0 : d.lo = 0
    case neg =>
      have hE : endsB d = false := by rw [hE0, decide_eq_false h0]; rfl
      rcases h5 with h5 | h5 | h5 | h5 | h5
      all_goals
        (repeat first | refine goN ?_ | ((try conv => whnf); first | (refine Ar_gate ?_; first | (fail_if_success skip) | refine xA ?_) | (first | refine Do_str_eq ?_ | refine Do_str_ne ?_ | refine DoN_len tok rfl ?_ | refine Eqv_in ?_)) | ((try conv => whnf); (first | (refine St_gate ?_; refine xS ?_) | (refine StN_gate ?_; refine xN ?_)); clear H; intro w H))
        exact Ret_in ⟨by rw [hE]; rfl, H.tail⟩
    by_cases h1 : d.hi = 0
    case neg =>
      have hE : endsB d = false := by rw [hE0, decide_eq_false h1, Bool.and_false]; rfl
      rcases h5 with h5 | h5 | h5 | h5 | h5
      all_goals
        first
          | (exfalso; omega)
          | ((repeat first | refine goN ?_ | ((try conv => whnf); first | (refine Ar_gate ?_; first | (fail_if_success skip) | refine xA ?_) | (first | refine Do_str_eq ?_ | refine Do_str_ne ?_ | refine DoN_len tok rfl ?_ | refine Eqv_in ?_)) | ((try conv => whnf); (first | (refine St_gate ?_; refine xS ?_) | (refine StN_gate ?_; refine xN ?_)); clear H; intro w H))
             exact Ret_in ⟨by rw [hE]; rfl, H.tail⟩)
    (repeat first | refine goN ?_ | ((try conv => whnf); first | (refine Ar_gate ?_; first | (fail_if_success skip) | refine xA ?_) | (first | refine Do_str_eq ?_ | refine Do_str_ne ?_ | refine DoN_len tok rfl ?_ | refine Eqv_in ?_)) | ((try conv => whnf); (first | (refine St_gate ?_; refine xS ?_) | (refine StN_gate ?_; refine xN ?_)); clear H; intro w H))
    refine Br_dec (fun h2 => ?_) (fun h2 => ?_)
    · have hE : endsB d = true := by rw [hE0, decide_eq_true h0, decide_eq_true h1, decide_eq_true (show d.typ = boolS from h2)]; rfl
      (repeat first | refine goN ?_ | ((try conv => whnf); first | (refine Ar_gate ?_; first | (fail_if_success skip) | refine xA ?_) | (first | refine Do_str_eq ?_ | refine Do_str_ne ?_ | refine DoN_len tok rfl ?_ | refine Eqv_in ?_)) | ((try conv => whnf); (first | (refine St_gate ?_; refine xS ?_) | (refine StN_gate ?_; refine xN ?_)); clear H; intro w H))
      refine Call_of (rName d.name (by omega)) ?_
      rintro _ _ ⟨rfl, rfl⟩
      cases hn : nameB d.name with
      | false =>
        (repeat first | refine goN ?_ | ((try conv => whnf); first | (refine Ar_gate ?_; first | (fail_if_success skip) | refine xA ?_) | (first | refine Do_str_eq ?_ | refine Do_str_ne ?_ | refine DoN_len tok rfl ?_ | refine Eqv_in ?_)) | ((try conv => whnf); (first | (refine St_gate ?_; refine xS ?_) | (refine StN_gate ?_; refine xN ?_)); clear H; intro w H))
        exact Ret_in ⟨by rw [hE]; rfl, H.tail⟩
      | true =>
        by_cases hl1 : d.begins.length ≤ 1
        case neg =>
          (repeat first | refine goN ?_ | ((try conv => whnf); first | (refine Ar_gate ?_; first | (fail_if_success skip) | refine xA ?_) | (first | refine Do_str_eq ?_ | refine Do_str_ne ?_ | refine DoN_len tok rfl ?_ | refine Eqv_in ?_)) | ((try conv => whnf); (first | (refine St_gate ?_; refine xS ?_) | (refine StN_gate ?_; refine xN ?_)); clear H; intro w H))
          exact Ret_in ⟨by rw [hE, decide_eq_false hl1]; rfl, H.tail⟩
        (repeat first | refine goN ?_ | ((try conv => whnf); first | (refine Ar_gate ?_; first | (fail_if_success skip) | refine xA ?_) | (first | refine Do_str_eq ?_ | refine Do_str_ne ?_ | refine DoN_len tok rfl ?_ | refine Eqv_in ?_)) | ((try conv => whnf); (first | (refine St_gate ?_; refine xS ?_) | (refine StN_gate ?_; refine xN ?_)); clear H; intro w H))
        refine Call_of (exContains (p := fun a => !writB a) H (fun h => h.rd hs.1) (by omega) fun a ha {w} {l'} H => tDecl0 a H (hs.2 a ha) (hval a ha)) ?_
        clear H
        rintro _ w ⟨rfl, H⟩
        (repeat first | refine goN ?_ | ((try conv => whnf); first | (refine Ar_gate ?_; first | (fail_if_success skip) | refine xA ?_) | (first | refine Do_str_eq ?_ | refine Do_str_ne ?_ | refine DoN_len tok rfl ?_ | refine Eqv_in ?_)) | ((try conv => whnf); (first | (refine St_gate ?_; refine xS ?_) | (refine StN_gate ?_; refine xN ?_)); clear H; intro w H))
        exact Ret_in ⟨by rw [hE, decide_eq_true hl1]; exact congrArg Value.bool (any_not ..), H.tail⟩
    · (repeat first | refine goN ?_ | ((try conv => whnf); first | (refine Ar_gate ?_; first | (fail_if_success skip) | refine xA ?_) | (first | refine Do_str_eq ?_ | refine Do_str_ne ?_ | refine DoN_len tok rfl ?_ | refine Eqv_in ?_)) | ((try conv => whnf); (first | (refine St_gate ?_; refine xS ?_) | (refine StN_gate ?_; refine xN ?_)); clear H; intro w H))
      refine Call_of (rName d.typ (by omega)) ?_
      rintro _ _ ⟨rfl, rfl⟩
      cases h3 : nameB d.typ with
      | false =>
        have hE : endsB d = false := by rw [hE0, h3, decide_eq_false (show ¬ d.typ = boolS from h2)]; simp
        (repeat first | refine goN ?_ | ((try conv => whnf); first | (refine Ar_gate ?_; first | (fail_if_success skip) | refine xA ?_) | (first | refine Do_str_eq ?_ | refine Do_str_ne ?_ | refine DoN_len tok rfl ?_ | refine Eqv_in ?_)) | ((try conv => whnf); (first | (refine St_gate ?_; refine xS ?_) | (refine StN_gate ?_; refine xN ?_)); clear H; intro w H))
        exact Ret_in ⟨by rw [hE]; rfl, H.tail⟩
      | true =>
        have hE : endsB d = true := by rw [hE0, h3, decide_eq_true h0, decide_eq_true h1]; simp
        (repeat first | refine goN ?_ | ((try conv => whnf); first | (refine Ar_gate ?_; first | (fail_if_success skip) | refine xA ?_) | (first | refine Do_str_eq ?_ | refine Do_str_ne ?_ | refine DoN_len tok rfl ?_ | refine Eqv_in ?_)) | ((try conv => whnf); (first | (refine St_gate ?_; refine xS ?_) | (refine StN_gate ?_; refine xN ?_)); clear H; intro w H))
        refine Call_of (rName d.name (by omega)) ?_
        rintro _ _ ⟨rfl, rfl⟩
        cases hn : nameB d.name with
        | false =>
          (repeat first | refine goN ?_ | ((try conv => whnf); first | (refine Ar_gate ?_; first | (fail_if_success skip) | refine xA ?_) | (first | refine Do_str_eq ?_ | refine Do_str_ne ?_ | refine DoN_len tok rfl ?_ | refine Eqv_in ?_)) | ((try conv => whnf); (first | (refine St_gate ?_; refine xS ?_) | (refine StN_gate ?_; refine xN ?_)); clear H; intro w H))
          exact Ret_in ⟨by rw [hE]; rfl, H.tail⟩
        | true =>
          by_cases hl1 : d.begins.length ≤ 1
          case neg =>
            (repeat first | refine goN ?_ | ((try conv => whnf); first | (refine Ar_gate ?_; first | (fail_if_success skip) | refine xA ?_) | (first | refine Do_str_eq ?_ | refine Do_str_ne ?_ | refine DoN_len tok rfl ?_ | refine Eqv_in ?_)) | ((try conv => whnf); (first | (refine St_gate ?_; refine xS ?_) | (refine StN_gate ?_; refine xN ?_)); clear H; intro w H))
            exact Ret_in ⟨by rw [hE, decide_eq_false hl1]; rfl, H.tail⟩
          (repeat first | refine goN ?_ | ((try conv => whnf); first | (refine Ar_gate ?_; first | (fail_if_success skip) | refine xA ?_) | (first | refine Do_str_eq ?_ | refine Do_str_ne ?_ | refine DoN_len tok rfl ?_ | refine Eqv_in ?_)) | ((try conv => whnf); (first | (refine St_gate ?_; refine xS ?_) | (refine StN_gate ?_; refine xN ?_)); clear H; intro w H))
          refine Call_of (exContains (p := fun a => !writB a) H (fun h => h.rd hs.1) (by omega) fun a ha {w} {l'} H => tDecl0 a H (hs.2 a ha) (hval a ha)) ?_
          clear H
          rintro _ w ⟨rfl, H⟩
          (repeat first | refine goN ?_ | ((try conv => whnf); first | (refine Ar_gate ?_; first | (fail_if_success skip) | refine xA ?_) | (first | refine Do_str_eq ?_ | refine Do_str_ne ?_ | refine DoN_len tok rfl ?_ | refine Eqv_in ?_)) | ((try conv => whnf); (first | (refine St_gate ?_; refine xS ?_) | (refine StN_gate ?_; refine xN ?_)); clear H; intro w H))
          exact Ret_in ⟨by rw [hE, decide_eq_true hl1]; exact congrArg Value.bool (any_not ..), H.tail⟩
theorem tDecl1 (x : De) (H : Sep w0 w l) (hs : DeOk w0 x) (hb : deK x ≤ 2000000) : Does Tryz.prog 46 #[deA x] w fun v w' => v = .bool (!deB x) ∧ Sep w0 w' l := by
  refine Does_intro tok (Tryz.call46 _ _) Tryz.func46 rfl (by rfl) ?_
  (repeat first | refine goN ?_ | ((try conv => whnf); first | (refine Ar_gate ?_; first | (fail_if_success skip) | refine xA ?_) | (first | refine Do_str_eq ?_ | refine Do_str_ne ?_ | refine DoN_len tok rfl ?_ | refine Eqv_in ?_)) | ((try conv => whnf); (first | (refine St_gate ?_; refine xS ?_) | (refine StN_gate ?_; refine xN ?_)); clear H; intro w H))
  (refine Nw_sep H ?_; clear H; intro xb w H; (try simp only [Value.cells, List.toList_toArray, List.append_nil, List.cons_append, List.nil_append] at H))
  (repeat first | refine goN ?_ | ((try conv => whnf); first | (refine Ar_gate ?_; first | (fail_if_success skip) | refine xA ?_) | (first | refine Do_str_eq ?_ | refine Do_str_ne ?_ | refine DoN_len tok rfl ?_ | refine Eqv_in ?_)) | ((try conv => whnf); (first | (refine St_gate ?_; refine xS ?_) | (refine StN_gate ?_; refine xN ?_)); clear H; intro w H))
  refine Call_of (tDecl x H hs hb) ?_
  clear H
  rintro _ w ⟨rfl, H⟩
  (repeat first | refine goN ?_ | ((try conv => whnf); first | (refine Ar_gate ?_; first | (fail_if_success skip) | refine xA ?_) | (first | refine Do_str_eq ?_ | refine Do_str_ne ?_ | refine DoN_len tok rfl ?_ | refine Eqv_in ?_)) | ((try conv => whnf); (first | (refine St_gate ?_; refine xS ?_) | (refine StN_gate ?_; refine xN ?_)); clear H; intro w H))
  exact Ret_in ⟨rfl, H.tail⟩
theorem tsource (m : So) (H : Sep w0 w l) (hs : SoOk w0 m) (hb : soK m ≤ 2000000) : Does Tryz.prog 13 #[soA m] w fun v w' => v = .bool (soB m) ∧ Sep w0 w' l := by
  refine Does_intro tok (Tryz.call13 _ _) Tryz.func13 rfl (by rfl) ?_
  have hle := sum_len (l := m.enums) (g := enK) fun x => by unfold enK; omega
  have hlv := sum_len (l := m.vars) (g := deK) fun x => by unfold deK; omega
  have hlp := sum_len (l := m.procs) (g := prK) fun x => by unfold prK; omega
  unfold soK at hb
  have hve : ∀ a ∈ m.enums, enK a ≤ 2000000 := fun v hv => by have := sum_mem (g := enK) hv; omega
  have hvv : ∀ a ∈ m.vars, deK a ≤ 2000000 := fun v hv => by have := sum_mem (g := deK) hv; omega
  have hvp : ∀ a ∈ m.procs, prK a ≤ 2000000 := fun v hv => by have := sum_mem (g := prK) hv; omega
  unfold soB
  (repeat first | refine goN ?_ | ((try conv => whnf); first | (refine Ar_gate ?_; first | (fail_if_success skip) | refine xA ?_) | (first | refine Do_str_eq ?_ | refine Do_str_ne ?_ | refine DoN_len tok rfl ?_ | refine Eqv_in ?_)) | ((try conv => whnf); (first | (refine St_gate ?_; refine xS ?_) | (refine StN_gate ?_; refine xN ?_)); clear H; intro w H))
  (refine Nw_sep H ?_; clear H; intro xb w H; (try simp only [Value.cells, List.toList_toArray, List.append_nil, List.cons_append, List.nil_append] at H))
  (repeat first | refine goN ?_ | ((try conv => whnf); first | (refine Ar_gate ?_; first | (fail_if_success skip) | refine xA ?_) | (first | refine Do_str_eq ?_ | refine Do_str_ne ?_ | refine DoN_len tok rfl ?_ | refine Eqv_in ?_)) | ((try conv => whnf); (first | (refine St_gate ?_; refine xS ?_) | (refine StN_gate ?_; refine xN ?_)); clear H; intro w H))
  refine Call_of (rMany m.enums.length 0 (by omega) (by decide)) ?_
  rintro _ _ ⟨rfl, rfl⟩
  cases h1 : manyB m.enums.length 0 with
  | false =>
    (repeat first | refine goN ?_ | ((try conv => whnf); first | (refine Ar_gate ?_; first | (fail_if_success skip) | refine xA ?_) | (first | refine Do_str_eq ?_ | refine Do_str_ne ?_ | refine DoN_len tok rfl ?_ | refine Eqv_in ?_)) | ((try conv => whnf); (first | (refine St_gate ?_; refine xS ?_) | (refine StN_gate ?_; refine xN ?_)); clear H; intro w H))
    exact Ret_in ⟨rfl, H.tail⟩
  | true =>
  (repeat first | refine goN ?_ | ((try conv => whnf); first | (refine Ar_gate ?_; first | (fail_if_success skip) | refine xA ?_) | (first | refine Do_str_eq ?_ | refine Do_str_ne ?_ | refine DoN_len tok rfl ?_ | refine Eqv_in ?_)) | ((try conv => whnf); (first | (refine St_gate ?_; refine xS ?_) | (refine StN_gate ?_; refine xN ?_)); clear H; intro w H))
  refine Call_of (rMany m.vars.length 0 (by omega) (by decide)) ?_
  rintro _ _ ⟨rfl, rfl⟩
  cases h2 : manyB m.vars.length 0 with
  | false =>
    (repeat first | refine goN ?_ | ((try conv => whnf); first | (refine Ar_gate ?_; first | (fail_if_success skip) | refine xA ?_) | (first | refine Do_str_eq ?_ | refine Do_str_ne ?_ | refine DoN_len tok rfl ?_ | refine Eqv_in ?_)) | ((try conv => whnf); (first | (refine St_gate ?_; refine xS ?_) | (refine StN_gate ?_; refine xN ?_)); clear H; intro w H))
    exact Ret_in ⟨rfl, H.tail⟩
  | true =>
  (repeat first | refine goN ?_ | ((try conv => whnf); first | (refine Ar_gate ?_; first | (fail_if_success skip) | refine xA ?_) | (first | refine Do_str_eq ?_ | refine Do_str_ne ?_ | refine DoN_len tok rfl ?_ | refine Eqv_in ?_)) | ((try conv => whnf); (first | (refine St_gate ?_; refine xS ?_) | (refine StN_gate ?_; refine xN ?_)); clear H; intro w H))
  refine Call_of (rMany m.procs.length 0 (by omega) (by decide)) ?_
  rintro _ _ ⟨rfl, rfl⟩
  cases h3 : manyB m.procs.length 0 with
  | false =>
    (repeat first | refine goN ?_ | ((try conv => whnf); first | (refine Ar_gate ?_; first | (fail_if_success skip) | refine xA ?_) | (first | refine Do_str_eq ?_ | refine Do_str_ne ?_ | refine DoN_len tok rfl ?_ | refine Eqv_in ?_)) | ((try conv => whnf); (first | (refine St_gate ?_; refine xS ?_) | (refine StN_gate ?_; refine xN ?_)); clear H; intro w H))
    exact Ret_in ⟨rfl, H.tail⟩
  | true =>
  (repeat first | refine goN ?_ | ((try conv => whnf); first | (refine Ar_gate ?_; first | (fail_if_success skip) | refine xA ?_) | (first | refine Do_str_eq ?_ | refine Do_str_ne ?_ | refine DoN_len tok rfl ?_ | refine Eqv_in ?_)) | ((try conv => whnf); (first | (refine St_gate ?_; refine xS ?_) | (refine StN_gate ?_; refine xN ?_)); clear H; intro w H))
  refine Call_of (enContains (p := fun a => !enB a) H (fun h => h.rd hs.es) (by omega) fun a ha {w} {l'} H => tEnum1 a H (hs.en a ha) (hve a ha)) ?_
  clear H
  rintro _ w ⟨rfl, H⟩
  rw [← any_not]
  cases h4 : m.enums.any fun a => !enB a with
  | true =>
    (repeat first | refine goN ?_ | ((try conv => whnf); first | (refine Ar_gate ?_; first | (fail_if_success skip) | refine xA ?_) | (first | refine Do_str_eq ?_ | refine Do_str_ne ?_ | refine DoN_len tok rfl ?_ | refine Eqv_in ?_)) | ((try conv => whnf); (first | (refine St_gate ?_; refine xS ?_) | (refine StN_gate ?_; refine xN ?_)); clear H; intro w H))
    exact Ret_in ⟨rfl, H.tail⟩
  | false =>
  (repeat first | refine goN ?_ | ((try conv => whnf); first | (refine Ar_gate ?_; first | (fail_if_success skip) | refine xA ?_) | (first | refine Do_str_eq ?_ | refine Do_str_ne ?_ | refine DoN_len tok rfl ?_ | refine Eqv_in ?_)) | ((try conv => whnf); (first | (refine St_gate ?_; refine xS ?_) | (refine StN_gate ?_; refine xN ?_)); clear H; intro w H))
  refine Call_of (deContains (p := fun a => !deB a) H (fun h => h.rd hs.vs) (by omega) fun a ha {w} {l'} H => tDecl1 a H (hs.de a ha) (hvv a ha)) ?_
  clear H
  rintro _ w ⟨rfl, H⟩
  rw [← any_not m.vars]
  cases h5 : m.vars.any fun a => !deB a with
  | true =>
    (repeat first | refine goN ?_ | ((try conv => whnf); first | (refine Ar_gate ?_; first | (fail_if_success skip) | refine xA ?_) | (first | refine Do_str_eq ?_ | refine Do_str_ne ?_ | refine DoN_len tok rfl ?_ | refine Eqv_in ?_)) | ((try conv => whnf); (first | (refine St_gate ?_; refine xS ?_) | (refine StN_gate ?_; refine xN ?_)); clear H; intro w H))
    exact Ret_in ⟨rfl, H.tail⟩
  | false =>
  (repeat first | refine goN ?_ | ((try conv => whnf); first | (refine Ar_gate ?_; first | (fail_if_success skip) | refine xA ?_) | (first | refine Do_str_eq ?_ | refine Do_str_ne ?_ | refine DoN_len tok rfl ?_ | refine Eqv_in ?_)) | ((try conv => whnf); (first | (refine St_gate ?_; refine xS ?_) | (refine StN_gate ?_; refine xN ?_)); clear H; intro w H))
  refine Call_of (prContains (p := fun a => !prB a) H (fun h => h.rd hs.ps) (by omega) fun a ha {w} {l'} H => tProcess1 a H (hs.pr a ha) (hvp a ha)) ?_
  clear H
  rintro _ w ⟨rfl, H⟩
  (repeat first | refine goN ?_ | ((try conv => whnf); first | (refine Ar_gate ?_; first | (fail_if_success skip) | refine xA ?_) | (first | refine Do_str_eq ?_ | refine Do_str_ne ?_ | refine DoN_len tok rfl ?_ | refine Eqv_in ?_)) | ((try conv => whnf); (first | (refine St_gate ?_; refine xS ?_) | (refine StN_gate ?_; refine xN ?_)); clear H; intro w H))
  exact Ret_in ⟨congrArg Value.bool (any_not ..), H.tail⟩
end
end Go.Proofs.YthpekiohalejmaaGreatDoor
