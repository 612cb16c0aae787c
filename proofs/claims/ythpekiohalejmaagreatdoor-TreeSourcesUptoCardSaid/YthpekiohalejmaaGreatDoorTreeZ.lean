/- Expressions, written. -/
import Derived.Test.YthpekiohalejmaaGreatDoorTreeY
set_option linter.unusedVariables false
set_option linter.unusedSimpArgs false
namespace Go.Proofs.YthpekiohalejmaaGreatDoor
open Go Go.Vc Go.Tree
set_option maxHeartbeats 4000000
set_option maxRecDepth 100000
def txt (x : Ex) : ByteArray := textB itoaC x
theorem txt_size (x : Ex) : (txt x).size ≤ 20 * bulk x := text_bulk itoaC_size x
theorem keepSrc {w : World} {b o n sz j m : Nat} {xs vs : List Value} (h : Src w (some ⟨b, o, none⟩) n sz xs) (hv : (xs.drop j).take m = vs) (hl : vs.length = m) : ∀ i, i < m → w.cell? (Addr.add ⟨b, o + j, none⟩ i) = vs[i]? := fun i hi => by
  have hx : xs[j + i]? = vs[i]? := by rw [← hv, List.getElem?_take, if_pos hi, List.getElem?_drop]
  have hi' : i < vs.length := by omega
  have hs : xs[j + i]? = some vs[i] := by rw [hx]; exact List.getElem?_eq_getElem hi'
  have := h.cell hs
  rw [add_mk] at this ⊢
  rw [show o + j + i = o + (j + i) by omega, this, ← hx, hs]
section
variable {w0 w : World} {l : List Res}
theorem tInner {x : Ex} (H : Sep w0 w l) (hb : bulk x ≤ 2000000) (hih : ∀ {w : World} {l' : List Res}, Sep w0 w (l' ++ l) → Does Tryz.prog 39 #[exA x] w fun v w' => v = .string (txt x) ∧ Sep w0 w' (l' ++ l)) :
    Does Tryz.prog 62 #[exA x] w fun v w' => v = .string (inn x (txt x)) ∧ Sep w0 w' l := by
  refine Does_intro tok (Tryz.call62 _ _) Tryz.func62 rfl (by rfl) ?_
  have hts := txt_size x
  have hkl := kids_bulk x
  unfold inn
  (repeat first | refine goN ?_ | ((try conv => whnf); first | (refine Ar_gate ?_; first | (fail_if_success skip) | refine xA ?_) | (first | refine Do_str_eq ?_ | refine Do_str_ne ?_ | refine DoN_len tok rfl ?_ | refine Eqv_in ?_)) | ((try conv => whnf); (first | (refine St_gate ?_; refine xS ?_) | (refine StN_gate ?_; refine xN ?_)); clear H; intro w H))
  (refine Nw_sep H ?_; clear H; intro xb w H; (try simp only [Value.cells, List.toList_toArray, List.append_nil, List.cons_append, List.nil_append] at H))
  (repeat first | refine goN ?_ | ((try conv => whnf); first | (refine Ar_gate ?_; first | (fail_if_success skip) | refine xA ?_) | (first | refine Do_str_eq ?_ | refine Do_str_ne ?_ | refine DoN_len tok rfl ?_ | refine Eqv_in ?_)) | ((try conv => whnf); (first | (refine St_gate ?_; refine xS ?_) | (refine StN_gate ?_; refine xN ?_)); clear H; intro w H))
  by_cases h : x.kids.length = 0
  · rw [if_pos h]
    (repeat first | refine goN ?_ | ((try conv => whnf); first | (refine Ar_gate ?_; first | (fail_if_success skip) | refine xA ?_) | (first | refine Do_str_eq ?_ | refine Do_str_ne ?_ | refine DoN_len tok rfl ?_ | refine Eqv_in ?_)) | ((try conv => whnf); (first | (refine St_gate ?_; refine xS ?_) | (refine StN_gate ?_; refine xN ?_)); clear H; intro w H))
    refine Call_of (hih (l' := [_]) H) ?_
    clear H
    rintro _ w ⟨rfl, H⟩
    (repeat first | refine goN ?_ | ((try conv => whnf); first | (refine Ar_gate ?_; first | (fail_if_success skip) | refine xA ?_) | (first | refine Do_str_eq ?_ | refine Do_str_ne ?_ | refine DoN_len tok rfl ?_ | refine Eqv_in ?_)) | ((try conv => whnf); (first | (refine St_gate ?_; refine xS ?_) | (refine StN_gate ?_; refine xN ?_)); clear H; intro w H))
    exact Ret_in ⟨rfl, H.tail⟩
  · rw [if_neg h]
    (repeat first | refine goN ?_ | ((try conv => whnf); first | (refine Ar_gate ?_; first | (fail_if_success skip) | refine xA ?_) | (first | refine Do_str_eq ?_ | refine Do_str_ne ?_ | refine DoN_len tok rfl ?_ | refine Eqv_in ?_)) | ((try conv => whnf); (first | (refine St_gate ?_; refine xS ?_) | (refine StN_gate ?_; refine xN ?_)); clear H; intro w H))
    refine Call_of (hih (l' := [_]) H) ?_
    clear H
    rintro _ w ⟨rfl, H⟩
    (repeat first | refine goN ?_ | ((try conv => whnf); first | (refine Ar_gate ?_; first | (fail_if_success skip) | refine xA ?_) | (first | refine Do_str_eq ?_ | refine Do_str_ne ?_ | refine DoN_len tok rfl ?_ | refine Eqv_in ?_)) | ((try conv => whnf); (first | (refine St_gate ?_; refine xS ?_) | (refine StN_gate ?_; refine xN ?_)); clear H; intro w H))
    refine Do_sadd ?_ (by show 1 + _ ≤ _; omega)
    (repeat first | refine goN ?_ | ((try conv => whnf); first | (refine Ar_gate ?_; first | (fail_if_success skip) | refine xA ?_) | (first | refine Do_str_eq ?_ | refine Do_str_ne ?_ | refine DoN_len tok rfl ?_ | refine Eqv_in ?_)) | ((try conv => whnf); (first | (refine St_gate ?_; refine xS ?_) | (refine StN_gate ?_; refine xN ?_)); clear H; intro w H))
    refine Do_sadd ?_ (by rw [ByteArray.size_append]; show 1 + _ + 1 ≤ _; omega)
    (repeat first | refine goN ?_ | ((try conv => whnf); first | (refine Ar_gate ?_; first | (fail_if_success skip) | refine xA ?_) | (first | refine Do_str_eq ?_ | refine Do_str_ne ?_ | refine DoN_len tok rfl ?_ | refine Eqv_in ?_)) | ((try conv => whnf); (first | (refine St_gate ?_; refine xS ?_) | (refine StN_gate ?_; refine xN ?_)); clear H; intro w H))
    exact Ret_in ⟨rfl, H.tail⟩
theorem tText (x : Ex) : ∀ {w : World} {l : List Res} (H : Sep w0 w l) (hp : Pow w0) (hs : ∀ {w' : World} {l' : List Res}, Sep w0 w' (l' ++ l) → TOk w' x) (hb : bulk x ≤ 2000000) (hsh : shapeB x = true),
    Does Tryz.prog 39 #[exA x] w fun v w' => v = .string (txt x) ∧ Sep w0 w' l := by
  induction x using Ex.ind with
  | h x ih =>
    intro w l H hp hs hb hsh
    refine Does_intro tok (Tryz.call39 _ _) Tryz.func39 rfl (by rfl) ?_
    have hkl := kids_bulk x
    rw [shape_eq, Bool.and_eq_true, List.all_eq_true] at hsh
    obtain ⟨hone, hksh⟩ := hsh
    have hone2 := hone
    unfold oneB at hone
    simp only [Bool.and_eq_true, decide_eq_true_eq] at hone
    obtain ⟨⟨⟨ho1, ho2⟩, hnk⟩, hleaf⟩ := hone
    have hnk2 : nk x.op ≤ 2 := by unfold nk; split; omega; split <;> omega
    have htx : txt x = textF itoaC x (x.kids.map txt) := text_eq itoaC x
    have hgo : ∀ k ∈ x.kids, ∀ {w : World} {l' : List Res}, Sep w0 w (l' ++ l) → Does Tryz.prog 62 #[exA k] w fun v w' => v = .string (inn k (txt k)) ∧ Sep w0 w' (l' ++ l) := fun k hk {w} {l'} H => by
      have hbk := bulk_kid hk
      refine tInner H (by omega) fun {w} {l''} H => ?_
      exact ih k hk H hp (fun {w'} {l3} h => TOk.kids hs k hk (l' := l3 ++ l'' ++ l') (by simpa using h)) (by omega) (hksh k hk)
    (repeat first | refine goN ?_ | ((try conv => whnf); first | (refine Ar_gate ?_; first | (fail_if_success skip) | refine xA ?_) | (first | refine Do_str_eq ?_ | refine Do_str_ne ?_ | refine DoN_len tok rfl ?_ | refine Eqv_in ?_)) | ((try conv => whnf); (first | (refine St_gate ?_; refine xS ?_) | (refine StN_gate ?_; refine xN ?_)); clear H; intro w H))
    (refine Nw_sep H ?_; clear H; intro xb w H; (try simp only [Value.cells, List.toList_toArray, List.append_nil, List.cons_append, List.nil_append] at H))
    (repeat first | refine goN ?_ | ((try conv => whnf); first | (refine Ar_gate ?_; first | (fail_if_success skip) | refine xA ?_) | (first | refine Do_str_eq ?_ | refine Do_str_ne ?_ | refine DoN_len tok rfl ?_ | refine Eqv_in ?_)) | ((try conv => whnf); (first | (refine St_gate ?_; refine xS ?_) | (refine StN_gate ?_; refine xN ?_)); clear H; intro w H))
    by_cases hk0 : x.kids.length = 0
    · have hk : x.kids = [] := List.length_eq_zero_iff.1 hk0
      have hw : txt x = wordB x.num x.name itoaC x.op := by rw [htx]; unfold textF; rw [hk]
      rw [hw]
      unfold wordB
      by_cases h1 : x.op = 1
      · rw [if_pos h1]
        unfold leafB at hleaf
        rw [if_pos h1] at hleaf
        simp only [Bool.and_eq_true, decide_eq_true_eq] at hleaf
        (repeat first | refine goN ?_ | ((try conv => whnf); first | (refine Ar_gate ?_; first | (fail_if_success skip) | refine xA ?_) | (first | refine Do_str_eq ?_ | refine Do_str_ne ?_ | refine DoN_len tok rfl ?_ | refine Eqv_in ?_)) | ((try conv => whnf); (first | (refine St_gate ?_; refine xS ?_) | (refine StN_gate ?_; refine xN ?_)); clear H; intro w H))
        refine Call_of (rFmt H hp (by omega) (by omega)) ?_
        clear H
        rintro _ w ⟨rfl, H⟩
        (repeat first | refine goN ?_ | ((try conv => whnf); first | (refine Ar_gate ?_; first | (fail_if_success skip) | refine xA ?_) | (first | refine Do_str_eq ?_ | refine Do_str_ne ?_ | refine DoN_len tok rfl ?_ | refine Eqv_in ?_)) | ((try conv => whnf); (first | (refine St_gate ?_; refine xS ?_) | (refine StN_gate ?_; refine xN ?_)); clear H; intro w H))
        exact Ret_in ⟨rfl, H.tail⟩
      rw [if_neg h1]
      by_cases h2 : x.op = 2
      · rw [if_pos h2]
        by_cases h3 : x.num = 1
        · rw [if_pos h3]
          (repeat first | refine goN ?_ | ((try conv => whnf); first | (refine Ar_gate ?_; first | (fail_if_success skip) | refine xA ?_) | (first | refine Do_str_eq ?_ | refine Do_str_ne ?_ | refine DoN_len tok rfl ?_ | refine Eqv_in ?_)) | ((try conv => whnf); (first | (refine St_gate ?_; refine xS ?_) | (refine StN_gate ?_; refine xN ?_)); clear H; intro w H))
          refine Call_of (rFmtBool _) ?_
          rintro _ _ ⟨rfl, rfl⟩
          (repeat first | refine goN ?_ | ((try conv => whnf); first | (refine Ar_gate ?_; first | (fail_if_success skip) | refine xA ?_) | (first | refine Do_str_eq ?_ | refine Do_str_ne ?_ | refine DoN_len tok rfl ?_ | refine Eqv_in ?_)) | ((try conv => whnf); (first | (refine St_gate ?_; refine xS ?_) | (refine StN_gate ?_; refine xN ?_)); clear H; intro w H))
          exact Ret_in ⟨by simp [h3]; rfl, H.tail⟩
        · rw [if_neg h3]
          (repeat first | refine goN ?_ | ((try conv => whnf); first | (refine Ar_gate ?_; first | (fail_if_success skip) | refine xA ?_) | (first | refine Do_str_eq ?_ | refine Do_str_ne ?_ | refine DoN_len tok rfl ?_ | refine Eqv_in ?_)) | ((try conv => whnf); (first | (refine St_gate ?_; refine xS ?_) | (refine StN_gate ?_; refine xN ?_)); clear H; intro w H))
          refine Call_of (rFmtBool _) ?_
          rintro _ _ ⟨rfl, rfl⟩
          (repeat first | refine goN ?_ | ((try conv => whnf); first | (refine Ar_gate ?_; first | (fail_if_success skip) | refine xA ?_) | (first | refine Do_str_eq ?_ | refine Do_str_ne ?_ | refine DoN_len tok rfl ?_ | refine Eqv_in ?_)) | ((try conv => whnf); (first | (refine St_gate ?_; refine xS ?_) | (refine StN_gate ?_; refine xN ?_)); clear H; intro w H))
          exact Ret_in ⟨by simp [h3]; rfl, H.tail⟩
      rw [if_neg h2]
      (repeat first | refine goN ?_ | ((try conv => whnf); first | (refine Ar_gate ?_; first | (fail_if_success skip) | refine xA ?_) | (first | refine Do_str_eq ?_ | refine Do_str_ne ?_ | refine DoN_len tok rfl ?_ | refine Eqv_in ?_)) | ((try conv => whnf); (first | (refine St_gate ?_; refine xS ?_) | (refine StN_gate ?_; refine xN ?_)); clear H; intro w H))
      exact Ret_in ⟨rfl, H.tail⟩
    have hok := TOk_iff.1 (hs (l' := [_]) H)
    obtain ⟨ab, ao, hat⟩ := hok.1.addr (by rw [rowLen exV_len]; omega)
    have hsrc : ∀ {w' : World} {l' : List Res}, Sep w0 w' (l' ++ l) → Src w' (some ⟨ab, ao, none⟩) x.kids.length 6 (x.kids.flatMap exV) := fun h => by rw [← hat]; exact (TOk_iff.1 (hs h)).1
    rw [hat] at H ⊢
    have hts := fun k => txt_size k
    have hks : ∀ k ∈ x.kids, (inn k (txt k)).size ≤ 40000002 := fun k hk => by
      have := bulk_kid hk
      have := txt_size k
      have := inn_size k (txt k)
      omega
    have hss := sign_size x.op
    by_cases hk1 : x.kids.length = 1
    · obtain ⟨k, hk⟩ := List.length_eq_one_iff.1 hk1
      have hkm : k ∈ x.kids := by rw [hk]; exact .head _
      have hw : txt x = (if 7 ≤ x.op then signB x.op ++ str [32] else signB x.op) ++ inn k (txt k) := by rw [htx]; unfold textF; rw [hk]; rfl
      have hkz := hks k hkm
      have hrow := rowPart (f := exV) (sz := 6) exV_len (show x.kids[0]? = some k by rw [hk]; rfl)
      rw [hw]
      (repeat first | refine goN ?_ | ((try conv => whnf); first | (refine Ar_gate ?_; first | (fail_if_success skip) | refine xA ?_) | (first | refine Do_str_eq ?_ | refine Do_str_ne ?_ | refine DoN_len tok rfl ?_ | refine Eqv_in ?_)) | ((try conv => whnf); (first | (refine St_gate ?_; refine xS ?_) | (refine StN_gate ?_; refine xN ?_)); clear H; intro w H))
      refine Call_of (tSign x.op H) ?_
      clear H
      rintro _ w ⟨rfl, H⟩
      by_cases h7 : 7 ≤ x.op
      case' pos =>
        rw [if_pos h7]
        (repeat first | refine goN ?_ | ((try conv => whnf); first | (refine Ar_gate ?_; first | (fail_if_success skip) | refine xA ?_) | (first | refine Do_str_eq ?_ | refine Do_str_ne ?_ | refine DoN_len tok rfl ?_ | refine Eqv_in ?_)) | ((try conv => whnf); (first | (refine St_gate ?_; refine xS ?_) | (refine StN_gate ?_; refine xN ?_)); clear H; intro w H))
        refine Do_sadd ?_ (by show _ + 1 ≤ _; omega)
      case' neg => rw [if_neg h7]
      all_goals
        (repeat first | refine goN ?_ | ((try conv => whnf); first | (refine Ar_gate ?_; first | (fail_if_success skip) | refine xA ?_) | (first | refine Do_str_eq ?_ | refine Do_str_ne ?_ | refine DoN_len tok rfl ?_ | refine Eqv_in ?_)) | ((try conv => whnf); (first | (refine St_gate ?_; refine xS ?_) | (refine StN_gate ?_; refine xN ?_)); clear H; intro w H))
        refine Ix_in 0 rfl (by omega) ?_
        refine LdN_src (hsrc (l' := [_]) H) (vs := [.int .i64 k.op, .int .i64 k.num, .string k.name, .slice k.at_ k.kids.length k.cap, .int .i64 k.line, .int .i64 k.col]) hrow rfl ?_
        (repeat first | refine goN ?_ | ((try conv => whnf); first | (refine Ar_gate ?_; first | (fail_if_success skip) | refine xA ?_) | (first | refine Do_str_eq ?_ | refine Do_str_ne ?_ | refine DoN_len tok rfl ?_ | refine Eqv_in ?_)) | ((try conv => whnf); (first | (refine St_gate ?_; refine xS ?_) | (refine StN_gate ?_; refine xN ?_)); clear H; intro w H))
        refine Call_of (hgo k hkm (l' := [_]) H) ?_
        clear H
        rintro _ w ⟨rfl, H⟩
        (repeat first | refine goN ?_ | ((try conv => whnf); first | (refine Ar_gate ?_; first | (fail_if_success skip) | refine xA ?_) | (first | refine Do_str_eq ?_ | refine Do_str_ne ?_ | refine DoN_len tok rfl ?_ | refine Eqv_in ?_)) | ((try conv => whnf); (first | (refine St_gate ?_; refine xS ?_) | (refine StN_gate ?_; refine xN ?_)); clear H; intro w H))
        refine Do_sadd ?_ (by try rw [ByteArray.size_append]
                              first | omega | (show _ + 1 + _ ≤ _; omega))
        (repeat first | refine goN ?_ | ((try conv => whnf); first | (refine Ar_gate ?_; first | (fail_if_success skip) | refine xA ?_) | (first | refine Do_str_eq ?_ | refine Do_str_ne ?_ | refine DoN_len tok rfl ?_ | refine Eqv_in ?_)) | ((try conv => whnf); (first | (refine St_gate ?_; refine xS ?_) | (refine StN_gate ?_; refine xN ?_)); clear H; intro w H))
        exact Ret_in ⟨rfl, H.tail⟩
    · have hk2 : x.kids.length = 2 := by omega
      obtain ⟨k, m, hk⟩ : ∃ k m, x.kids = [k, m] := by
        match x.kids, hk2 with
        | [k, m], _ => exact ⟨k, m, rfl⟩
      have hkm : k ∈ x.kids := by rw [hk]; exact .head _
      have hmm : m ∈ x.kids := by rw [hk]; exact .tail _ (.head _)
      have hw : txt x = inn k (txt k) ++ str [32] ++ signB x.op ++ str [32] ++ inn m (txt m) := by rw [htx]; unfold textF; rw [hk]; rfl
      have hkz := hks k hkm
      have hmz := hks m hmm
      have hrow := rowPart (f := exV) (sz := 6) exV_len (show x.kids[0]? = some k by rw [hk]; rfl)
      have hrom := rowPart (f := exV) (sz := 6) exV_len (show x.kids[1]? = some m by rw [hk]; rfl)
      rw [hw]
      (repeat first | refine goN ?_ | ((try conv => whnf); first | (refine Ar_gate ?_; first | (fail_if_success skip) | refine xA ?_) | (first | refine Do_str_eq ?_ | refine Do_str_ne ?_ | refine DoN_len tok rfl ?_ | refine Eqv_in ?_)) | ((try conv => whnf); (first | (refine St_gate ?_; refine xS ?_) | (refine StN_gate ?_; refine xN ?_)); clear H; intro w H))
      refine Draw_intro mixed [0, 1, 2, 3, 6, 7, 11, 12, 13, 14, 4, 5, 8, 9, 10, 15, 16, 17] (by decide +kernel) (fun w _ fd => ?_); replace H := H.fr fd; clear fd
      (repeat first | refine goN ?_ | ((try conv => whnf); first | (refine Ar_gate ?_; first | (fail_if_success skip) | refine xA ?_) | (first | refine Do_str_eq ?_ | refine Do_str_ne ?_ | refine DoN_len tok rfl ?_ | refine Eqv_in ?_)) | ((try conv => whnf); (first | (refine St_gate ?_; refine xS ?_) | (refine StN_gate ?_; refine xN ?_)); clear H; intro w H))
      refine Ix_in 0 rfl (by omega) ?_
      refine LdN_src (hsrc (l' := [_]) H) (vs := [.int .i64 k.op, .int .i64 k.num, .string k.name, .slice k.at_ k.kids.length k.cap, .int .i64 k.line, .int .i64 k.col]) hrow rfl ?_
      (repeat first | refine goN ?_ | ((try conv => whnf); first | (refine Ar_gate ?_; first | (fail_if_success skip) | refine xA ?_) | (first | refine Do_str_eq ?_ | refine Do_str_ne ?_ | refine DoN_len tok rfl ?_ | refine Eqv_in ?_)) | ((try conv => whnf); (first | (refine St_gate ?_; refine xS ?_) | (refine StN_gate ?_; refine xN ?_)); clear H; intro w H))
      refine Ix_in 1 rfl (by omega) ?_
      refine LdN_src (hsrc (l' := [_]) H) (vs := [.int .i64 m.op, .int .i64 m.num, .string m.name, .slice m.at_ m.kids.length m.cap, .int .i64 m.line, .int .i64 m.col]) hrom rfl ?_
      (repeat first | refine goN ?_ | ((try conv => whnf); first | (refine Ar_gate ?_; first | (fail_if_success skip) | refine xA ?_) | (first | refine Do_str_eq ?_ | refine Do_str_ne ?_ | refine DoN_len tok rfl ?_ | refine Eqv_in ?_)) | ((try conv => whnf); (first | (refine St_gate ?_; refine xS ?_) | (refine StN_gate ?_; refine xN ?_)); clear H; intro w H))
      refine Call_of (hgo k hkm (l' := [_]) H) ?_
      clear H
      rintro _ w ⟨rfl, H⟩
      (repeat first | refine goN ?_ | ((try conv => whnf); first | (refine Ar_gate ?_; first | (fail_if_success skip) | refine xA ?_) | (first | refine Do_str_eq ?_ | refine Do_str_ne ?_ | refine DoN_len tok rfl ?_ | refine Eqv_in ?_)) | ((try conv => whnf); (first | (refine St_gate ?_; refine xS ?_) | (refine StN_gate ?_; refine xN ?_)); clear H; intro w H))
      (repeat (refine Kept_gate ?_; first | refine ⟨keepSrc (hsrc (l' := [_]) H) hrom rfl, ?_⟩ | refine ⟨hJ1 _, ?_⟩ | refine ⟨hJ2 _, ?_⟩ | refine ⟨hJ3 _, ?_⟩))
      (repeat first | refine goN ?_ | ((try conv => whnf); first | (refine Ar_gate ?_; first | (fail_if_success skip) | refine xA ?_) | (first | refine Do_str_eq ?_ | refine Do_str_ne ?_ | refine DoN_len tok rfl ?_ | refine Eqv_in ?_)) | ((try conv => whnf); (first | (refine St_gate ?_; refine xS ?_) | (refine StN_gate ?_; refine xN ?_)); clear H; intro w H))
      refine DoS_sadd (fun J1 hJ1 => ?_) (by show _ + 1 ≤ _; omega)
      (repeat first | refine goN ?_ | ((try conv => whnf); first | (refine Ar_gate ?_; first | (fail_if_success skip) | refine xA ?_) | (first | refine Do_str_eq ?_ | refine Do_str_ne ?_ | refine DoN_len tok rfl ?_ | refine Eqv_in ?_)) | ((try conv => whnf); (first | (refine St_gate ?_; refine xS ?_) | (refine StN_gate ?_; refine xN ?_)); clear H; intro w H))
      refine Call_of (tSign x.op H) ?_
      clear H
      rintro _ w ⟨rfl, H⟩
      (repeat first | refine goN ?_ | ((try conv => whnf); first | (refine Ar_gate ?_; first | (fail_if_success skip) | refine xA ?_) | (first | refine Do_str_eq ?_ | refine Do_str_ne ?_ | refine DoN_len tok rfl ?_ | refine Eqv_in ?_)) | ((try conv => whnf); (first | (refine St_gate ?_; refine xS ?_) | (refine StN_gate ?_; refine xN ?_)); clear H; intro w H))
      (repeat (refine Kept_gate ?_; first | refine ⟨keepSrc (hsrc (l' := [_]) H) hrom rfl, ?_⟩ | refine ⟨hJ1 _, ?_⟩ | refine ⟨hJ2 _, ?_⟩ | refine ⟨hJ3 _, ?_⟩))
      (repeat first | refine goN ?_ | ((try conv => whnf); first | (refine Ar_gate ?_; first | (fail_if_success skip) | refine xA ?_) | (first | refine Do_str_eq ?_ | refine Do_str_ne ?_ | refine DoN_len tok rfl ?_ | refine Eqv_in ?_)) | ((try conv => whnf); (first | (refine St_gate ?_; refine xS ?_) | (refine StN_gate ?_; refine xN ?_)); clear H; intro w H))
      refine DoS_sadd (fun J2 hJ2 => ?_) (by rw [ByteArray.size_append]; show _ + 1 + _ ≤ _; omega)
      (repeat first | refine goN ?_ | ((try conv => whnf); first | (refine Ar_gate ?_; first | (fail_if_success skip) | refine xA ?_) | (first | refine Do_str_eq ?_ | refine Do_str_ne ?_ | refine DoN_len tok rfl ?_ | refine Eqv_in ?_)) | ((try conv => whnf); (first | (refine St_gate ?_; refine xS ?_) | (refine StN_gate ?_; refine xN ?_)); clear H; intro w H))
      refine DoS_sadd (fun J3 hJ3 => ?_) (by rw [ByteArray.size_append, ByteArray.size_append]; show _ + 1 + _ + 1 ≤ _; omega)
      (repeat first | refine goN ?_ | ((try conv => whnf); first | (refine Ar_gate ?_; first | (fail_if_success skip) | refine xA ?_) | (first | refine Do_str_eq ?_ | refine Do_str_ne ?_ | refine DoN_len tok rfl ?_ | refine Eqv_in ?_)) | ((try conv => whnf); (first | (refine St_gate ?_; refine xS ?_) | (refine StN_gate ?_; refine xN ?_)); clear H; intro w H))
      refine Call_of (hgo m hmm (l' := [_]) H) ?_
      clear H
      rintro _ w ⟨rfl, H⟩
      (repeat first | refine goN ?_ | ((try conv => whnf); first | (refine Ar_gate ?_; first | (fail_if_success skip) | refine xA ?_) | (first | refine Do_str_eq ?_ | refine Do_str_ne ?_ | refine DoN_len tok rfl ?_ | refine Eqv_in ?_)) | ((try conv => whnf); (first | (refine St_gate ?_; refine xS ?_) | (refine StN_gate ?_; refine xN ?_)); clear H; intro w H))
      (repeat (refine Kept_gate ?_; first | refine ⟨keepSrc (hsrc (l' := [_]) H) hrom rfl, ?_⟩ | refine ⟨hJ1 _, ?_⟩ | refine ⟨hJ2 _, ?_⟩ | refine ⟨hJ3 _, ?_⟩))
      (repeat first | refine goN ?_ | ((try conv => whnf); first | (refine Ar_gate ?_; first | (fail_if_success skip) | refine xA ?_) | (first | refine Do_str_eq ?_ | refine Do_str_ne ?_ | refine DoN_len tok rfl ?_ | refine Eqv_in ?_)) | ((try conv => whnf); (first | (refine St_gate ?_; refine xS ?_) | (refine StN_gate ?_; refine xN ?_)); clear H; intro w H))
      refine DoS_sadd (fun J4 hJ4 => ?_) (by rw [ByteArray.size_append, ByteArray.size_append, ByteArray.size_append]; show _ + 1 + _ + 1 + _ ≤ _; omega)
      (repeat first | refine goN ?_ | ((try conv => whnf); first | (refine Ar_gate ?_; first | (fail_if_success skip) | refine xA ?_) | (first | refine Do_str_eq ?_ | refine Do_str_ne ?_ | refine DoN_len tok rfl ?_ | refine Eqv_in ?_)) | ((try conv => whnf); (first | (refine St_gate ?_; refine xS ?_) | (refine StN_gate ?_; refine xN ?_)); clear H; intro w H))
      exact Ret_in ⟨rfl, H.tail⟩
theorem tExpr (x : Ex) {w : World} {l : List Res} (H : Sep w0 w l) (hp : Pow w0) (hs : ∀ {w' : World} {l' : List Res}, Sep w0 w' (l' ++ l) → TOk w' x) (hb : bulk x ≤ 2000000) :
    Does Tryz.prog 9 #[exA x] w fun v w' => v = .tuple #[.string (if writB x then txt x else str []), .int .i64 (if writB x then 0 else 141)] ∧ Sep w0 w' l := by
  refine Does_intro tok (Tryz.call9 _ _) Tryz.func9 rfl (by rfl) ?_
  (repeat first | refine goN ?_ | ((try conv => whnf); first | (refine Ar_gate ?_; first | (fail_if_success skip) | refine xA ?_) | (first | refine Do_str_eq ?_ | refine Do_str_ne ?_ | refine DoN_len tok rfl ?_ | refine Eqv_in ?_)) | ((try conv => whnf); (first | (refine St_gate ?_; refine xS ?_) | (refine StN_gate ?_; refine xN ?_)); clear H; intro w H))
  (refine Nw_sep H ?_; clear H; intro xb w H; (try simp only [Value.cells, List.toList_toArray, List.append_nil, List.cons_append, List.nil_append] at H))
  (repeat first | refine goN ?_ | ((try conv => whnf); first | (refine Ar_gate ?_; first | (fail_if_success skip) | refine xA ?_) | (first | refine Do_str_eq ?_ | refine Do_str_ne ?_ | refine DoN_len tok rfl ?_ | refine Eqv_in ?_)) | ((try conv => whnf); (first | (refine St_gate ?_; refine xS ?_) | (refine StN_gate ?_; refine xN ?_)); clear H; intro w H))
  refine Call_of (tWritten x H (fun {w'} {l'} h => hs (l' := l' ++ [_]) (by simpa using h)) hb) ?_
  clear H
  rintro _ w ⟨rfl, H⟩
  cases hw : writB x with
  | false =>
    (repeat first | refine goN ?_ | ((try conv => whnf); first | (refine Ar_gate ?_; first | (fail_if_success skip) | refine xA ?_) | (first | refine Do_str_eq ?_ | refine Do_str_ne ?_ | refine DoN_len tok rfl ?_ | refine Eqv_in ?_)) | ((try conv => whnf); (first | (refine St_gate ?_; refine xS ?_) | (refine StN_gate ?_; refine xN ?_)); clear H; intro w H))
    exact Ret_in ⟨rfl, H.tail⟩
  | true =>
    have hsh : shapeB x = true := by
      unfold writB at hw
      rw [Bool.and_eq_true] at hw
      exact rightB_shape hw.1
    (repeat first | refine goN ?_ | ((try conv => whnf); first | (refine Ar_gate ?_; first | (fail_if_success skip) | refine xA ?_) | (first | refine Do_str_eq ?_ | refine Do_str_ne ?_ | refine DoN_len tok rfl ?_ | refine Eqv_in ?_)) | ((try conv => whnf); (first | (refine St_gate ?_; refine xS ?_) | (refine StN_gate ?_; refine xN ?_)); clear H; intro w H))
    refine Call_of (tText x H hp (fun {w'} {l'} h => hs (l' := l' ++ [_]) (by simpa using h)) hb hsh) ?_
    clear H
    rintro _ w ⟨rfl, H⟩
    (repeat first | refine goN ?_ | ((try conv => whnf); first | (refine Ar_gate ?_; first | (fail_if_success skip) | refine xA ?_) | (first | refine Do_str_eq ?_ | refine Do_str_ne ?_ | refine DoN_len tok rfl ?_ | refine Eqv_in ?_)) | ((try conv => whnf); (first | (refine St_gate ?_; refine xS ?_) | (refine StN_gate ?_; refine xN ?_)); clear H; intro w H))
    exact Ret_in ⟨rfl, H.tail⟩
end
end Go.Proofs.YthpekiohalejmaaGreatDoor
