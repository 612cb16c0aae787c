/- Models, written line by line. -/
import Derived.Test.YthpekiohalejmaaGreatDoorTreeG
set_option linter.unusedVariables false
set_option linter.unusedSimpArgs false
namespace Go.Tree
theorem byteSize (a : Array UInt8) : (⟨a⟩ : ByteArray).size = a.size := rfl
theorem deX_next {tx : Ex → ByteArray} : ∀ (l : List Ex) (x : Ex) (s : ByteArray), deX tx (l ++ [x]) s = deX tx l s ++ (str [32, 61, 32] ++ tx x)
  | [], x, s => rfl
  | y :: l, x, s => by simp only [List.cons_append, deX]; exact deX_next l x _
end Go.Tree
namespace Go.Proofs.YthpekiohalejmaaGreatDoor
open Go Go.Vc Go.Tree
set_option maxHeartbeats 4000000
set_option maxRecDepth 100000
section
variable {w0 w : World} {l : List Res}
theorem writ_shape {x : Ex} (h : writB x = true) : shapeB x = true := by
  unfold writB at h
  rw [Bool.and_eq_true] at h
  exact rightB_shape h.1
theorem tDeclText (d : De) (H : Sep w0 w l) (hp : Pow w0) (hs : DeOk w0 d) (hb : deK d ≤ 2000000) (hB : deB d = true) : Does Tryz.prog 16 #[deA d] w fun v w' => v = .string (deT txt itoaC d) ∧ Sep w0 w' l := by
  refine Does_intro tok (Tryz.call16 _ _) Tryz.func16 rfl (by rfl) ?_
  have hlen := sum_len (l := d.begins) (g := bulk) fun x => by have := bulk_pos x; omega
  have hval : ∀ a ∈ d.begins, bulk a ≤ 2000000 := fun v hv => by
    have := sum_mem (g := bulk) hv
    unfold deK at hb; omega
  have hbe : ∀ a ∈ d.begins, shapeB a = true := fun a ha => by
    unfold deB at hB
    simp only [Bool.and_eq_true, List.all_eq_true] at hB
    exact writ_shape (hB.2 a ha)
  have hsE := deE_size (itoa := itoaC) itoaC_size d
  unfold deK at hb
  (repeat first | refine goN ?_ | ((try conv => whnf); first | (refine Ar_gate ?_; first | (fail_if_success skip) | refine xA ?_) | (first | refine Do_str_eq ?_ | refine Do_str_ne ?_ | refine DoN_len tok rfl ?_ | refine Eqv_in ?_)) | ((try conv => whnf); (first | (refine St_gate ?_; refine xS ?_) | (refine StN_gate ?_; refine xN ?_)); clear H; intro w H))
  (refine Nw_sep H ?_; clear H; intro xb w H; (try simp only [Value.cells, List.toList_toArray, List.append_nil, List.cons_append, List.nil_append] at H))
  (repeat first | refine goN ?_ | ((try conv => whnf); first | (refine Ar_gate ?_; first | (fail_if_success skip) | refine xA ?_) | (first | refine Do_str_eq ?_ | refine Do_str_ne ?_ | refine DoN_len tok rfl ?_ | refine Eqv_in ?_)) | ((try conv => whnf); (first | (refine St_gate ?_; refine xS ?_) | (refine StN_gate ?_; refine xN ?_)); clear H; intro w H))
  refine Do_sadd ?_ (by simp only [ByteArray.size_append, byteSize, str_size, List.size_toArray, List.length_cons, List.length_nil]; omega)
  (repeat first | refine goN ?_ | ((try conv => whnf); first | (refine Ar_gate ?_; first | (fail_if_success skip) | refine xA ?_) | (first | refine Do_str_eq ?_ | refine Do_str_ne ?_ | refine DoN_len tok rfl ?_ | refine Eqv_in ?_)) | ((try conv => whnf); (first | (refine St_gate ?_; refine xS ?_) | (refine StN_gate ?_; refine xN ?_)); clear H; intro w H))
  refine Do_sadd ?_ (by simp only [ByteArray.size_append, byteSize, str_size, List.size_toArray, List.length_cons, List.length_nil]; omega)
  have hdE : deE itoaC d = if d.typ = (⟨#[]⟩ : ByteArray) then deH d ++ (itoaC d.lo ++ str [46, 46] ++ itoaC d.hi) else deH d := rfl
  by_cases ht : d.typ = (⟨#[]⟩ : ByteArray)
  case' pos =>
    have hr : -1000000 ≤ d.lo ∧ -1000000 ≤ d.hi ∧ d.lo ≤ 1000000 ∧ d.hi ≤ 1000000 := by
      unfold deB at hB
      simp only [Bool.and_eq_true] at hB
      have := hB.1.1.1
      rw [show endsB d = (decide (-1000000 ≤ d.lo) && decide (-1000000 ≤ d.hi) && decide (d.lo ≤ 1000000) && decide (d.hi ≤ 1000000)) from if_pos ht] at this
      simp only [Bool.and_eq_true, decide_eq_true_eq] at this
      omega
    rw [if_pos ht] at hdE
    have z1 := itoaC_size d.lo
    have z2 := itoaC_size d.hi
    (repeat first | refine goN ?_ | ((try conv => whnf); first | (refine Ar_gate ?_; first | (fail_if_success skip) | refine xA ?_) | (first | refine Do_str_eq ?_ | refine Do_str_ne ?_ | refine DoN_len tok rfl ?_ | refine Eqv_in ?_)) | ((try conv => whnf); (first | (refine St_gate ?_; refine xS ?_) | (refine StN_gate ?_; refine xN ?_)); clear H; intro w H))
    refine Draw_intro mixed [0, 1, 2, 5, 6, 3, 4, 7, 8, 9, 10] (by decide +kernel) (fun w _ fd => ?_); replace H := H.fr fd; clear fd
    (repeat first | refine goN ?_ | ((try conv => whnf); first | (refine Ar_gate ?_; first | (fail_if_success skip) | refine xA ?_) | (first | refine Do_str_eq ?_ | refine Do_str_ne ?_ | refine DoN_len tok rfl ?_ | refine Eqv_in ?_)) | ((try conv => whnf); (first | (refine St_gate ?_; refine xS ?_) | (refine StN_gate ?_; refine xN ?_)); clear H; intro w H))
    refine Call_of (rFmt H hp (by omega) (by omega)) ?_
    clear H
    rintro _ w ⟨rfl, H⟩
    (repeat first | refine goN ?_ | ((try conv => whnf); first | (refine Ar_gate ?_; first | (fail_if_success skip) | refine xA ?_) | (first | refine Do_str_eq ?_ | refine Do_str_ne ?_ | refine DoN_len tok rfl ?_ | refine Eqv_in ?_)) | ((try conv => whnf); (first | (refine St_gate ?_; refine xS ?_) | (refine StN_gate ?_; refine xN ?_)); clear H; intro w H))
    refine DoS_sadd (fun J1 hJ1 => ?_) (by simp only [ByteArray.size_append, byteSize, str_size, List.size_toArray, List.length_cons, List.length_nil]; omega)
    (repeat first | refine goN ?_ | ((try conv => whnf); first | (refine Ar_gate ?_; first | (fail_if_success skip) | refine xA ?_) | (first | refine Do_str_eq ?_ | refine Do_str_ne ?_ | refine DoN_len tok rfl ?_ | refine Eqv_in ?_)) | ((try conv => whnf); (first | (refine St_gate ?_; refine xS ?_) | (refine StN_gate ?_; refine xN ?_)); clear H; intro w H))
    refine Call_of (rFmt H hp (by omega) (by omega)) ?_
    clear H
    rintro _ w ⟨rfl, H⟩
    (repeat first | refine goN ?_ | ((try conv => whnf); first | (refine Ar_gate ?_; first | (fail_if_success skip) | refine xA ?_) | (first | refine Do_str_eq ?_ | refine Do_str_ne ?_ | refine DoN_len tok rfl ?_ | refine Eqv_in ?_)) | ((try conv => whnf); (first | (refine St_gate ?_; refine xS ?_) | (refine StN_gate ?_; refine xN ?_)); clear H; intro w H))
    (repeat (refine Kept_gate ?_; refine ⟨hJ1 _, ?_⟩; (repeat first | refine goN ?_ | ((try conv => whnf); first | (refine Ar_gate ?_; first | (fail_if_success skip) | refine xA ?_) | (first | refine Do_str_eq ?_ | refine Do_str_ne ?_ | refine DoN_len tok rfl ?_ | refine Eqv_in ?_)) | ((try conv => whnf); (first | (refine St_gate ?_; refine xS ?_) | (refine StN_gate ?_; refine xN ?_)); clear H; intro w H))))
    refine DoS_sadd (fun J2 hJ2 => ?_) (by simp only [ByteArray.size_append, byteSize, str_size, List.size_toArray, List.length_cons, List.length_nil]; omega)
    (repeat first | refine goN ?_ | ((try conv => whnf); first | (refine Ar_gate ?_; first | (fail_if_success skip) | refine xA ?_) | (first | refine Do_str_eq ?_ | refine Do_str_ne ?_ | refine DoN_len tok rfl ?_ | refine Eqv_in ?_)) | ((try conv => whnf); (first | (refine St_gate ?_; refine xS ?_) | (refine StN_gate ?_; refine xN ?_)); clear H; intro w H))
    (repeat (refine Kept_gate ?_; (first | refine ⟨hJ1 _, ?_⟩ | refine ⟨hJ2 _, ?_⟩); (repeat first | refine goN ?_ | ((try conv => whnf); first | (refine Ar_gate ?_; first | (fail_if_success skip) | refine xA ?_) | (first | refine Do_str_eq ?_ | refine Do_str_ne ?_ | refine DoN_len tok rfl ?_ | refine Eqv_in ?_)) | ((try conv => whnf); (first | (refine St_gate ?_; refine xS ?_) | (refine StN_gate ?_; refine xN ?_)); clear H; intro w H))))
    refine DoS_sadd (fun J3 hJ3 => ?_) (by simp only [ByteArray.size_append, byteSize, str_size, List.size_toArray, List.length_cons, List.length_nil]; omega)
    (repeat first | refine goN ?_ | ((try conv => whnf); first | (refine Ar_gate ?_; first | (fail_if_success skip) | refine xA ?_) | (first | refine Do_str_eq ?_ | refine Do_str_ne ?_ | refine DoN_len tok rfl ?_ | refine Eqv_in ?_)) | ((try conv => whnf); (first | (refine St_gate ?_; refine xS ?_) | (refine StN_gate ?_; refine xN ?_)); clear H; intro w H))
  case' neg =>
    rw [if_neg ht] at hdE
    (repeat first | refine goN ?_ | ((try conv => whnf); first | (refine Ar_gate ?_; first | (fail_if_success skip) | refine xA ?_) | (first | refine Do_str_eq ?_ | refine Do_str_ne ?_ | refine DoN_len tok rfl ?_ | refine Eqv_in ?_)) | ((try conv => whnf); (first | (refine St_gate ?_; refine xS ?_) | (refine StN_gate ?_; refine xN ?_)); clear H; intro w H))
  all_goals
    refine Do_sadd ?_ (by simp only [ByteArray.size_append, byteSize, str_size, List.size_toArray, List.length_cons, List.length_nil]; omega)
    (repeat first | refine goN ?_ | ((try conv => whnf); first | (refine Ar_gate ?_; first | (fail_if_success skip) | refine xA ?_) | (first | refine Do_str_eq ?_ | refine Do_str_ne ?_ | refine DoN_len tok rfl ?_ | refine Eqv_in ?_)) | ((try conv => whnf); (first | (refine St_gate ?_; refine xS ?_) | (refine StN_gate ?_; refine xN ?_)); clear H; intro w H))
    have hsX : ∀ i, i ≤ d.begins.length → (deX txt (d.begins.take i) (deE itoaC d ++ d.typ)).size ≤ 100000000 := fun i hi => by
      have h1 := deX_size txt_size (d.begins.take i) (deE itoaC d ++ d.typ)
      have h2 : ((d.begins.take i).map bulk).sum ≤ (d.begins.map bulk).sum := by
        conv => rhs; rw [← List.take_append_drop i d.begins, List.map_append, List.sum_append]
        omega
      rw [ByteArray.size_append] at h1
      omega
    refine Loop_intro (fun i : Nat => [(30, .int .i64 (i : Int)), (3, .string (deX txt (d.begins.take i) (deE itoaC d ++ d.typ)))]) (fun i w => i ≤ d.begins.length ∧ Sep w0 w (cellsR xb 55 (deV d) :: l)) (fun i => d.begins.length - i)
      0 ⟨rfl, congrArg some (congrArg Value.string (by rw [hdE]; rfl)), trivial⟩ ⟨Nat.zero_le _, H⟩ ?_
    clear H
    rintro i w ⟨hi, H⟩
    refine Br_dec (fun k1 => ?_) (fun k1 => ?_)
    · have hlt : i < d.begins.length := by omega
      have hok := H.rd hs.1
      obtain ⟨b, o, ho⟩ := hok.addr (by rw [rowLen exV_len]; omega)
      have hx : d.begins[i]? = some d.begins[i] := List.getElem?_eq_getElem hlt
      have htk : deX txt (d.begins.take (i + 1)) (deE itoaC d ++ d.typ) = deX txt (d.begins.take i) (deE itoaC d ++ d.typ) ++ (str [32, 61, 32] ++ txt d.begins[i]) := by
        rw [List.take_add_one, hx]; exact deX_next _ _ _
      have hmem := List.getElem_mem hlt
      have hrow := rowPart (f := exV) (sz := 6) exV_len hx
      generalize d.begins[i] = k at *
      have z3 := hsX i hi
      have z4 := txt_size k
      have z5 := hval k hmem
      generalize deX txt (d.begins.take i) (deE itoaC d ++ d.typ) = s at *
      rw [ho] at hok ⊢
      refine Ix_in i rfl hlt ?_
      refine LdN_src hok (vs := [.int .i64 k.op, .int .i64 k.num, .string k.name, .slice k.at_ k.kids.length k.cap, .int .i64 k.line, .int .i64 k.col]) hrow rfl ?_
      clear hok
      (repeat first | refine goN ?_ | ((try conv => whnf); first | (refine Ar_gate ?_; first | (fail_if_success skip) | refine xA ?_) | (first | refine Do_str_eq ?_ | refine Do_str_ne ?_ | refine DoN_len tok rfl ?_ | refine Eqv_in ?_)) | ((try conv => whnf); (first | (refine St_gate ?_; refine xS ?_) | (refine StN_gate ?_; refine xN ?_)); clear H; intro w H))
      (refine Nw_sep H ?_; clear H; intro kb w H; (try simp only [Value.cells, List.toList_toArray, List.append_nil, List.cons_append, List.nil_append] at H))
      (repeat first | refine goN ?_ | ((try conv => whnf); first | (refine Ar_gate ?_; first | (fail_if_success skip) | refine xA ?_) | (first | refine Do_str_eq ?_ | refine Do_str_ne ?_ | refine DoN_len tok rfl ?_ | refine Eqv_in ?_)) | ((try conv => whnf); (first | (refine St_gate ?_; refine xS ?_) | (refine StN_gate ?_; refine xN ?_)); clear H; intro w H))
      refine Call_of (tText k H hp (fun h => (hs.2 k hmem).rd h) (by omega) (hbe k hmem)) ?_
      clear H
      rintro _ w ⟨rfl, H⟩
      (repeat first | refine goN ?_ | ((try conv => whnf); first | (refine Ar_gate ?_; first | (fail_if_success skip) | refine xA ?_) | (first | refine Do_str_eq ?_ | refine Do_str_ne ?_ | refine DoN_len tok rfl ?_ | refine Eqv_in ?_)) | ((try conv => whnf); (first | (refine St_gate ?_; refine xS ?_) | (refine StN_gate ?_; refine xN ?_)); clear H; intro w H))
      refine Do_sadd ?_ (by simp only [ByteArray.size_append, byteSize, str_size, List.size_toArray, List.length_cons, List.length_nil]; omega)
      (repeat first | refine goN ?_ | ((try conv => whnf); first | (refine Ar_gate ?_; first | (fail_if_success skip) | refine xA ?_) | (first | refine Do_str_eq ?_ | refine Do_str_ne ?_ | refine DoN_len tok rfl ?_ | refine Eqv_in ?_)) | ((try conv => whnf); (first | (refine St_gate ?_; refine xS ?_) | (refine StN_gate ?_; refine xN ?_)); clear H; intro w H))
      refine Do_sadd ?_ (by simp only [ByteArray.size_append, byteSize, str_size, List.size_toArray, List.length_cons, List.length_nil]; omega)
      (repeat first | refine goN ?_ | ((try conv => whnf); first | (refine Ar_gate ?_; first | (fail_if_success skip) | refine xA ?_) | (first | refine Do_str_eq ?_ | refine Do_str_ne ?_ | refine DoN_len tok rfl ?_ | refine Eqv_in ?_)) | ((try conv => whnf); (first | (refine St_gate ?_; refine xS ?_) | (refine StN_gate ?_; refine xN ?_)); clear H; intro w H))
      refine ⟨i + 1, ⟨congrArg some (vint (by omega)), congrArg some (congrArg Value.string ?_), trivial⟩, ⟨by omega, H.tail⟩, by omega⟩
      rw [htk]; rfl
    · obtain rfl : i = d.begins.length := by omega
      have z3 := hsX _ (Nat.le_refl _)
      rw [List.take_length] at z3 ⊢
      (repeat first | refine goN ?_ | ((try conv => whnf); first | (refine Ar_gate ?_; first | (fail_if_success skip) | refine xA ?_) | (first | refine Do_str_eq ?_ | refine Do_str_ne ?_ | refine DoN_len tok rfl ?_ | refine Eqv_in ?_)) | ((try conv => whnf); (first | (refine St_gate ?_; refine xS ?_) | (refine StN_gate ?_; refine xN ?_)); clear H; intro w H))
      refine Do_sadd ?_ (by simp only [ByteArray.size_append, byteSize, str_size, List.size_toArray, List.length_cons, List.length_nil]; omega)
      (repeat first | refine goN ?_ | ((try conv => whnf); first | (refine Ar_gate ?_; first | (fail_if_success skip) | refine xA ?_) | (first | refine Do_str_eq ?_ | refine Do_str_ne ?_ | refine DoN_len tok rfl ?_ | refine Eqv_in ?_)) | ((try conv => whnf); (first | (refine St_gate ?_; refine xS ?_) | (refine StN_gate ?_; refine xN ?_)); clear H; intro w H))
      exact Ret_in ⟨rfl, H.tail⟩
theorem tRuleText (r : Ru) (H : Sep w0 w l) (hp : Pow w0) (hs : RuOk w0 r) (hb : ruK r ≤ 2000000) (hB : ruB r = true) : Does Tryz.prog 17 #[ruA r] w fun v w' => v = .string (ruT txt r) ∧ Sep w0 w' l := by
  refine Does_intro tok (Tryz.call17 _ _) Tryz.func17 rfl (by rfl) ?_
  have hlen := sum_len (l := r.acts) (g := asK) fun x => by unfold asK; omega
  have hval : ∀ a ∈ r.acts, asK a ≤ 2000000 := fun v hv => by
    have := sum_mem (g := asK) hv
    unfold ruK at hb; omega
  unfold ruB at hB
  simp only [Bool.and_eq_true, List.all_eq_true] at hB
  have hsh : ∀ a ∈ r.acts, shapeB a.to = true := fun a ha => by
    have := hB.2 a ha
    unfold asB at this
    rw [Bool.and_eq_true] at this
    exact writ_shape this.2
  unfold ruK at hb
  (repeat first | refine goN ?_ | ((try conv => whnf); first | (refine Ar_gate ?_; first | (fail_if_success skip) | refine xA ?_) | (first | refine Do_str_eq ?_ | refine Do_str_ne ?_ | refine DoN_len tok rfl ?_ | refine Eqv_in ?_)) | ((try conv => whnf); (first | (refine St_gate ?_; refine xS ?_) | (refine StN_gate ?_; refine xN ?_)); clear H; intro w H))
  (refine Nw_sep H ?_; clear H; intro xb w H; (try simp only [Value.cells, List.toList_toArray, List.append_nil, List.cons_append, List.nil_append] at H))
  (repeat first | refine goN ?_ | ((try conv => whnf); first | (refine Ar_gate ?_; first | (fail_if_success skip) | refine xA ?_) | (first | refine Do_str_eq ?_ | refine Do_str_ne ?_ | refine DoN_len tok rfl ?_ | refine Eqv_in ?_)) | ((try conv => whnf); (first | (refine St_gate ?_; refine xS ?_) | (refine StN_gate ?_; refine xN ?_)); clear H; intro w H))
  replace H := Own.nilR H 9 1
  refine Loop_intro (fun q : Nat × Option Addr × Nat => [(9, .int .i64 (q.1 : Int)), (3, .slice q.2.1 q.1 q.2.2)]) (fun q w => q.1 ≤ r.acts.length ∧ Sep w0 w (ownR q.2.1 q.1 q.2.2 9 1 (((r.acts.take q.1).map (asT txt)).map Value.string) :: cellsR xb 62 (ruV r) :: l)) (fun q => r.acts.length - q.1)
    (0, none, 0) ⟨rfl, rfl, trivial⟩ ⟨Nat.zero_le _, H⟩ ?_
  clear H
  rintro ⟨i, a, c⟩ w ⟨hi, H⟩
  simp only [] at hi H ⊢
  refine Br_dec (fun k1 => ?_) (fun k1 => ?_)
  · have hlt : i < r.acts.length := by omega
    have hok := H.rd hs.2.1
    obtain ⟨b, o, ho⟩ := hok.addr (by rw [rowLen asV_len]; omega)
    have hx : r.acts[i]? = some r.acts[i] := List.getElem?_eq_getElem hlt
    have htk : ((r.acts.take (i + 1)).map (asT txt)).map Value.string = ((r.acts.take i).map (asT txt)).map Value.string ++ [.string (asT txt r.acts[i])] := by
      rw [List.take_add_one, hx, List.map_append, List.map_append]; rfl
    have hmem := List.getElem_mem hlt
    have hrow := rowPart (f := asV) (sz := 9) asV_len hx
    generalize r.acts[i] = k at *
    have z4 := txt_size k.to
    have z5 := hval k hmem
    unfold asK at z5
    rw [ho] at hok ⊢
    refine Ix_in i rfl hlt ?_
    refine LdN_src hok (vs := [.string k.name, .int .i64 k.to.op, .int .i64 k.to.num, .string k.to.name, .slice k.to.at_ k.to.kids.length k.to.cap, .int .i64 k.to.line, .int .i64 k.to.col, .int .i64 k.line, .int .i64 k.col]) hrow rfl ?_
    clear hok
    (repeat first | refine goN ?_ | ((try conv => whnf); first | (refine Ar_gate ?_; first | (fail_if_success skip) | refine xA ?_) | (first | refine Do_str_eq ?_ | refine Do_str_ne ?_ | refine DoN_len tok rfl ?_ | refine Eqv_in ?_)) | ((try conv => whnf); (first | (refine St_gate ?_; refine xS ?_) | (refine StN_gate ?_; refine xN ?_)); clear H; intro w H))
    (refine Nw_sep H ?_; clear H; intro kb w H; (try simp only [Value.cells, List.toList_toArray, List.append_nil, List.cons_append, List.nil_append] at H))
    (repeat first | refine goN ?_ | ((try conv => whnf); first | (refine Ar_gate ?_; first | (fail_if_success skip) | refine xA ?_) | (first | refine Do_str_eq ?_ | refine Do_str_ne ?_ | refine DoN_len tok rfl ?_ | refine Eqv_in ?_)) | ((try conv => whnf); (first | (refine St_gate ?_; refine xS ?_) | (refine StN_gate ?_; refine xN ?_)); clear H; intro w H))
    refine Draw_intro mixed [0, 1, 2, 3, 4, 5, 6, 7, 8, 9, 10] (by decide +kernel) (fun w _ fd => ?_); replace H := H.fr fd; clear fd
    (repeat first | refine goN ?_ | ((try conv => whnf); first | (refine Ar_gate ?_; first | (fail_if_success skip) | refine xA ?_) | (first | refine Do_str_eq ?_ | refine Do_str_ne ?_ | refine DoN_len tok rfl ?_ | refine Eqv_in ?_)) | ((try conv => whnf); (first | (refine St_gate ?_; refine xS ?_) | (refine StN_gate ?_; refine xN ?_)); clear H; intro w H))
    refine DoS_sadd (fun J1 hJ1 => ?_) (by simp only [ByteArray.size_append, byteSize, str_size, List.size_toArray, List.length_cons, List.length_nil]; omega)
    (repeat first | refine goN ?_ | ((try conv => whnf); first | (refine Ar_gate ?_; first | (fail_if_success skip) | refine xA ?_) | (first | refine Do_str_eq ?_ | refine Do_str_ne ?_ | refine DoN_len tok rfl ?_ | refine Eqv_in ?_)) | ((try conv => whnf); (first | (refine St_gate ?_; refine xS ?_) | (refine StN_gate ?_; refine xN ?_)); clear H; intro w H))
    refine LdN_src (o := 0) (j := 1) (H.srcCM 1 9 (.head _) rfl (by decide)) (vs := [.int .i64 k.to.op, .int .i64 k.to.num, .string k.to.name, .slice k.to.at_ k.to.kids.length k.to.cap, .int .i64 k.to.line, .int .i64 k.to.col]) rfl rfl ?_
    (repeat first | refine goN ?_ | ((try conv => whnf); first | (refine Ar_gate ?_; first | (fail_if_success skip) | refine xA ?_) | (first | refine Do_str_eq ?_ | refine Do_str_ne ?_ | refine DoN_len tok rfl ?_ | refine Eqv_in ?_)) | ((try conv => whnf); (first | (refine St_gate ?_; refine xS ?_) | (refine StN_gate ?_; refine xN ?_)); clear H; intro w H))
    refine Call_of (tText k.to H hp (fun h => (hs.2.2 k hmem).rd h) (by omega) (hsh k hmem)) ?_
    clear H
    rintro _ w ⟨rfl, H⟩
    (repeat first | refine goN ?_ | ((try conv => whnf); first | (refine Ar_gate ?_; first | (fail_if_success skip) | refine xA ?_) | (first | refine Do_str_eq ?_ | refine Do_str_ne ?_ | refine DoN_len tok rfl ?_ | refine Eqv_in ?_)) | ((try conv => whnf); (first | (refine St_gate ?_; refine xS ?_) | (refine StN_gate ?_; refine xN ?_)); clear H; intro w H))
    (repeat (refine Kept_gate ?_; refine ⟨hJ1 _, ?_⟩; (repeat first | refine goN ?_ | ((try conv => whnf); first | (refine Ar_gate ?_; first | (fail_if_success skip) | refine xA ?_) | (first | refine Do_str_eq ?_ | refine Do_str_ne ?_ | refine DoN_len tok rfl ?_ | refine Eqv_in ?_)) | ((try conv => whnf); (first | (refine St_gate ?_; refine xS ?_) | (refine StN_gate ?_; refine xN ?_)); clear H; intro w H))))
    refine DoS_sadd (fun J2 hJ2 => ?_) (by simp only [ByteArray.size_append, byteSize, str_size, List.size_toArray, List.length_cons, List.length_nil]; omega)
    (repeat first | refine goN ?_ | ((try conv => whnf); first | (refine Ar_gate ?_; first | (fail_if_success skip) | refine xA ?_) | (first | refine Do_str_eq ?_ | refine Do_str_ne ?_ | refine DoN_len tok rfl ?_ | refine Eqv_in ?_)) | ((try conv => whnf); (first | (refine St_gate ?_; refine xS ?_) | (refine StN_gate ?_; refine xN ?_)); clear H; intro w H))
    refine Nw_sep H ?_; clear H; intro nb w H; (try simp only [Value.cells, List.toList_toArray, List.append_nil, List.cons_append, List.nil_append] at H)
    (repeat first | refine goN ?_ | ((try conv => whnf); first | (refine Ar_gate ?_; first | (fail_if_success skip) | refine xA ?_) | (first | refine Do_str_eq ?_ | refine Do_str_ne ?_ | refine DoN_len tok rfl ?_ | refine Eqv_in ?_)) | ((try conv => whnf); (first | (refine St_gate ?_; refine xS ?_) | (refine StN_gate ?_; refine xN ?_)); clear H; intro w H))
    (repeat (refine Kept_gate ?_; (first | refine ⟨hJ1 _, ?_⟩ | refine ⟨hJ2 _, ?_⟩); (repeat first | refine goN ?_ | ((try conv => whnf); first | (refine Ar_gate ?_; first | (fail_if_success skip) | refine xA ?_) | (first | refine Do_str_eq ?_ | refine Do_str_ne ?_ | refine DoN_len tok rfl ?_ | refine Eqv_in ?_)) | ((try conv => whnf); (first | (refine St_gate ?_; refine xS ?_) | (refine StN_gate ?_; refine xN ?_)); clear H; intro w H))))
    (refine DoN_gate ?_; refine append_one tok H rfl rfl rfl rfl rfl (by decide) mm (m := 1) rfl (by simp [oneCell]) (by omega) (by unfold maxLen; omega) ?_; clear H; intro a2 c2 w H; replace H := H _ (by repeat first | exact Upd.head | apply Upd.tail))
    (repeat first | refine goN ?_ | ((try conv => whnf); first | (refine Ar_gate ?_; first | (fail_if_success skip) | refine xA ?_) | (first | refine Do_str_eq ?_ | refine Do_str_ne ?_ | refine DoN_len tok rfl ?_ | refine Eqv_in ?_)) | ((try conv => whnf); (first | (refine St_gate ?_; refine xS ?_) | (refine StN_gate ?_; refine xN ?_)); clear H; intro w H))
    (repeat (refine Kept_gate ?_; (first | refine ⟨hJ1 _, ?_⟩ | refine ⟨hJ2 _, ?_⟩); (repeat first | refine goN ?_ | ((try conv => whnf); first | (refine Ar_gate ?_; first | (fail_if_success skip) | refine xA ?_) | (first | refine Do_str_eq ?_ | refine Do_str_ne ?_ | refine DoN_len tok rfl ?_ | refine Eqv_in ?_)) | ((try conv => whnf); (first | (refine St_gate ?_; refine xS ?_) | (refine StN_gate ?_; refine xN ?_)); clear H; intro w H))))
    refine ⟨(i + 1, a2, c2), ⟨congrArg some (vint (by simp)), rfl, trivial⟩, ⟨by simp only []; omega, ?_⟩, by simp; omega⟩
    simp only []
    rw [htk]
    exact H.tail
  · obtain rfl : i = r.acts.length := by omega
    rw [List.take_length] at H
    have hown := H.srcM (a := a) (n := r.acts.length) (cap := c) (el := 9) (sz := 1) (xs := (r.acts.map (asT txt)).map Value.string) (.head _)
    have hcap := (H.ownM (a := a) (n := r.acts.length) (cap := c) (el := 9) (sz := 1) (xs := (r.acts.map (asT txt)).map Value.string) (.head _)).2.1
    have z1 := txt_size r.when_
    have z2 := acts_size txt_size r.acts
    refine LdN_src (o := 0) (j := 0) (H.srcCM 1 7 (.tail _ (.head _)) rfl (by decide)) (vs := [.int .i64 r.when_.op, .int .i64 r.when_.num, .string r.when_.name, .slice r.when_.at_ r.when_.kids.length r.when_.cap, .int .i64 r.when_.line, .int .i64 r.when_.col]) rfl rfl ?_
    (repeat first | refine goN ?_ | ((try conv => whnf); first | (refine Ar_gate ?_; first | (fail_if_success skip) | refine xA ?_) | (first | refine Do_str_eq ?_ | refine Do_str_ne ?_ | refine DoN_len tok rfl ?_ | refine Eqv_in ?_)) | ((try conv => whnf); (first | (refine St_gate ?_; refine xS ?_) | (refine StN_gate ?_; refine xN ?_)); clear H; intro w H))
    refine Call_of (tText r.when_ H hp (fun h => hs.1.rd h) (by omega) (writ_shape hB.1.1)) ?_
    clear H hown
    rintro _ w ⟨rfl, H⟩
    (repeat first | refine goN ?_ | ((try conv => whnf); first | (refine Ar_gate ?_; first | (fail_if_success skip) | refine xA ?_) | (first | refine Do_str_eq ?_ | refine Do_str_ne ?_ | refine DoN_len tok rfl ?_ | refine Eqv_in ?_)) | ((try conv => whnf); (first | (refine St_gate ?_; refine xS ?_) | (refine StN_gate ?_; refine xN ?_)); clear H; intro w H))
    refine Do_sadd ?_ (by simp only [ByteArray.size_append, byteSize, str_size, List.size_toArray, List.length_cons, List.length_nil]; omega)
    (repeat first | refine goN ?_ | ((try conv => whnf); first | (refine Ar_gate ?_; first | (fail_if_success skip) | refine xA ?_) | (first | refine Do_str_eq ?_ | refine Do_str_ne ?_ | refine DoN_len tok rfl ?_ | refine Eqv_in ?_)) | ((try conv => whnf); (first | (refine St_gate ?_; refine xS ?_) | (refine StN_gate ?_; refine xN ?_)); clear H; intro w H))
    refine Do_sadd ?_ (by simp only [ByteArray.size_append, byteSize, str_size, List.size_toArray, List.length_cons, List.length_nil]; omega)
    (repeat first | refine goN ?_ | ((try conv => whnf); first | (refine Ar_gate ?_; first | (fail_if_success skip) | refine xA ?_) | (first | refine Do_str_eq ?_ | refine Do_str_ne ?_ | refine DoN_len tok rfl ?_ | refine Eqv_in ?_)) | ((try conv => whnf); (first | (refine St_gate ?_; refine xS ?_) | (refine StN_gate ?_; refine xN ?_)); clear H; intro w H))
    have hown := H.srcM (a := a) (n := r.acts.length) (cap := c) (el := 9) (sz := 1) (xs := (r.acts.map (asT txt)).map Value.string) (.head _)
    have hj := sJoin (xs := r.acts.map (asT txt)) (a := a) (c := c) H (by rw [List.length_map]; exact hown) (by rw [List.length_map]; exact hcap) (by rw [List.length_map]; omega) (by omega)
    rw [List.length_map] at hj
    refine Call_of hj ?_
    clear H hown hj
    rintro _ w ⟨rfl, H⟩
    (repeat first | refine goN ?_ | ((try conv => whnf); first | (refine Ar_gate ?_; first | (fail_if_success skip) | refine xA ?_) | (first | refine Do_str_eq ?_ | refine Do_str_ne ?_ | refine DoN_len tok rfl ?_ | refine Eqv_in ?_)) | ((try conv => whnf); (first | (refine St_gate ?_; refine xS ?_) | (refine StN_gate ?_; refine xN ?_)); clear H; intro w H))
    refine Do_sadd ?_ (by simp only [ByteArray.size_append, byteSize, str_size, List.size_toArray, List.length_cons, List.length_nil]; omega)
    (repeat first | refine goN ?_ | ((try conv => whnf); first | (refine Ar_gate ?_; first | (fail_if_success skip) | refine xA ?_) | (first | refine Do_str_eq ?_ | refine Do_str_ne ?_ | refine DoN_len tok rfl ?_ | refine Eqv_in ?_)) | ((try conv => whnf); (first | (refine St_gate ?_; refine xS ?_) | (refine StN_gate ?_; refine xN ?_)); clear H; intro w H))
    refine Do_sadd ?_ (by simp only [ByteArray.size_append, byteSize, str_size, List.size_toArray, List.length_cons, List.length_nil]; omega)
    (repeat first | refine goN ?_ | ((try conv => whnf); first | (refine Ar_gate ?_; first | (fail_if_success skip) | refine xA ?_) | (first | refine Do_str_eq ?_ | refine Do_str_ne ?_ | refine DoN_len tok rfl ?_ | refine Eqv_in ?_)) | ((try conv => whnf); (first | (refine St_gate ?_; refine xS ?_) | (refine StN_gate ?_; refine xN ?_)); clear H; intro w H))
    exact Ret_in ⟨rfl, H.tail.tail⟩
end
end Go.Proofs.YthpekiohalejmaaGreatDoor
