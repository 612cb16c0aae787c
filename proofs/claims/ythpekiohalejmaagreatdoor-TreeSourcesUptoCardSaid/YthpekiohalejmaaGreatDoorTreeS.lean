/- A model as a text. -/
import Derived.Test.YthpekiohalejmaaGreatDoorTreeH
set_option linter.unusedVariables false
set_option linter.unusedSimpArgs false
namespace Go.Proofs.YthpekiohalejmaaGreatDoor
open Go Go.Vc Go.Tree
set_option maxHeartbeats 4000000
set_option maxRecDepth 100000
section
variable {w0 w : World} {l : List Res}
theorem bW1 {b x t : Nat} {cs : List Value} {bs : List UInt8} {s : ByteArray} (H : Sep w0 w [bldR w0.heap.size b bs, cellsR x t cs]) (ht : t ≠ 5) (hlen : bs.length + s.size ≤ 140737488355328) :
    Does Tryz.prog 14 #[.pointer (some ⟨b, 0, none⟩), .string s] w fun v w' => v = .tuple #[.int .i64 (s.size : Int), .nilIface] ∧ Sep w0 w' [bldR w0.heap.size b (bs ++ bL s), cellsR x t cs] :=
  bWrite (ps := [(x, t, cs)]) H (fun p hp => by simp at hp; subst hp; exact ht) hlen
theorem bW2 {b x t y u : Nat} {cs ds : List Value} {bs : List UInt8} {s : ByteArray} (H : Sep w0 w [bldR w0.heap.size b bs, cellsR x t cs, cellsR y u ds]) (ht : t ≠ 5) (hu : u ≠ 5) (hlen : bs.length + s.size ≤ 140737488355328) :
    Does Tryz.prog 14 #[.pointer (some ⟨b, 0, none⟩), .string s] w fun v w' => v = .tuple #[.int .i64 (s.size : Int), .nilIface] ∧ Sep w0 w' [bldR w0.heap.size b (bs ++ bL s), cellsR x t cs, cellsR y u ds] :=
  bWrite (ps := [(x, t, cs), (y, u, ds)]) H (fun p hp => by simp at hp; rcases hp with rfl | rfl; exact ht; exact hu) hlen
def soV (m : So) : List Value := [.slice m.ea m.enums.length m.ec, .slice m.va m.vars.length m.vc, .slice m.pa m.procs.length m.pc]
theorem tSource0 {w1 : World} (m : So) (hp1 : Pow w1) (hs1 : SoOk w1 m) (hb : soK m ≤ 2000000) : Does Tryz.prog 5 #[soA m] w1 fun v w' => v = .tuple #[.string (if soB m then ⟨(soL txt itoaC m).toArray⟩ else str []), .int .i64 (if soB m then 0 else 141)] ∧ Sep w1 w' [] := by
  have H := Sep.nil w1
  refine Does_intro tok (Tryz.call5 _ _) Tryz.func5 rfl (by rfl) ?_
  have hlen := soL_len txt_size itoaC_size m
  have hle := sum_len (l := m.enums) (g := enK) fun x => by unfold enK; omega
  have hlv := sum_len (l := m.vars) (g := deK) fun x => by unfold deK; omega
  have hlp := sum_len (l := m.procs) (g := prK) fun x => by unfold prK; omega
  have hb0 := hb
  unfold soK at hb
  have hve : ∀ a ∈ m.enums, enK a ≤ 2000000 := fun v hv => by have := sum_mem (g := enK) hv; omega
  have hvv : ∀ a ∈ m.vars, deK a ≤ 2000000 := fun v hv => by have := sum_mem (g := deK) hv; omega
  have hvp : ∀ a ∈ m.procs, prK a ≤ 2000000 := fun v hv => by have := sum_mem (g := prK) hv; omega
  (repeat first | refine goN ?_ | ((try conv => whnf); first | (refine Ar_gate ?_; first | (fail_if_success skip) | refine xA ?_) | (first | refine Do_str_eq ?_ | refine Do_str_ne ?_ | refine DoN_len tok rfl ?_ | refine Eqv_in ?_)) | ((try conv => whnf); (first | (refine St_gate ?_; refine xS ?_) | (refine StN_gate ?_; refine xN ?_)); clear H; intro w H))
  (refine Nw_sep H ?_; clear H; intro xb w H; (try simp only [Value.cells, List.toList_toArray, List.append_nil, List.cons_append, List.nil_append] at H))
  (repeat first | refine goN ?_ | ((try conv => whnf); first | (refine Ar_gate ?_; first | (fail_if_success skip) | refine xA ?_) | (first | refine Do_str_eq ?_ | refine Do_str_ne ?_ | refine DoN_len tok rfl ?_ | refine Eqv_in ?_)) | ((try conv => whnf); (first | (refine St_gate ?_; refine xS ?_) | (refine StN_gate ?_; refine xN ?_)); clear H; intro w H))
  refine Call_of (tsource m H hs1 hb0) ?_
  clear H
  rintro _ w ⟨rfl, H⟩
  cases hB : soB m with
  | false =>
    (repeat first | refine goN ?_ | ((try conv => whnf); first | (refine Ar_gate ?_; first | (fail_if_success skip) | refine xA ?_) | (first | refine Do_str_eq ?_ | refine Do_str_ne ?_ | refine DoN_len tok rfl ?_ | refine Eqv_in ?_)) | ((try conv => whnf); (first | (refine St_gate ?_; refine xS ?_) | (refine StN_gate ?_; refine xN ?_)); clear H; intro w H))
    exact Ret_in ⟨rfl, H.tail⟩
  | true =>
    unfold soB at hB
    simp only [Bool.and_eq_true, List.all_eq_true] at hB
    obtain ⟨⟨⟨_, hBe⟩, hBv⟩, hBp⟩ := hB
    (repeat first | refine goN ?_ | ((try conv => whnf); first | (refine Ar_gate ?_; first | (fail_if_success skip) | refine xA ?_) | (first | refine Do_str_eq ?_ | refine Do_str_ne ?_ | refine DoN_len tok rfl ?_ | refine Eqv_in ?_)) | ((try conv => whnf); (first | (refine St_gate ?_; refine xS ?_) | (refine StN_gate ?_; refine xN ?_)); clear H; intro w H))
    (refine Nw_sep H ?_; clear H; intro bb w H; (try simp only [Value.cells, List.toList_toArray, List.append_nil, List.cons_append, List.nil_append] at H))
    replace H := bNew H
    (repeat first | refine goN ?_ | ((try conv => whnf); first | (refine Ar_gate ?_; first | (fail_if_success skip) | refine xA ?_) | (first | refine Do_str_eq ?_ | refine Do_str_ne ?_ | refine DoN_len tok rfl ?_ | refine Eqv_in ?_)) | ((try conv => whnf); (first | (refine St_gate ?_; refine xS ?_) | (refine StN_gate ?_; refine xN ?_)); clear H; intro w H))
    refine Loop_intro (fun i : Nat => [(19, .int .i64 (i : Int))]) (fun i w => i ≤ m.enums.length ∧ Sep w1 w (bldR w1.heap.size bb ((m.enums.take i).flatMap fun e => bL (enT e)) :: [cellsR xb 26 (soV m)])) (fun i => m.enums.length - i)
      0 ⟨rfl, trivial⟩ ⟨Nat.zero_le _, H⟩ ?_
    clear H
    rintro i w ⟨hi, H⟩
    refine Br_dec (fun k1 => ?_) (fun k1 => ?_)
    · have hlt : i < m.enums.length := by omega
      have hok := H.rd hs1.es
      obtain ⟨b, o, ho⟩ := hok.addr (by rw [rowLen enV_len]; omega)
      have hx : m.enums[i]? = some m.enums[i] := List.getElem?_eq_getElem hlt
      have htk := flat_next (f := fun e => bL (enT e)) hx
      have hfl := flat_take_le (f := fun e => bL (enT e)) m.enums (i + 1)
      have hmem := List.getElem_mem hlt
      have hrow := rowPart (f := enV) (sz := 4) enV_len hx
      generalize m.enums[i] = k at *
      rw [htk, List.length_append, bL_len] at hfl
      have hfull : (m.enums.flatMap fun e => bL (enT e)).length ≤ (soL txt itoaC m).length := by unfold soL; rw [List.length_append, List.length_append]; omega
      have z1 := enT_size k
      have z2 := hve k hmem
      have z3 := joinS_size k.vals
      have z4 : (k.vals.map fun s => s.size + 2).sum ≤ 2 * (k.vals.map fun v => v.size + 1).sum := sum_mul fun x _ => by omega
      have z5 := sum_len (l := k.vals) (g := fun v => v.size + 1) fun x => by omega
      unfold enK at z1 z2
      rw [ho] at hok ⊢
      refine Ix_in i rfl hlt ?_
      refine LdN_src hok (vs := [.string k.name, .slice k.a k.vals.length k.c, .int .i64 k.line, .int .i64 k.col]) hrow rfl ?_
      clear hok
      (repeat first | refine goN ?_ | ((try conv => whnf); first | (refine Ar_gate ?_; first | (fail_if_success skip) | refine xA ?_) | (first | refine Do_str_eq ?_ | refine Do_str_ne ?_ | refine DoN_len tok rfl ?_ | refine Eqv_in ?_)) | ((try conv => whnf); (first | (refine St_gate ?_; refine xS ?_) | (refine StN_gate ?_; refine xN ?_)); clear H; intro w H))
      (refine Nw_sep H ?_; clear H; intro kb w H; (try simp only [Value.cells, List.toList_toArray, List.append_nil, List.cons_append, List.nil_append] at H))
      (repeat first | refine goN ?_ | ((try conv => whnf); first | (refine Ar_gate ?_; first | (fail_if_success skip) | refine xA ?_) | (first | refine Do_str_eq ?_ | refine Do_str_ne ?_ | refine DoN_len tok rfl ?_ | refine Eqv_in ?_)) | ((try conv => whnf); (first | (refine St_gate ?_; refine xS ?_) | (refine StN_gate ?_; refine xN ?_)); clear H; intro w H))
      refine Draw_intro mixed [0, 1, 2, 3, 4, 5, 6, 7, 8, 9] (by decide +kernel) (fun w _ fd => ?_); replace H := H.fr fd; clear fd
      (repeat first | refine goN ?_ | ((try conv => whnf); first | (refine Ar_gate ?_; first | (fail_if_success skip) | refine xA ?_) | (first | refine Do_str_eq ?_ | refine Do_str_ne ?_ | refine DoN_len tok rfl ?_ | refine Eqv_in ?_)) | ((try conv => whnf); (first | (refine St_gate ?_; refine xS ?_) | (refine StN_gate ?_; refine xN ?_)); clear H; intro w H))
      refine DoS_sadd (fun J1 hJ1 => ?_) (by simp only [ByteArray.size_append, byteSize, str_size, List.size_toArray, List.length_cons, List.length_nil]; omega)
      (repeat first | refine goN ?_ | ((try conv => whnf); first | (refine Ar_gate ?_; first | (fail_if_success skip) | refine xA ?_) | (first | refine Do_str_eq ?_ | refine Do_str_ne ?_ | refine DoN_len tok rfl ?_ | refine Eqv_in ?_)) | ((try conv => whnf); (first | (refine St_gate ?_; refine xS ?_) | (refine StN_gate ?_; refine xN ?_)); clear H; intro w H))
      refine DoS_sadd (fun J2 hJ2 => ?_) (by simp only [ByteArray.size_append, byteSize, str_size, List.size_toArray, List.length_cons, List.length_nil]; omega)
      (repeat first | refine goN ?_ | ((try conv => whnf); first | (refine Ar_gate ?_; first | (fail_if_success skip) | refine xA ?_) | (first | refine Do_str_eq ?_ | refine Do_str_ne ?_ | refine DoN_len tok rfl ?_ | refine Eqv_in ?_)) | ((try conv => whnf); (first | (refine St_gate ?_; refine xS ?_) | (refine StN_gate ?_; refine xN ?_)); clear H; intro w H))
      have hek := (hs1.en k hmem).rd H
      refine Call_of (sJoin (xs := k.vals) H hek.1 hek.2 (by omega) (by omega)) ?_
      clear H hek
      rintro _ w ⟨rfl, H⟩
      (repeat first | refine goN ?_ | ((try conv => whnf); first | (refine Ar_gate ?_; first | (fail_if_success skip) | refine xA ?_) | (first | refine Do_str_eq ?_ | refine Do_str_ne ?_ | refine DoN_len tok rfl ?_ | refine Eqv_in ?_)) | ((try conv => whnf); (first | (refine St_gate ?_; refine xS ?_) | (refine StN_gate ?_; refine xN ?_)); clear H; intro w H))
      (repeat (refine Kept_gate ?_; (first | refine xK ?_ | refine ⟨hJ1 _, ?_⟩ | refine ⟨hJ2 _, ?_⟩ | refine ⟨hJ3 _, ?_⟩ | refine ⟨hJ4 _, ?_⟩); (repeat first | refine goN ?_ | ((try conv => whnf); first | (refine Ar_gate ?_; first | (fail_if_success skip) | refine xA ?_) | (first | refine Do_str_eq ?_ | refine Do_str_ne ?_ | refine DoN_len tok rfl ?_ | refine Eqv_in ?_)) | ((try conv => whnf); (first | (refine St_gate ?_; refine xS ?_) | (refine StN_gate ?_; refine xN ?_)); clear H; intro w H))))
      refine DoS_sadd (fun J3 hJ3 => ?_) (by simp only [ByteArray.size_append, byteSize, str_size, List.size_toArray, List.length_cons, List.length_nil]; omega)
      (repeat first | refine goN ?_ | ((try conv => whnf); first | (refine Ar_gate ?_; first | (fail_if_success skip) | refine xA ?_) | (first | refine Do_str_eq ?_ | refine Do_str_ne ?_ | refine DoN_len tok rfl ?_ | refine Eqv_in ?_)) | ((try conv => whnf); (first | (refine St_gate ?_; refine xS ?_) | (refine StN_gate ?_; refine xN ?_)); clear H; intro w H))
      (repeat (refine Kept_gate ?_; (first | refine xK ?_ | refine ⟨hJ1 _, ?_⟩ | refine ⟨hJ2 _, ?_⟩ | refine ⟨hJ3 _, ?_⟩ | refine ⟨hJ4 _, ?_⟩); (repeat first | refine goN ?_ | ((try conv => whnf); first | (refine Ar_gate ?_; first | (fail_if_success skip) | refine xA ?_) | (first | refine Do_str_eq ?_ | refine Do_str_ne ?_ | refine DoN_len tok rfl ?_ | refine Eqv_in ?_)) | ((try conv => whnf); (first | (refine St_gate ?_; refine xS ?_) | (refine StN_gate ?_; refine xN ?_)); clear H; intro w H))))
      refine DoS_sadd (fun J4 hJ4 => ?_) (by simp only [ByteArray.size_append, byteSize, str_size, List.size_toArray, List.length_cons, List.length_nil]; omega)
      (repeat first | refine goN ?_ | ((try conv => whnf); first | (refine Ar_gate ?_; first | (fail_if_success skip) | refine xA ?_) | (first | refine Do_str_eq ?_ | refine Do_str_ne ?_ | refine DoN_len tok rfl ?_ | refine Eqv_in ?_)) | ((try conv => whnf); (first | (refine St_gate ?_; refine xS ?_) | (refine StN_gate ?_; refine xN ?_)); clear H; intro w H))
      (repeat (refine Kept_gate ?_; (first | refine xK ?_ | refine ⟨hJ1 _, ?_⟩ | refine ⟨hJ2 _, ?_⟩ | refine ⟨hJ3 _, ?_⟩ | refine ⟨hJ4 _, ?_⟩); (repeat first | refine goN ?_ | ((try conv => whnf); first | (refine Ar_gate ?_; first | (fail_if_success skip) | refine xA ?_) | (first | refine Do_str_eq ?_ | refine Do_str_ne ?_ | refine DoN_len tok rfl ?_ | refine Eqv_in ?_)) | ((try conv => whnf); (first | (refine St_gate ?_; refine xS ?_) | (refine StN_gate ?_; refine xN ?_)); clear H; intro w H))))
      replace H := H.tp 1
      refine Call_of (bW2 H (by decide) (by decide) (by simp only [ByteArray.size_append, byteSize, str_size, List.size_toArray, List.length_cons, List.length_nil]; omega)) ?_
      clear H
      rintro _ w ⟨rfl, H⟩
      (repeat first | refine goN ?_ | ((try conv => whnf); first | (refine Ar_gate ?_; first | (fail_if_success skip) | refine xA ?_) | (first | refine Do_str_eq ?_ | refine Do_str_ne ?_ | refine DoN_len tok rfl ?_ | refine Eqv_in ?_)) | ((try conv => whnf); (first | (refine St_gate ?_; refine xS ?_) | (refine StN_gate ?_; refine xN ?_)); clear H; intro w H))
      (repeat (refine Kept_gate ?_; (first | refine xK ?_ | refine ⟨hJ1 _, ?_⟩ | refine ⟨hJ2 _, ?_⟩ | refine ⟨hJ3 _, ?_⟩ | refine ⟨hJ4 _, ?_⟩); (repeat first | refine goN ?_ | ((try conv => whnf); first | (refine Ar_gate ?_; first | (fail_if_success skip) | refine xA ?_) | (first | refine Do_str_eq ?_ | refine Do_str_ne ?_ | refine DoN_len tok rfl ?_ | refine Eqv_in ?_)) | ((try conv => whnf); (first | (refine St_gate ?_; refine xS ?_) | (refine StN_gate ?_; refine xN ?_)); clear H; intro w H))))
      refine ⟨i + 1, ⟨congrArg some (vint (by omega)), trivial⟩, ⟨by omega, ?_⟩, by omega⟩
      rw [htk]
      exact H.drop 1 rfl rfl
    · obtain rfl : i = m.enums.length := by omega
      rw [List.take_length] at H
      clear hi k1
      (repeat first | refine goN ?_ | ((try conv => whnf); first | (refine Ar_gate ?_; first | (fail_if_success skip) | refine xA ?_) | (first | refine Do_str_eq ?_ | refine Do_str_ne ?_ | refine DoN_len tok rfl ?_ | refine Eqv_in ?_)) | ((try conv => whnf); (first | (refine St_gate ?_; refine xS ?_) | (refine StN_gate ?_; refine xN ?_)); clear H; intro w H))
      have hX1 : (m.enums.flatMap fun e => bL (enT e)).length + (m.vars.flatMap fun d => bL (deT txt itoaC d)).length + (m.procs.flatMap (prL txt)).length = (soL txt itoaC m).length := by unfold soL; rw [List.length_append, List.length_append]
      have hX0 : soL txt itoaC m = (m.enums.flatMap fun e => bL (enT e)) ++ (m.vars.flatMap fun d => bL (deT txt itoaC d)) ++ m.procs.flatMap (prL txt) := rfl
      generalize (m.enums.flatMap fun e => bL (enT e)) = X1 at *
      refine Loop_intro (fun i : Nat => [(37, .int .i64 (i : Int))]) (fun i w => i ≤ m.vars.length ∧ Sep w1 w [bldR w1.heap.size bb (X1 ++ (m.vars.take i).flatMap fun d => bL (deT txt itoaC d)), cellsR xb 26 (soV m)]) (fun i => m.vars.length - i)
        0 ⟨rfl, trivial⟩ ⟨Nat.zero_le _, by simpa using H⟩ ?_
      clear H
      rintro i w ⟨hi, H⟩
      refine Br_dec (fun k1 => ?_) (fun k1 => ?_)
      · have hlt : i < m.vars.length := by omega
        have hok := H.rd hs1.vs
        obtain ⟨b, o, ho⟩ := hok.addr (by rw [rowLen deV_len]; omega)
        have hx : m.vars[i]? = some m.vars[i] := List.getElem?_eq_getElem hlt
        have htk := flat_next (f := fun d => bL (deT txt itoaC d)) hx
        have hfl := flat_take_le (f := fun d => bL (deT txt itoaC d)) m.vars i
        have hmem := List.getElem_mem hlt
        have hrow := rowPart (f := deV) (sz := 7) deV_len hx
        generalize m.vars[i] = k at *
        have z1 := deT_size txt_size itoaC_size k
        have z2 := hvv k hmem
        rw [ho] at hok ⊢
        refine Ix_in i rfl hlt ?_
        refine LdN_src hok (vs := [.string k.name, .string k.typ, .int .i64 k.lo, .int .i64 k.hi, .slice k.a k.begins.length k.c, .int .i64 k.line, .int .i64 k.col]) hrow rfl ?_
        clear hok
        (repeat first | refine goN ?_ | ((try conv => whnf); first | (refine Ar_gate ?_; first | (fail_if_success skip) | refine xA ?_) | (first | refine Do_str_eq ?_ | refine Do_str_ne ?_ | refine DoN_len tok rfl ?_ | refine Eqv_in ?_)) | ((try conv => whnf); (first | (refine St_gate ?_; refine xS ?_) | (refine StN_gate ?_; refine xN ?_)); clear H; intro w H))
        (refine Nw_sep H ?_; clear H; intro kb w H; (try simp only [Value.cells, List.toList_toArray, List.append_nil, List.cons_append, List.nil_append] at H))
        (repeat first | refine goN ?_ | ((try conv => whnf); first | (refine Ar_gate ?_; first | (fail_if_success skip) | refine xA ?_) | (first | refine Do_str_eq ?_ | refine Do_str_ne ?_ | refine DoN_len tok rfl ?_ | refine Eqv_in ?_)) | ((try conv => whnf); (first | (refine St_gate ?_; refine xS ?_) | (refine StN_gate ?_; refine xN ?_)); clear H; intro w H))
        refine Call_of (tDeclText k H hp1 (hs1.de k hmem) z2 (hBv k hmem)) ?_
        clear H
        rintro _ w ⟨rfl, H⟩
        replace H := H.tail
        (repeat first | refine goN ?_ | ((try conv => whnf); first | (refine Ar_gate ?_; first | (fail_if_success skip) | refine xA ?_) | (first | refine Do_str_eq ?_ | refine Do_str_ne ?_ | refine DoN_len tok rfl ?_ | refine Eqv_in ?_)) | ((try conv => whnf); (first | (refine St_gate ?_; refine xS ?_) | (refine StN_gate ?_; refine xN ?_)); clear H; intro w H))
        refine Call_of (bW1 H (by decide) (by rw [List.length_append]; omega)) ?_
        clear H
        rintro _ w ⟨rfl, H⟩
        (repeat first | refine goN ?_ | ((try conv => whnf); first | (refine Ar_gate ?_; first | (fail_if_success skip) | refine xA ?_) | (first | refine Do_str_eq ?_ | refine Do_str_ne ?_ | refine DoN_len tok rfl ?_ | refine Eqv_in ?_)) | ((try conv => whnf); (first | (refine St_gate ?_; refine xS ?_) | (refine StN_gate ?_; refine xN ?_)); clear H; intro w H))
        refine ⟨i + 1, ⟨congrArg some (vint (by omega)), trivial⟩, ⟨by omega, ?_⟩, by omega⟩
        rw [htk, ← List.append_assoc]
        exact H
      · obtain rfl : i = m.vars.length := by omega
        rw [List.take_length] at H
        clear hi k1
        rw [← List.length_append] at hX1
        (repeat first | refine goN ?_ | ((try conv => whnf); first | (refine Ar_gate ?_; first | (fail_if_success skip) | refine xA ?_) | (first | refine Do_str_eq ?_ | refine Do_str_ne ?_ | refine DoN_len tok rfl ?_ | refine Eqv_in ?_)) | ((try conv => whnf); (first | (refine St_gate ?_; refine xS ?_) | (refine StN_gate ?_; refine xN ?_)); clear H; intro w H))
        generalize (X1 ++ m.vars.flatMap fun d => bL (deT txt itoaC d)) = X2 at *
        refine Loop_intro (fun i : Nat => [(48, .int .i64 (i : Int))]) (fun i w => i ≤ m.procs.length ∧ Sep w1 w [bldR w1.heap.size bb (X2 ++ (m.procs.take i).flatMap (prL txt)), cellsR xb 26 (soV m)]) (fun i => m.procs.length - i)
          0 ⟨rfl, trivial⟩ ⟨Nat.zero_le _, by simpa using H⟩ ?_
        clear H
        rintro i w ⟨hi, H⟩
        refine Br_dec (fun k1 => ?_) (fun k1 => ?_)
        · have hlt : i < m.procs.length := by omega
          have hok := H.rd hs1.ps
          obtain ⟨b, o, ho⟩ := hok.addr (by rw [rowLen prV_len]; omega)
          have hx : m.procs[i]? = some m.procs[i] := List.getElem?_eq_getElem hlt
          have htk := flat_next (f := prL txt) hx
          have hfl := flat_take_le (f := prL txt) m.procs i
          have hmem := List.getElem_mem hlt
          have hrow := rowPart (f := prV) (sz := 4) prV_len hx
          generalize m.procs[i] = k at *
          have z1 := prL_len txt_size k
          have z2 := hvp k hmem
          have hkp := hs1.pr k hmem
          have hkB := hBp k hmem
          unfold prB at hkB
          simp only [Bool.and_eq_true, List.all_eq_true] at hkB
          have z3 := sum_len (l := k.rules) (g := ruK) fun x => by unfold ruK; omega
          have hvr : ∀ a ∈ k.rules, ruK a ≤ 2000000 := fun v hv => by have := sum_mem (g := ruK) hv; unfold prK at z2; omega
          have z4 : (k.rules.flatMap (fun r => bL (ruT txt r))).length ≤ 22 * (k.rules.map ruK).sum := flat_len fun r _ => by rw [bL_len]; exact ruT_size txt_size r
          unfold prK at z2
          generalize hY : X2 ++ (m.procs.take i).flatMap (prL txt) = Y at *
          have hYl : Y.length ≤ 100000000 := by
            rw [← hY, List.length_append]; unfold prK at *; omega
          rw [ho] at hok ⊢
          refine Ix_in i rfl hlt ?_
          refine LdN_src hok (vs := [.string k.name, .slice k.a k.rules.length k.c, .int .i64 k.line, .int .i64 k.col]) hrow rfl ?_
          clear hok
          (repeat first | refine goN ?_ | ((try conv => whnf); first | (refine Ar_gate ?_; first | (fail_if_success skip) | refine xA ?_) | (first | refine Do_str_eq ?_ | refine Do_str_ne ?_ | refine DoN_len tok rfl ?_ | refine Eqv_in ?_)) | ((try conv => whnf); (first | (refine St_gate ?_; refine xS ?_) | (refine StN_gate ?_; refine xN ?_)); clear H; intro w H))
          (refine Nw_sep H ?_; clear H; intro kb w H; (try simp only [Value.cells, List.toList_toArray, List.append_nil, List.cons_append, List.nil_append] at H))
          (repeat first | refine goN ?_ | ((try conv => whnf); first | (refine Ar_gate ?_; first | (fail_if_success skip) | refine xA ?_) | (first | refine Do_str_eq ?_ | refine Do_str_ne ?_ | refine DoN_len tok rfl ?_ | refine Eqv_in ?_)) | ((try conv => whnf); (first | (refine St_gate ?_; refine xS ?_) | (refine StN_gate ?_; refine xN ?_)); clear H; intro w H))
          refine Do_sadd ?_ (by simp only [ByteArray.size_append, byteSize, str_size, List.size_toArray, List.length_cons, List.length_nil]; omega)
          (repeat first | refine goN ?_ | ((try conv => whnf); first | (refine Ar_gate ?_; first | (fail_if_success skip) | refine xA ?_) | (first | refine Do_str_eq ?_ | refine Do_str_ne ?_ | refine DoN_len tok rfl ?_ | refine Eqv_in ?_)) | ((try conv => whnf); (first | (refine St_gate ?_; refine xS ?_) | (refine StN_gate ?_; refine xN ?_)); clear H; intro w H))
          refine Do_sadd ?_ (by simp only [ByteArray.size_append, byteSize, str_size, List.size_toArray, List.length_cons, List.length_nil]; omega)
          (repeat first | refine goN ?_ | ((try conv => whnf); first | (refine Ar_gate ?_; first | (fail_if_success skip) | refine xA ?_) | (first | refine Do_str_eq ?_ | refine Do_str_ne ?_ | refine DoN_len tok rfl ?_ | refine Eqv_in ?_)) | ((try conv => whnf); (first | (refine St_gate ?_; refine xS ?_) | (refine StN_gate ?_; refine xN ?_)); clear H; intro w H))
          replace H := H.tp 1
          refine Call_of (bW2 H (by decide) (by decide) (by simp only [ByteArray.size_append, byteSize, str_size, List.size_toArray, List.length_cons, List.length_nil]; omega)) ?_
          clear H
          rintro _ w ⟨rfl, H⟩
          (repeat first | refine goN ?_ | ((try conv => whnf); first | (refine Ar_gate ?_; first | (fail_if_success skip) | refine xA ?_) | (first | refine Do_str_eq ?_ | refine Do_str_ne ?_ | refine DoN_len tok rfl ?_ | refine Eqv_in ?_)) | ((try conv => whnf); (first | (refine St_gate ?_; refine xS ?_) | (refine StN_gate ?_; refine xN ?_)); clear H; intro w H))
          have hPl : (bL (prH k)).length = 11 + k.name.size := by rw [bL_len]; unfold prH; simp only [ByteArray.size_append, str_size, List.length_cons, List.length_nil]; omega
          replace H : Sep w1 w [bldR w1.heap.size bb (Y ++ bL (prH k)), cellsR kb 59 (prV k), cellsR xb 26 (soV m)] := H
          refine Loop_intro (fun j : Nat => [(60, .int .i64 (j : Int))]) (fun j w => j ≤ k.rules.length ∧ Sep w1 w [bldR w1.heap.size bb (Y ++ bL (prH k) ++ (k.rules.take j).flatMap fun r => bL (ruT txt r)), cellsR kb 59 (prV k), cellsR xb 26 (soV m)]) (fun j => k.rules.length - j)
            0 ⟨rfl, trivial⟩ ⟨Nat.zero_le _, by simpa using H⟩ ?_
          clear H
          rintro j w ⟨hj, H⟩
          refine Br_dec (fun k2 => ?_) (fun k2 => ?_)
          · have hlt2 : j < k.rules.length := by omega
            have hok2 := H.rd hkp.1
            obtain ⟨b2, o2, ho2⟩ := hok2.addr (by rw [rowLen ruV_len]; omega)
            have hx2 : k.rules[j]? = some k.rules[j] := List.getElem?_eq_getElem hlt2
            have htk2 := flat_next (f := fun r => bL (ruT txt r)) hx2
            have hfl2 := flat_take_le (f := fun r => bL (ruT txt r)) k.rules j
            have hmem2 := List.getElem_mem hlt2
            have hrow2 := rowPart (f := ruV) (sz := 7) ruV_len hx2
            generalize k.rules[j] = q at *
            have y1 := ruT_size txt_size q
            have y2 := hvr q hmem2
            rw [ho2] at hok2 ⊢
            refine Ix_in j rfl hlt2 ?_
            refine LdN_src hok2 (vs := [.int .i64 q.when_.op, .int .i64 q.when_.num, .string q.when_.name, .slice q.when_.at_ q.when_.kids.length q.when_.cap, .int .i64 q.when_.line, .int .i64 q.when_.col, .slice q.a q.acts.length q.c]) hrow2 rfl ?_
            clear hok2
            (repeat first | refine goN ?_ | ((try conv => whnf); first | (refine Ar_gate ?_; first | (fail_if_success skip) | refine xA ?_) | (first | refine Do_str_eq ?_ | refine Do_str_ne ?_ | refine DoN_len tok rfl ?_ | refine Eqv_in ?_)) | ((try conv => whnf); (first | (refine St_gate ?_; refine xS ?_) | (refine StN_gate ?_; refine xN ?_)); clear H; intro w H))
            (refine Nw_sep H ?_; clear H; intro qb w H; (try simp only [Value.cells, List.toList_toArray, List.append_nil, List.cons_append, List.nil_append] at H))
            (repeat first | refine goN ?_ | ((try conv => whnf); first | (refine Ar_gate ?_; first | (fail_if_success skip) | refine xA ?_) | (first | refine Do_str_eq ?_ | refine Do_str_ne ?_ | refine DoN_len tok rfl ?_ | refine Eqv_in ?_)) | ((try conv => whnf); (first | (refine St_gate ?_; refine xS ?_) | (refine StN_gate ?_; refine xN ?_)); clear H; intro w H))
            refine Call_of (tRuleText q H hp1 (hkp.2 q hmem2) y2 (hkB.2 q hmem2)) ?_
            clear H
            rintro _ w ⟨rfl, H⟩
            replace H := H.tail
            (repeat first | refine goN ?_ | ((try conv => whnf); first | (refine Ar_gate ?_; first | (fail_if_success skip) | refine xA ?_) | (first | refine Do_str_eq ?_ | refine Do_str_ne ?_ | refine DoN_len tok rfl ?_ | refine Eqv_in ?_)) | ((try conv => whnf); (first | (refine St_gate ?_; refine xS ?_) | (refine StN_gate ?_; refine xN ?_)); clear H; intro w H))
            refine Call_of (bW2 H (by decide) (by decide) (by rw [List.length_append, List.length_append]; omega)) ?_
            clear H
            rintro _ w ⟨rfl, H⟩
            (repeat first | refine goN ?_ | ((try conv => whnf); first | (refine Ar_gate ?_; first | (fail_if_success skip) | refine xA ?_) | (first | refine Do_str_eq ?_ | refine Do_str_ne ?_ | refine DoN_len tok rfl ?_ | refine Eqv_in ?_)) | ((try conv => whnf); (first | (refine St_gate ?_; refine xS ?_) | (refine StN_gate ?_; refine xN ?_)); clear H; intro w H))
            refine ⟨j + 1, ⟨congrArg some (vint (by omega)), trivial⟩, ⟨by omega, ?_⟩, by omega⟩
            rw [htk2, ← List.append_assoc]
            exact H
          · obtain rfl : j = k.rules.length := by omega
            rw [List.take_length] at H
            (repeat first | refine goN ?_ | ((try conv => whnf); first | (refine Ar_gate ?_; first | (fail_if_success skip) | refine xA ?_) | (first | refine Do_str_eq ?_ | refine Do_str_ne ?_ | refine DoN_len tok rfl ?_ | refine Eqv_in ?_)) | ((try conv => whnf); (first | (refine St_gate ?_; refine xS ?_) | (refine StN_gate ?_; refine xN ?_)); clear H; intro w H))
            refine Call_of (bW2 H (by decide) (by decide) (by rw [List.length_append, List.length_append]; show _ + 2 ≤ _; omega)) ?_
            clear H
            rintro _ w ⟨rfl, H⟩
            (repeat first | refine goN ?_ | ((try conv => whnf); first | (refine Ar_gate ?_; first | (fail_if_success skip) | refine xA ?_) | (first | refine Do_str_eq ?_ | refine Do_str_ne ?_ | refine DoN_len tok rfl ?_ | refine Eqv_in ?_)) | ((try conv => whnf); (first | (refine St_gate ?_; refine xS ?_) | (refine StN_gate ?_; refine xN ?_)); clear H; intro w H))
            refine ⟨i + 1, ⟨congrArg some (vint (by omega)), trivial⟩, ⟨by omega, ?_⟩, by omega⟩
            rw [htk, ← List.append_assoc, hY]
            have e : Y ++ bL (prH k) ++ (k.rules.flatMap fun r => bL (ruT txt r)) ++ bL ⟨#[125, 10]⟩ = Y ++ prL txt k := by
              unfold prL
              rw [List.append_assoc, List.append_assoc, List.append_assoc]
              rfl
            rw [e] at H
            exact H.drop 1 rfl rfl
        · obtain rfl : i = m.procs.length := by omega
          rw [List.take_length] at H
          (repeat first | refine goN ?_ | ((try conv => whnf); first | (refine Ar_gate ?_; first | (fail_if_success skip) | refine xA ?_) | (first | refine Do_str_eq ?_ | refine Do_str_ne ?_ | refine DoN_len tok rfl ?_ | refine Eqv_in ?_)) | ((try conv => whnf); (first | (refine St_gate ?_; refine xS ?_) | (refine StN_gate ?_; refine xN ?_)); clear H; intro w H))
          refine Call_of (bString H) ?_
          clear H
          rintro _ w ⟨rfl, H⟩
          (repeat first | refine goN ?_ | ((try conv => whnf); first | (refine Ar_gate ?_; first | (fail_if_success skip) | refine xA ?_) | (first | refine Do_str_eq ?_ | refine Do_str_ne ?_ | refine DoN_len tok rfl ?_ | refine Eqv_in ?_)) | ((try conv => whnf); (first | (refine St_gate ?_; refine xS ?_) | (refine StN_gate ?_; refine xN ?_)); clear H; intro w H))
          exact Ret_in ⟨by rw [hX0]; rfl, H⟩
end
end Go.Proofs.YthpekiohalejmaaGreatDoor
