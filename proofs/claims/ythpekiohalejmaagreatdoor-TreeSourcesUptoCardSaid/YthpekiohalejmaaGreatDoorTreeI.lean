/- The document's answer: a model's text; the law on sources. -/
import Derived.Test.YthpekiohalejmaaGreatDoorTreeE
set_option linter.unusedVariables false
set_option linter.unusedSimpArgs false
namespace Go.Tree
def mkS (X : List UInt8) : ByteArray := ⟨X.toArray⟩
theorem mkS_size (X : List UInt8) : (mkS X).size = X.length := by simp [mkS, ByteArray.size]
theorem mkS_add (X : List UInt8) (s : ByteArray) : mkS X ++ s = mkS (X ++ bL s) := by
  apply ByteArray.ext
  simp [mkS, bL]
theorem mkS_flat {α : Type} {f : α → ByteArray} {l : List α} {x : α} {i : Nat} (X : List UInt8) (htk : l.take (i + 1) = l.take i ++ [x]) : mkS (X ++ (l.take (i + 1)).flatMap fun a => bL (f a)) = mkS (X ++ (l.take i).flatMap fun a => bL (f a)) ++ f x := by
  rw [mkS_add, htk, List.flatMap_append]
  simp
theorem mkS_next {α β : Type} {f : α → List UInt8} {g : β → List UInt8} (X : List UInt8) (l : List α) (m : List β) : mkS (X ++ (l.take l.length).flatMap f) = mkS (X ++ l.flatMap f ++ (m.take 0).flatMap g) := by
  rw [List.take_length, List.take_zero]; simp
theorem mkS_proc {tx : Ex → ByteArray} {l : List Pr} {x : Pr} {i : Nat} (X : List UInt8) (htk : l.take (i + 1) = l.take i ++ [x]) :
    mkS (X ++ (l.take (i + 1)).flatMap (prL tx)) = mkS (X ++ (l.take i).flatMap (prL tx) ++ bL (prH x) ++ (x.rules.take x.rules.length).flatMap fun r => bL (ruT tx r)) ++ ⟨#[125, 10]⟩ := by
  rw [mkS_add, htk, List.flatMap_append, List.take_length]
  have : bL ⟨#[125, 10]⟩ = [125, 10] := rfl
  rw [this]
  simp [prL]
theorem ret_no3 {b : Bool} {s : ByteArray} (h : b = false) : (Value.tuple #[.string ⟨#[]⟩, .int .i64 141]) = .tuple #[.string (if b then s else str []), .int .i64 (if b then 0 else 141)] := by subst h; rfl
theorem ret_yes3 {b : Bool} {s t : ByteArray} (h : b = true) (hs : s = t) : (Value.tuple #[.string s, .int .i64 0]) = .tuple #[.string (if b then t else str []), .int .i64 (if b then 0 else 141)] := by subst h hs; rfl
end Go.Tree
namespace Go.Proofs.YthpekiohalejmaaGreatDoor
open Go Go.Vc Go.Tree
set_option maxHeartbeats 4000000
set_option maxRecDepth 100000
section
variable {w0 w : World} {l : List Res}
theorem dSource (m : So) (H : Sep w0 w l) (hs : SoOk w0 m) (hb : soK m ≤ 2000000) : Does Tryz.prog 6 #[soA m] w fun v w' => v = .tuple #[.string (if soB m then ⟨(soL txt itoaC m).toArray⟩ else str []), .int .i64 (if soB m then 0 else 141)] ∧ Sep w0 w' l := by
  obtain ⟨⟨l1, l2, l3⟩, c1, c2, c3⟩ := so_b hb
  have hlen := soL_len txt_size itoaC_size m
  have hlen2 : (soL txt itoaC m).length = (m.enums.flatMap fun e => bL (enT e)).length + (m.vars.flatMap fun d => bL (deT txt itoaC d)).length + (m.procs.flatMap (prL txt)).length := by unfold soL; rw [List.length_append, List.length_append]
  have hX1 : (m.enums.flatMap fun e => bL (enT e)).length ≤ 44000000 := by omega
  have hX2 : (m.vars.flatMap fun d => bL (deT txt itoaC d)).length ≤ 44000000 := by omega
  have hT1 : ∀ i, ((m.enums.take i).flatMap fun e => bL (enT e)).length ≤ 44000000 := fun i => Nat.le_trans (flat_take_le (f := fun e => bL (enT e)) _ _) hX1
  have hT2 : ∀ i, ((m.vars.take i).flatMap fun d => bL (deT txt itoaC d)).length ≤ 44000000 := fun i => Nat.le_trans (flat_take_le (f := fun d => bL (deT txt itoaC d)) _ _) hX2
  have hT3 : ∀ i, ((m.procs.take i).flatMap (prL txt)).length ≤ 44000000 := fun i => Nat.le_trans (flat_take_le (f := prL txt) _ _) (by omega)
  clear hlen hlen2
  refine Does_intro tok (Tryz.call6 _ _) Tryz.func6 rfl (by rfl) ?_
  (repeat first | refine goN ?_ | ((try conv => whnf); first | (refine Ar_gate ?_; first | (fail_if_success skip) | refine xA ?_) | (first | refine Do_str_eq ?_ | refine Do_str_ne ?_ | refine DoN_len tok rfl ?_ | refine Eqv_in ?_)) | ((try conv => whnf); (first | (refine St_gate ?_; refine xS ?_) | (refine StN_gate ?_; refine xN ?_)); clear H; intro w H))
  (refine Nw_sep H ?_; clear H; intro xb w H; (try simp only [Value.cells, List.toList_toArray, List.append_nil, List.cons_append, List.nil_append] at H))
  (repeat first | refine goN ?_ | ((try conv => whnf); first | (refine Ar_gate ?_; first | (fail_if_success skip) | refine xA ?_) | (first | refine Do_str_eq ?_ | refine Do_str_ne ?_ | refine DoN_len tok rfl ?_ | refine Eqv_in ?_)) | ((try conv => whnf); (first | (refine St_gate ?_; refine xS ?_) | (refine StN_gate ?_; refine xN ?_)); clear H; intro w H))
  by_cases h1 : m.enums.length ≤ 32
  case neg =>
    (repeat first | refine goN ?_ | ((try conv => whnf); first | (refine Ar_gate ?_; first | (fail_if_success skip) | refine xA ?_) | (first | refine Do_str_eq ?_ | refine Do_str_ne ?_ | refine DoN_len tok rfl ?_ | refine Eqv_in ?_)) | ((try conv => whnf); (first | (refine St_gate ?_; refine xS ?_) | (refine StN_gate ?_; refine xN ?_)); clear H; intro w H))
    exact Ret_in ⟨ret_no3 (by unfold soB manyB; rw [decide_eq_false h1]; simp), H.tail⟩
  by_cases h2 : m.vars.length ≤ 32
  case neg =>
    (repeat first | refine goN ?_ | ((try conv => whnf); first | (refine Ar_gate ?_; first | (fail_if_success skip) | refine xA ?_) | (first | refine Do_str_eq ?_ | refine Do_str_ne ?_ | refine DoN_len tok rfl ?_ | refine Eqv_in ?_)) | ((try conv => whnf); (first | (refine St_gate ?_; refine xS ?_) | (refine StN_gate ?_; refine xN ?_)); clear H; intro w H))
    exact Ret_in ⟨ret_no3 (by unfold soB manyB; rw [decide_eq_false h2]; simp), H.tail⟩
  by_cases h3 : m.procs.length ≤ 32
  case neg =>
    (repeat first | refine goN ?_ | ((try conv => whnf); first | (refine Ar_gate ?_; first | (fail_if_success skip) | refine xA ?_) | (first | refine Do_str_eq ?_ | refine Do_str_ne ?_ | refine DoN_len tok rfl ?_ | refine Eqv_in ?_)) | ((try conv => whnf); (first | (refine St_gate ?_; refine xS ?_) | (refine StN_gate ?_; refine xN ?_)); clear H; intro w H))
    exact Ret_in ⟨ret_no3 (by unfold soB manyB; rw [decide_eq_false h3]; simp), H.tail⟩
  (repeat first | refine goN ?_ | ((try conv => whnf); first | (refine Ar_gate ?_; first | (fail_if_success skip) | refine xA ?_) | (first | refine Do_str_eq ?_ | refine Do_str_ne ?_ | refine DoN_len tok rfl ?_ | refine Eqv_in ?_)) | ((try conv => whnf); (first | (refine St_gate ?_; refine xS ?_) | (refine StN_gate ?_; refine xN ?_)); clear H; intro w H))
  refine Loop_intro (fun i : Nat => [(38, .int .i64 (i : Int)), (4, .string (mkS ([] ++ (m.enums.take i).flatMap fun e => bL (enT e))))]) (fun i w => (i ≤ m.enums.length ∧ (m.enums.take i).all enB = true) ∧ Sep w0 w (cellsR xb 26 (soV m) :: l)) (fun i => m.enums.length - i)
    0 ⟨rfl, congrArg some (congrArg Value.string (rfl)), trivial⟩ ⟨⟨Nat.zero_le _, rfl⟩, H⟩ ?_
  clear H
  rintro i w ⟨⟨hi, hall⟩, H⟩
  refine Br_dec (fun k1 => ?_) (fun k1 => ?_)
  · have k3 : (i : Int) < (m.enums.length : Nat) := k1
    have hlt : i < m.enums.length := by omega
    refine Exists.elim (⟨_, List.getElem?_eq_getElem hlt⟩ : ∃ u, m.enums[i]? = some u) fun k hx => ?_
    have htk : m.enums.take (i + 1) = m.enums.take i ++ [k] := by rw [List.take_add_one, hx]; rfl
    have hmem := List.mem_of_getElem? hx
    have hok := H.rd hs.es
    have hrow := rowPart (f := enV) (sz := 4) enV_len hx
    refine Exists.elim (hok.addr (by rw [rowLen enV_len]; omega)) fun b hb1 => Exists.elim hb1 fun o ho => ?_
    have z1 := enT_size k
    have z2 := c1 k hmem
    have z3 := hT1 i
    have ho2 : Src w (some ⟨b, o, none⟩) m.enums.length 4 (m.enums.flatMap enV) := by rw [← ho]; exact hok
    rw [ho]
    (repeat first | refine goN ?_ | ((try conv => whnf); first | (refine Ar_gate ?_; first | (fail_if_success skip) | refine xA ?_) | (first | refine Do_str_eq ?_ | refine Do_str_ne ?_ | refine DoN_len tok rfl ?_ | refine Eqv_in ?_)) | ((try conv => whnf); (first | (refine St_gate ?_; refine xS ?_) | (refine StN_gate ?_; refine xN ?_)); clear H; intro w H))
    refine Ix_in i rfl hlt ?_
    refine LdN_src ho2 (vs := [.string k.name, .slice k.a k.vals.length k.c, .int .i64 k.line, .int .i64 k.col]) hrow rfl ?_
    clear ho2 hok
    (repeat first | refine goN ?_ | ((try conv => whnf); first | (refine Ar_gate ?_; first | (fail_if_success skip) | refine xA ?_) | (first | refine Do_str_eq ?_ | refine Do_str_ne ?_ | refine DoN_len tok rfl ?_ | refine Eqv_in ?_)) | ((try conv => whnf); (first | (refine St_gate ?_; refine xS ?_) | (refine StN_gate ?_; refine xN ?_)); clear H; intro w H))
    (refine Nw_sep H ?_; clear H; intro kb w H; (try simp only [Value.cells, List.toList_toArray, List.append_nil, List.cons_append, List.nil_append] at H))
    (repeat first | refine goN ?_ | ((try conv => whnf); first | (refine Ar_gate ?_; first | (fail_if_success skip) | refine xA ?_) | (first | refine Do_str_eq ?_ | refine Do_str_ne ?_ | refine DoN_len tok rfl ?_ | refine Eqv_in ?_)) | ((try conv => whnf); (first | (refine St_gate ?_; refine xS ?_) | (refine StN_gate ?_; refine xN ?_)); clear H; intro w H))
    refine Call_of (dEnum k H (hs.en k hmem) z2) ?_
    clear H
    intro rv w hR
    have H := hR.2
    have hrv := hR.1
    clear hR
    by_cases g1 : enB k = true
    case neg =>
      have g1 : enB k = false := by simpa using g1
      rw [g1] at hrv
      subst hrv
      (repeat first | refine goN ?_ | ((try conv => whnf); first | (refine Ar_gate ?_; first | (fail_if_success skip) | refine xA ?_) | (first | refine Do_str_eq ?_ | refine Do_str_ne ?_ | refine DoN_len tok rfl ?_ | refine Eqv_in ?_)) | ((try conv => whnf); (first | (refine St_gate ?_; refine xS ?_) | (refine StN_gate ?_; refine xN ?_)); clear H; intro w H))
      exact Ret_in ⟨ret_no3 (by unfold soB; rw [all_no hmem g1, Bool.and_false]; rfl), H.tail.tail⟩
    rw [g1, if_pos rfl] at hrv
    subst hrv
    (repeat first | refine goN ?_ | ((try conv => whnf); first | (refine Ar_gate ?_; first | (fail_if_success skip) | refine xA ?_) | (first | refine Do_str_eq ?_ | refine Do_str_ne ?_ | refine DoN_len tok rfl ?_ | refine Eqv_in ?_)) | ((try conv => whnf); (first | (refine St_gate ?_; refine xS ?_) | (refine StN_gate ?_; refine xN ?_)); clear H; intro w H))
    refine Do_sadd ?_ (by (try simp only [mkS_size, List.length_append, ByteArray.size_append, byteSize, bL_len, str_size, List.size_toArray, List.length_cons, List.length_nil]); omega)
    (repeat first | refine goN ?_ | ((try conv => whnf); first | (refine Ar_gate ?_; first | (fail_if_success skip) | refine xA ?_) | (first | refine Do_str_eq ?_ | refine Do_str_ne ?_ | refine DoN_len tok rfl ?_ | refine Eqv_in ?_)) | ((try conv => whnf); (first | (refine St_gate ?_; refine xS ?_) | (refine StN_gate ?_; refine xN ?_)); clear H; intro w H))
    exact ⟨i + 1, ⟨congrArg some (vint (by omega)), congrArg some (congrArg Value.string (mkS_flat (f := enT) [] htk).symm), trivial⟩, ⟨⟨by omega, all_up htk hall g1⟩, H.tail⟩, by omega⟩
  · have k3 : ¬ (i : Int) < (m.enums.length : Nat) := k1
    have hie : i = m.enums.length := by omega
    subst hie
    have hA1 := all_end hall
    have z3 := hT1 m.enums.length
    clear hall hi k1
    (repeat first | refine goN ?_ | ((try conv => whnf); first | (refine Ar_gate ?_; first | (fail_if_success skip) | refine xA ?_) | (first | refine Do_str_eq ?_ | refine Do_str_ne ?_ | refine DoN_len tok rfl ?_ | refine Eqv_in ?_)) | ((try conv => whnf); (first | (refine St_gate ?_; refine xS ?_) | (refine StN_gate ?_; refine xN ?_)); clear H; intro w H))
    refine Loop_intro (fun i : Nat => [(56, .int .i64 (i : Int)), (4, .string (mkS ([] ++ m.enums.flatMap (fun e => bL (enT e)) ++ (m.vars.take i).flatMap fun d => bL (deT txt itoaC d))))]) (fun i w => (i ≤ m.vars.length ∧ (m.vars.take i).all deB = true) ∧ Sep w0 w (cellsR xb 26 (soV m) :: l)) (fun i => m.vars.length - i)
      0 ⟨rfl, congrArg some (congrArg Value.string (mkS_next _ _ _)), trivial⟩ ⟨⟨Nat.zero_le _, rfl⟩, H⟩ ?_
    clear H
    rintro i w ⟨⟨hi, hall⟩, H⟩
    refine Br_dec (fun k1 => ?_) (fun k1 => ?_)
    · have k3 : (i : Int) < (m.vars.length : Nat) := k1
      have hlt : i < m.vars.length := by omega
      refine Exists.elim (⟨_, List.getElem?_eq_getElem hlt⟩ : ∃ u, m.vars[i]? = some u) fun k hx => ?_
      have htk : m.vars.take (i + 1) = m.vars.take i ++ [k] := by rw [List.take_add_one, hx]; rfl
      have hmem := List.mem_of_getElem? hx
      have hok := H.rd hs.vs
      have hrow := rowPart (f := deV) (sz := 7) deV_len hx
      refine Exists.elim (hok.addr (by rw [rowLen deV_len]; omega)) fun b hb1 => Exists.elim hb1 fun o ho => ?_
      have z1 := deT_size txt_size itoaC_size k
      have z2 := c2 k hmem
      have z3 := hT2 i
      have ho2 : Src w (some ⟨b, o, none⟩) m.vars.length 7 (m.vars.flatMap deV) := by rw [← ho]; exact hok
      rw [ho]
      (repeat first | refine goN ?_ | ((try conv => whnf); first | (refine Ar_gate ?_; first | (fail_if_success skip) | refine xA ?_) | (first | refine Do_str_eq ?_ | refine Do_str_ne ?_ | refine DoN_len tok rfl ?_ | refine Eqv_in ?_)) | ((try conv => whnf); (first | (refine St_gate ?_; refine xS ?_) | (refine StN_gate ?_; refine xN ?_)); clear H; intro w H))
      refine Ix_in i rfl hlt ?_
      refine LdN_src ho2 (vs := [.string k.name, .string k.typ, .int .i64 k.lo, .int .i64 k.hi, .slice k.a k.begins.length k.c, .int .i64 k.line, .int .i64 k.col]) hrow rfl ?_
      clear ho2 hok
      (repeat first | refine goN ?_ | ((try conv => whnf); first | (refine Ar_gate ?_; first | (fail_if_success skip) | refine xA ?_) | (first | refine Do_str_eq ?_ | refine Do_str_ne ?_ | refine DoN_len tok rfl ?_ | refine Eqv_in ?_)) | ((try conv => whnf); (first | (refine St_gate ?_; refine xS ?_) | (refine StN_gate ?_; refine xN ?_)); clear H; intro w H))
      (refine Nw_sep H ?_; clear H; intro kb w H; (try simp only [Value.cells, List.toList_toArray, List.append_nil, List.cons_append, List.nil_append] at H))
      (repeat first | refine goN ?_ | ((try conv => whnf); first | (refine Ar_gate ?_; first | (fail_if_success skip) | refine xA ?_) | (first | refine Do_str_eq ?_ | refine Do_str_ne ?_ | refine DoN_len tok rfl ?_ | refine Eqv_in ?_)) | ((try conv => whnf); (first | (refine St_gate ?_; refine xS ?_) | (refine StN_gate ?_; refine xN ?_)); clear H; intro w H))
      refine Call_of (dDecl k H (hs.de k hmem) z2) ?_
      clear H
      intro rv w hR
      have H := hR.2
      have hrv := hR.1
      clear hR
      by_cases g1 : deB k = true
      case neg =>
        have g1 : deB k = false := by simpa using g1
        rw [g1] at hrv
        subst hrv
        (repeat first | refine goN ?_ | ((try conv => whnf); first | (refine Ar_gate ?_; first | (fail_if_success skip) | refine xA ?_) | (first | refine Do_str_eq ?_ | refine Do_str_ne ?_ | refine DoN_len tok rfl ?_ | refine Eqv_in ?_)) | ((try conv => whnf); (first | (refine St_gate ?_; refine xS ?_) | (refine StN_gate ?_; refine xN ?_)); clear H; intro w H))
        exact Ret_in ⟨ret_no3 (by unfold soB; rw [all_no hmem g1, Bool.and_false]; rfl), H.tail.tail⟩
      rw [g1, if_pos rfl] at hrv
      subst hrv
      (repeat first | refine goN ?_ | ((try conv => whnf); first | (refine Ar_gate ?_; first | (fail_if_success skip) | refine xA ?_) | (first | refine Do_str_eq ?_ | refine Do_str_ne ?_ | refine DoN_len tok rfl ?_ | refine Eqv_in ?_)) | ((try conv => whnf); (first | (refine St_gate ?_; refine xS ?_) | (refine StN_gate ?_; refine xN ?_)); clear H; intro w H))
      refine Do_sadd ?_ (by (try simp only [mkS_size, List.length_append, ByteArray.size_append, byteSize, bL_len, str_size, List.size_toArray, List.length_cons, List.length_nil]); omega)
      (repeat first | refine goN ?_ | ((try conv => whnf); first | (refine Ar_gate ?_; first | (fail_if_success skip) | refine xA ?_) | (first | refine Do_str_eq ?_ | refine Do_str_ne ?_ | refine DoN_len tok rfl ?_ | refine Eqv_in ?_)) | ((try conv => whnf); (first | (refine St_gate ?_; refine xS ?_) | (refine StN_gate ?_; refine xN ?_)); clear H; intro w H))
      exact ⟨i + 1, ⟨congrArg some (vint (by omega)), congrArg some (congrArg Value.string (mkS_flat (f := deT txt itoaC) _ htk).symm), trivial⟩, ⟨⟨by omega, all_up htk hall g1⟩, H.tail⟩, by omega⟩
    · have k3 : ¬ (i : Int) < (m.vars.length : Nat) := k1
      have hie : i = m.vars.length := by omega
      subst hie
      have hA2 := all_end hall
      have z3 := hT2 m.vars.length
      clear hall hi k1
      (repeat first | refine goN ?_ | ((try conv => whnf); first | (refine Ar_gate ?_; first | (fail_if_success skip) | refine xA ?_) | (first | refine Do_str_eq ?_ | refine Do_str_ne ?_ | refine DoN_len tok rfl ?_ | refine Eqv_in ?_)) | ((try conv => whnf); (first | (refine St_gate ?_; refine xS ?_) | (refine StN_gate ?_; refine xN ?_)); clear H; intro w H))
      refine Loop_intro (fun i : Nat => [(74, .int .i64 (i : Int)), (4, .string (mkS ([] ++ m.enums.flatMap (fun e => bL (enT e)) ++ m.vars.flatMap (fun d => bL (deT txt itoaC d)) ++ (m.procs.take i).flatMap (prL txt))))]) (fun i w => (i ≤ m.procs.length ∧ (m.procs.take i).all prB = true) ∧ Sep w0 w (cellsR xb 26 (soV m) :: l)) (fun i => m.procs.length - i)
        0 ⟨rfl, congrArg some (congrArg Value.string (mkS_next _ _ _)), trivial⟩ ⟨⟨Nat.zero_le _, rfl⟩, H⟩ ?_
      clear H
      rintro i w ⟨⟨hi, hall⟩, H⟩
      refine Br_dec (fun k1 => ?_) (fun k1 => ?_)
      · have k3 : (i : Int) < (m.procs.length : Nat) := k1
        have hlt : i < m.procs.length := by omega
        refine Exists.elim (⟨_, List.getElem?_eq_getElem hlt⟩ : ∃ u, m.procs[i]? = some u) fun k hx => ?_
        have htk : m.procs.take (i + 1) = m.procs.take i ++ [k] := by rw [List.take_add_one, hx]; rfl
        have hmem := List.mem_of_getElem? hx
        have hok := H.rd hs.ps
        have hrow := rowPart (f := prV) (sz := 4) prV_len hx
        refine Exists.elim (hok.addr (by rw [rowLen prV_len]; omega)) fun b hb1 => Exists.elim hb1 fun o ho => ?_
        have hkp := hs.pr k hmem
        have u1 := hkp.1
        have z2 := c3 k hmem
        have z0 := hT3 i
        have hkn : k.name.size ≤ 2000000 := by unfold prK at z2; omega
        have hkr := pr_ru z2
        have hkl := pr_len z2
        have hR0 : (k.rules.flatMap fun r => bL (ruT txt r)).length ≤ 22 * (k.rules.map ruK).sum := flat_len fun r _ => by rw [bL_len]; exact ruT_size txt_size r
        have hR1 : ∀ j, ((k.rules.take j).flatMap fun r => bL (ruT txt r)).length ≤ 44000000 := fun j => Nat.le_trans (flat_take_le (f := fun r => bL (ruT txt r)) _ _) (by unfold prK at z2; omega)
        have hzp : (prH k).size ≤ 2000011 := by unfold prH; simp only [ByteArray.size_append, str_size, List.length_cons, List.length_nil]; omega
        clear hR0
        have ho2 : Src w (some ⟨b, o, none⟩) m.procs.length 4 (m.procs.flatMap prV) := by rw [← ho]; exact hok
        rw [ho]
        (repeat first | refine goN ?_ | ((try conv => whnf); first | (refine Ar_gate ?_; first | (fail_if_success skip) | refine xA ?_) | (first | refine Do_str_eq ?_ | refine Do_str_ne ?_ | refine DoN_len tok rfl ?_ | refine Eqv_in ?_)) | ((try conv => whnf); (first | (refine St_gate ?_; refine xS ?_) | (refine StN_gate ?_; refine xN ?_)); clear H; intro w H))
        refine Ix_in i rfl hlt ?_
        refine LdN_src ho2 (vs := [.string k.name, .slice k.a k.rules.length k.c, .int .i64 k.line, .int .i64 k.col]) hrow rfl ?_
        clear ho2 hok
        (repeat first | refine goN ?_ | ((try conv => whnf); first | (refine Ar_gate ?_; first | (fail_if_success skip) | refine xA ?_) | (first | refine Do_str_eq ?_ | refine Do_str_ne ?_ | refine DoN_len tok rfl ?_ | refine Eqv_in ?_)) | ((try conv => whnf); (first | (refine St_gate ?_; refine xS ?_) | (refine StN_gate ?_; refine xN ?_)); clear H; intro w H))
        (refine Nw_sep H ?_; clear H; intro kb w H; (try simp only [Value.cells, List.toList_toArray, List.append_nil, List.cons_append, List.nil_append] at H))
        (repeat first | refine goN ?_ | ((try conv => whnf); first | (refine Ar_gate ?_; first | (fail_if_success skip) | refine xA ?_) | (first | refine Do_str_eq ?_ | refine Do_str_ne ?_ | refine DoN_len tok rfl ?_ | refine Eqv_in ?_)) | ((try conv => whnf); (first | (refine St_gate ?_; refine xS ?_) | (refine StN_gate ?_; refine xN ?_)); clear H; intro w H))
        refine Call_of (dName k.name hkn H) ?_
        clear H
        intro rv w hR
        have H := hR.2
        have hrv := hR.1
        clear hR
        by_cases g1 : nameB k.name = true
        case neg =>
          have g1 : nameB k.name = false := by simpa using g1
          rw [g1] at hrv
          subst hrv
          (repeat first | refine goN ?_ | ((try conv => whnf); first | (refine Ar_gate ?_; first | (fail_if_success skip) | refine xA ?_) | (first | refine Do_str_eq ?_ | refine Do_str_ne ?_ | refine DoN_len tok rfl ?_ | refine Eqv_in ?_)) | ((try conv => whnf); (first | (refine St_gate ?_; refine xS ?_) | (refine StN_gate ?_; refine xN ?_)); clear H; intro w H))
          exact Ret_in ⟨ret_no3 (by unfold soB; rw [all_no hmem (show prB k = false by unfold prB; rw [g1]; rfl), Bool.and_false]), H.tail.tail⟩
        rw [g1] at hrv
        subst hrv
        by_cases g2 : k.rules.length ≤ 32
        case neg =>
          (repeat first | refine goN ?_ | ((try conv => whnf); first | (refine Ar_gate ?_; first | (fail_if_success skip) | refine xA ?_) | (first | refine Do_str_eq ?_ | refine Do_str_ne ?_ | refine DoN_len tok rfl ?_ | refine Eqv_in ?_)) | ((try conv => whnf); (first | (refine St_gate ?_; refine xS ?_) | (refine StN_gate ?_; refine xN ?_)); clear H; intro w H))
          exact Ret_in ⟨ret_no3 (by unfold soB; rw [all_no hmem (show prB k = false by unfold prB manyB; rw [decide_eq_false g2]; simp), Bool.and_false]), H.tail.tail⟩
        (repeat first | refine goN ?_ | ((try conv => whnf); first | (refine Ar_gate ?_; first | (fail_if_success skip) | refine xA ?_) | (first | refine Do_str_eq ?_ | refine Do_str_ne ?_ | refine DoN_len tok rfl ?_ | refine Eqv_in ?_)) | ((try conv => whnf); (first | (refine St_gate ?_; refine xS ?_) | (refine StN_gate ?_; refine xN ?_)); clear H; intro w H))
        refine Do_sadd ?_ (by (try simp only [mkS_size, List.length_append, ByteArray.size_append, byteSize, bL_len, str_size, List.size_toArray, List.length_cons, List.length_nil]); omega)
        (repeat first | refine goN ?_ | ((try conv => whnf); first | (refine Ar_gate ?_; first | (fail_if_success skip) | refine xA ?_) | (first | refine Do_str_eq ?_ | refine Do_str_ne ?_ | refine DoN_len tok rfl ?_ | refine Eqv_in ?_)) | ((try conv => whnf); (first | (refine St_gate ?_; refine xS ?_) | (refine StN_gate ?_; refine xN ?_)); clear H; intro w H))
        refine Do_sadd ?_ (by (try simp only [mkS_size, List.length_append, ByteArray.size_append, byteSize, bL_len, str_size, List.size_toArray, List.length_cons, List.length_nil]); omega)
        (repeat first | refine goN ?_ | ((try conv => whnf); first | (refine Ar_gate ?_; first | (fail_if_success skip) | refine xA ?_) | (first | refine Do_str_eq ?_ | refine Do_str_ne ?_ | refine DoN_len tok rfl ?_ | refine Eqv_in ?_)) | ((try conv => whnf); (first | (refine St_gate ?_; refine xS ?_) | (refine StN_gate ?_; refine xN ?_)); clear H; intro w H))
        refine Do_sadd ?_ (by (try simp only [mkS_size, List.length_append, ByteArray.size_append, byteSize, bL_len, str_size, List.size_toArray, List.length_cons, List.length_nil]); omega)
        (repeat first | refine goN ?_ | ((try conv => whnf); first | (refine Ar_gate ?_; first | (fail_if_success skip) | refine xA ?_) | (first | refine Do_str_eq ?_ | refine Do_str_ne ?_ | refine DoN_len tok rfl ?_ | refine Eqv_in ?_)) | ((try conv => whnf); (first | (refine St_gate ?_; refine xS ?_) | (refine StN_gate ?_; refine xN ?_)); clear H; intro w H))
        refine Loop_intro (fun j : Nat => [(97, .int .i64 (j : Int)), (4, .string (mkS ([] ++ m.enums.flatMap (fun e => bL (enT e)) ++ m.vars.flatMap (fun d => bL (deT txt itoaC d)) ++ (m.procs.take i).flatMap (prL txt) ++ bL (prH k) ++ (k.rules.take j).flatMap fun r => bL (ruT txt r))))]) (fun j w => (j ≤ k.rules.length ∧ (k.rules.take j).all ruB = true) ∧ Sep w0 w (cellsR kb 59 (prV k) :: cellsR xb 26 (soV m) :: l)) (fun j => k.rules.length - j)
          0 ⟨rfl, congrArg some (congrArg Value.string (Eq.trans (mkS_add _ (prH k)) (by rw [List.take_zero]; simp))), trivial⟩ ⟨⟨Nat.zero_le _, rfl⟩, H⟩ ?_
        clear H
        rintro j w ⟨⟨hj, hal⟩, H⟩
        refine Br_dec (fun k2 => ?_) (fun k2 => ?_)
        · have k4 : (j : Int) < (k.rules.length : Nat) := k2
          have hlu : j < k.rules.length := by omega
          refine Exists.elim (⟨_, List.getElem?_eq_getElem hlu⟩ : ∃ u, k.rules[j]? = some u) fun r hy => ?_
          have htl : k.rules.take (j + 1) = k.rules.take j ++ [r] := by rw [List.take_add_one, hy]; rfl
          have hmem2 := List.mem_of_getElem? hy
          have hok2 := H.rd u1
          have hrow2 := rowPart (f := ruV) (sz := 7) ruV_len hy
          refine Exists.elim (hok2.addr (by rw [rowLen ruV_len]; omega)) fun b2 hb2 => Exists.elim hb2 fun o2 hq => ?_
          have z1 := ruT_size txt_size r
          have z2 := hkr r hmem2
          have z3 := hR1 j
          have ho3 : Src w (some ⟨b2, o2, none⟩) k.rules.length 7 (k.rules.flatMap ruV) := by rw [← hq]; exact hok2
          rw [hq]
          (repeat first | refine goN ?_ | ((try conv => whnf); first | (refine Ar_gate ?_; first | (fail_if_success skip) | refine xA ?_) | (first | refine Do_str_eq ?_ | refine Do_str_ne ?_ | refine DoN_len tok rfl ?_ | refine Eqv_in ?_)) | ((try conv => whnf); (first | (refine St_gate ?_; refine xS ?_) | (refine StN_gate ?_; refine xN ?_)); clear H; intro w H))
          refine Ix_in j rfl hlu ?_
          refine LdN_src ho3 (vs := [.int .i64 r.when_.op, .int .i64 r.when_.num, .string r.when_.name, .slice r.when_.at_ r.when_.kids.length r.when_.cap, .int .i64 r.when_.line, .int .i64 r.when_.col, .slice r.a r.acts.length r.c]) hrow2 rfl ?_
          clear ho3 hok2
          (repeat first | refine goN ?_ | ((try conv => whnf); first | (refine Ar_gate ?_; first | (fail_if_success skip) | refine xA ?_) | (first | refine Do_str_eq ?_ | refine Do_str_ne ?_ | refine DoN_len tok rfl ?_ | refine Eqv_in ?_)) | ((try conv => whnf); (first | (refine St_gate ?_; refine xS ?_) | (refine StN_gate ?_; refine xN ?_)); clear H; intro w H))
          (refine Nw_sep H ?_; clear H; intro rb w H; (try simp only [Value.cells, List.toList_toArray, List.append_nil, List.cons_append, List.nil_append] at H))
          (repeat first | refine goN ?_ | ((try conv => whnf); first | (refine Ar_gate ?_; first | (fail_if_success skip) | refine xA ?_) | (first | refine Do_str_eq ?_ | refine Do_str_ne ?_ | refine DoN_len tok rfl ?_ | refine Eqv_in ?_)) | ((try conv => whnf); (first | (refine St_gate ?_; refine xS ?_) | (refine StN_gate ?_; refine xN ?_)); clear H; intro w H))
          refine Call_of (dRule r H (hkp.2 r hmem2) z2) ?_
          clear H
          intro rv w hR
          have H := hR.2
          have hrv := hR.1
          clear hR
          by_cases g1 : ruB r = true
          case neg =>
            have g1 : ruB r = false := by simpa using g1
            rw [g1] at hrv
            subst hrv
            (repeat first | refine goN ?_ | ((try conv => whnf); first | (refine Ar_gate ?_; first | (fail_if_success skip) | refine xA ?_) | (first | refine Do_str_eq ?_ | refine Do_str_ne ?_ | refine DoN_len tok rfl ?_ | refine Eqv_in ?_)) | ((try conv => whnf); (first | (refine St_gate ?_; refine xS ?_) | (refine StN_gate ?_; refine xN ?_)); clear H; intro w H))
            exact Ret_in ⟨ret_no3 (by unfold soB; rw [all_no hmem (show prB k = false by unfold prB; rw [all_no hmem2 g1, Bool.and_false]), Bool.and_false]), H.tail.tail.tail⟩
          rw [g1, if_pos rfl] at hrv
          subst hrv
          (repeat first | refine goN ?_ | ((try conv => whnf); first | (refine Ar_gate ?_; first | (fail_if_success skip) | refine xA ?_) | (first | refine Do_str_eq ?_ | refine Do_str_ne ?_ | refine DoN_len tok rfl ?_ | refine Eqv_in ?_)) | ((try conv => whnf); (first | (refine St_gate ?_; refine xS ?_) | (refine StN_gate ?_; refine xN ?_)); clear H; intro w H))
          refine Do_sadd ?_ (by (try simp only [mkS_size, List.length_append, ByteArray.size_append, byteSize, bL_len, str_size, List.size_toArray, List.length_cons, List.length_nil]); omega)
          (repeat first | refine goN ?_ | ((try conv => whnf); first | (refine Ar_gate ?_; first | (fail_if_success skip) | refine xA ?_) | (first | refine Do_str_eq ?_ | refine Do_str_ne ?_ | refine DoN_len tok rfl ?_ | refine Eqv_in ?_)) | ((try conv => whnf); (first | (refine St_gate ?_; refine xS ?_) | (refine StN_gate ?_; refine xN ?_)); clear H; intro w H))
          exact ⟨j + 1, ⟨congrArg some (vint (by omega)), congrArg some (congrArg Value.string (mkS_flat (f := ruT txt) _ htl).symm), trivial⟩, ⟨⟨by omega, all_up htl hal g1⟩, H.tail⟩, by omega⟩
        · have k4 : ¬ (j : Int) < (k.rules.length : Nat) := k2
          have hje : j = k.rules.length := by omega
          subst hje
          have g5 : prB k = true := by unfold prB manyB; rw [g1, decide_eq_true g2, all_end hal]; rfl
          have z3 := hR1 k.rules.length
          (repeat first | refine goN ?_ | ((try conv => whnf); first | (refine Ar_gate ?_; first | (fail_if_success skip) | refine xA ?_) | (first | refine Do_str_eq ?_ | refine Do_str_ne ?_ | refine DoN_len tok rfl ?_ | refine Eqv_in ?_)) | ((try conv => whnf); (first | (refine St_gate ?_; refine xS ?_) | (refine StN_gate ?_; refine xN ?_)); clear H; intro w H))
          refine Do_sadd ?_ (by (try simp only [mkS_size, List.length_append, ByteArray.size_append, byteSize, bL_len, str_size, List.size_toArray, List.length_cons, List.length_nil]); omega)
          (repeat first | refine goN ?_ | ((try conv => whnf); first | (refine Ar_gate ?_; first | (fail_if_success skip) | refine xA ?_) | (first | refine Do_str_eq ?_ | refine Do_str_ne ?_ | refine DoN_len tok rfl ?_ | refine Eqv_in ?_)) | ((try conv => whnf); (first | (refine St_gate ?_; refine xS ?_) | (refine StN_gate ?_; refine xN ?_)); clear H; intro w H))
          exact ⟨i + 1, ⟨congrArg some (vint (by omega)), congrArg some (congrArg Value.string (mkS_proc _ htk).symm), trivial⟩, ⟨⟨by omega, all_up htk hall g5⟩, H.tail⟩, by omega⟩
      · have k3 : ¬ (i : Int) < (m.procs.length : Nat) := k1
        have hie : i = m.procs.length := by omega
        subst hie
        have hA3 := all_end hall
        have z3 := hT3 m.procs.length
        clear hall hi k1
        (repeat first | refine goN ?_ | ((try conv => whnf); first | (refine Ar_gate ?_; first | (fail_if_success skip) | refine xA ?_) | (first | refine Do_str_eq ?_ | refine Do_str_ne ?_ | refine DoN_len tok rfl ?_ | refine Eqv_in ?_)) | ((try conv => whnf); (first | (refine St_gate ?_; refine xS ?_) | (refine StN_gate ?_; refine xN ?_)); clear H; intro w H))
        exact Ret_in ⟨ret_yes3 (by unfold soB manyB; rw [decide_eq_true h1, decide_eq_true h2, decide_eq_true h3, hA1, hA2, hA3]; rfl) (by rw [List.take_length]; rfl), H.tail⟩
theorem tSources (m n : So) (H : Sep w0 w l) (hp : Pow w0) (hs : SoOk w0 m) (ht : SoOk w0 n) (hb : soK m ≤ 2000000) (hc : soK n ≤ 2000000) : Does Tryz.prog 3 #[soA m, soA n] w fun v w' => v = .bool true ∧ Sep w0 w' l := by
  obtain ⟨⟨l1, l2, l3⟩, c1, c2, c3⟩ := so_b hb
  refine Does_intro tok (Tryz.call3 _ _) Tryz.func3 rfl (by rfl) ?_
  (repeat first | refine goN ?_ | ((try conv => whnf); first | (refine Ar_gate ?_; first | (fail_if_success skip) | refine xA ?_) | (first | refine Do_str_eq ?_ | refine Do_str_ne ?_ | refine DoN_len tok rfl ?_ | refine Eqv_in ?_)) | ((try conv => whnf); (first | (refine St_gate ?_; refine xS ?_) | (refine StN_gate ?_; refine xN ?_)); clear H; intro w H))
  (refine Nw_sep H ?_; clear H; intro xb w H; (try simp only [Value.cells, List.toList_toArray, List.append_nil, List.cons_append, List.nil_append] at H))
  (repeat first | refine goN ?_ | ((try conv => whnf); first | (refine Ar_gate ?_; first | (fail_if_success skip) | refine xA ?_) | (first | refine Do_str_eq ?_ | refine Do_str_ne ?_ | refine DoN_len tok rfl ?_ | refine Eqv_in ?_)) | ((try conv => whnf); (first | (refine St_gate ?_; refine xS ?_) | (refine StN_gate ?_; refine xN ?_)); clear H; intro w H))
  (refine Nw_sep H ?_; clear H; intro yb w H; (try simp only [Value.cells, List.toList_toArray, List.append_nil, List.cons_append, List.nil_append] at H))
  (repeat first | refine goN ?_ | ((try conv => whnf); first | (refine Ar_gate ?_; first | (fail_if_success skip) | refine xA ?_) | (first | refine Do_str_eq ?_ | refine Do_str_ne ?_ | refine DoN_len tok rfl ?_ | refine Eqv_in ?_)) | ((try conv => whnf); (first | (refine St_gate ?_; refine xS ?_) | (refine StN_gate ?_; refine xN ?_)); clear H; intro w H))
  refine Call_of (tAlive H hp) ?_
  clear H
  rintro _ w ⟨rfl, H⟩
  by_cases h1 : 60 < m.enums.length
  · (repeat first | refine goN ?_ | ((try conv => whnf); first | (refine Ar_gate ?_; first | (fail_if_success skip) | refine xA ?_) | (first | refine Do_str_eq ?_ | refine Do_str_ne ?_ | refine DoN_len tok rfl ?_ | refine Eqv_in ?_)) | ((try conv => whnf); (first | (refine St_gate ?_; refine xS ?_) | (refine StN_gate ?_; refine xN ?_)); clear H; intro w H))
    exact Ret_in ⟨rfl, H.tail.tail⟩
  by_cases h2 : 60 < m.vars.length
  · (repeat first | refine goN ?_ | ((try conv => whnf); first | (refine Ar_gate ?_; first | (fail_if_success skip) | refine xA ?_) | (first | refine Do_str_eq ?_ | refine Do_str_ne ?_ | refine DoN_len tok rfl ?_ | refine Eqv_in ?_)) | ((try conv => whnf); (first | (refine St_gate ?_; refine xS ?_) | (refine StN_gate ?_; refine xN ?_)); clear H; intro w H))
    exact Ret_in ⟨rfl, H.tail.tail⟩
  by_cases h3 : 60 < m.procs.length
  · (repeat first | refine goN ?_ | ((try conv => whnf); first | (refine Ar_gate ?_; first | (fail_if_success skip) | refine xA ?_) | (first | refine Do_str_eq ?_ | refine Do_str_ne ?_ | refine DoN_len tok rfl ?_ | refine Eqv_in ?_)) | ((try conv => whnf); (first | (refine St_gate ?_; refine xS ?_) | (refine StN_gate ?_; refine xN ?_)); clear H; intro w H))
    exact Ret_in ⟨rfl, H.tail.tail⟩
  (repeat first | refine goN ?_ | ((try conv => whnf); first | (refine Ar_gate ?_; first | (fail_if_success skip) | refine xA ?_) | (first | refine Do_str_eq ?_ | refine Do_str_ne ?_ | refine DoN_len tok rfl ?_ | refine Eqv_in ?_)) | ((try conv => whnf); (first | (refine St_gate ?_; refine xS ?_) | (refine StN_gate ?_; refine xN ?_)); clear H; intro w H))
  refine Call_of (tSource m H hp (fun h => hs.rd h) hb) ?_
  clear H
  rintro _ w ⟨rfl, H⟩
  (repeat first | refine goN ?_ | ((try conv => whnf); first | (refine Ar_gate ?_; first | (fail_if_success skip) | refine xA ?_) | (first | refine Do_str_eq ?_ | refine Do_str_ne ?_ | refine DoN_len tok rfl ?_ | refine Eqv_in ?_)) | ((try conv => whnf); (first | (refine St_gate ?_; refine xS ?_) | (refine StN_gate ?_; refine xN ?_)); clear H; intro w H))
  refine Call_of (dSource m H hs hb) ?_
  clear H
  rintro _ w ⟨rfl, H⟩
  generalize (if soB m = true then (⟨(soL txt itoaC m).toArray⟩ : ByteArray) else str []) = s
  generalize (if soB m = true then (0 : Int) else 141) = e
  (repeat first | refine goN ?_ | ((try conv => whnf); first | (refine Ar_gate ?_; first | (fail_if_success skip) | refine xA ?_) | (first | refine Do_str_eq ?_ | refine Do_str_ne ?_ | refine DoN_len tok rfl ?_ | refine Eqv_in ?_)) | ((try conv => whnf); (first | (refine St_gate ?_; refine xS ?_) | (refine StN_gate ?_; refine xN ?_)); clear H; intro w H))
  refine Draw_intro mixed [0, 1, 2, 3, 4, 5, 6, 7, 8, 9, 10, 12, 13, 11, 14, 15, 16, 17] (by decide +kernel) (fun w _ fd => ?_); replace H := H.fr fd; clear fd
  (repeat first | refine goN ?_ | ((try conv => whnf); first | (refine Ar_gate ?_; first | (fail_if_success skip) | refine xA ?_) | (first | refine Do_str_eq ?_ | refine Do_str_ne ?_ | refine DoN_len tok rfl ?_ | refine Eqv_in ?_)) | ((try conv => whnf); (first | (refine St_gate ?_; refine xS ?_) | (refine StN_gate ?_; refine xN ?_)); clear H; intro w H))
  refine DoS_seq (fun J1 hJ1 => ?_)
  rw [show decide (s = s) = true from decide_eq_true rfl]
  (repeat first | refine goN ?_ | ((try conv => whnf); first | (refine Ar_gate ?_; first | (fail_if_success skip) | refine xA ?_) | (first | refine Do_str_eq ?_ | refine Do_str_ne ?_ | refine DoN_len tok rfl ?_ | refine Eqv_in ?_)) | ((try conv => whnf); (first | (refine St_gate ?_; refine xS ?_) | (refine StN_gate ?_; refine xN ?_)); clear H; intro w H))
  refine Call_of (tSameSo m n H hs ht hb hc) ?_
  clear H
  rintro _ w ⟨rfl, H⟩
  (repeat first | refine goN ?_ | ((try conv => whnf); first | (refine Ar_gate ?_; first | (fail_if_success skip) | refine xA ?_) | (first | refine Do_str_eq ?_ | refine Do_str_ne ?_ | refine DoN_len tok rfl ?_ | refine Eqv_in ?_)) | ((try conv => whnf); (first | (refine St_gate ?_; refine xS ?_) | (refine StN_gate ?_; refine xN ?_)); clear H; intro w H))
  (repeat (refine Kept_gate ?_; (first | refine ⟨hJ1 _, ?_⟩ | refine xK ?_); (repeat first | refine goN ?_ | ((try conv => whnf); first | (refine Ar_gate ?_; first | (fail_if_success skip) | refine xA ?_) | (first | refine Do_str_eq ?_ | refine Do_str_ne ?_ | refine DoN_len tok rfl ?_ | refine Eqv_in ?_)) | ((try conv => whnf); (first | (refine St_gate ?_; refine xS ?_) | (refine StN_gate ?_; refine xN ?_)); clear H; intro w H))))
  refine Call_of (dSameSo m n H hs ht hb hc) ?_
  clear H
  rintro _ w ⟨rfl, H⟩
  generalize sameSo m n = b
  (repeat first | refine goN ?_ | ((try conv => whnf); first | (refine Ar_gate ?_; first | (fail_if_success skip) | refine xA ?_) | (first | refine Do_str_eq ?_ | refine Do_str_ne ?_ | refine DoN_len tok rfl ?_ | refine Eqv_in ?_)) | ((try conv => whnf); (first | (refine St_gate ?_; refine xS ?_) | (refine StN_gate ?_; refine xN ?_)); clear H; intro w H))
  (repeat (refine Kept_gate ?_; (first | refine ⟨hJ1 _, ?_⟩ | refine xK ?_); (repeat first | refine goN ?_ | ((try conv => whnf); first | (refine Ar_gate ?_; first | (fail_if_success skip) | refine xA ?_) | (first | refine Do_str_eq ?_ | refine Do_str_ne ?_ | refine DoN_len tok rfl ?_ | refine Eqv_in ?_)) | ((try conv => whnf); (first | (refine St_gate ?_; refine xS ?_) | (refine StN_gate ?_; refine xN ?_)); clear H; intro w H))))
  cases b
  all_goals
    refine DoS_bool_eq tok rfl (fun J2 hJ2 => ?_)
    (repeat first | refine goN ?_ | ((try conv => whnf); first | (refine Ar_gate ?_; first | (fail_if_success skip) | refine xA ?_) | (first | refine Do_str_eq ?_ | refine Do_str_ne ?_ | refine DoN_len tok rfl ?_ | refine Eqv_in ?_)) | ((try conv => whnf); (first | (refine St_gate ?_; refine xS ?_) | (refine StN_gate ?_; refine xN ?_)); clear H; intro w H))
    (repeat (refine Kept_gate ?_; (first | refine ⟨hJ1 _, ?_⟩ | refine ⟨hJ2 _, ?_⟩ | refine xK ?_); (repeat first | refine goN ?_ | ((try conv => whnf); first | (refine Ar_gate ?_; first | (fail_if_success skip) | refine xA ?_) | (first | refine Do_str_eq ?_ | refine Do_str_ne ?_ | refine DoN_len tok rfl ?_ | refine Eqv_in ?_)) | ((try conv => whnf); (first | (refine St_gate ?_; refine xS ?_) | (refine StN_gate ?_; refine xN ?_)); clear H; intro w H))))
    exact Ret_in ⟨rfl, H.tail.tail⟩
end
end Go.Proofs.YthpekiohalejmaaGreatDoor
