/- The law's function: as many lines. -/
import Derived.Test.YthpekiohalejmaaDoorTreeT
set_option linter.unusedVariables false
set_option linter.unusedSimpArgs false
namespace Go.Tree
def nl (l : List UInt8) : Nat := l.count 10
theorem nl_app (a b : List UInt8) : nl (a ++ b) = nl a + nl b := List.count_append
theorem bL_app (a b : ByteArray) : bL (a ++ b) = bL a ++ bL b := by unfold bL; simp
theorem bL_str (l : List UInt8) : bL (str l) = l := rfl
theorem nl_all {l : List UInt8} {p : UInt8 → Bool} (h : l.all p = true) (h10 : p 10 = false) : nl l = 0 := by
  unfold nl
  rw [List.count_eq_zero]
  intro hm
  have := List.all_eq_true.1 h 10 hm
  rw [h10] at this; cases this
theorem nl_name {s : ByteArray} (h : nameB s = true) : nl (bL s) = 0 := by
  unfold nameB at h
  simp only [Bool.and_eq_true] at h
  exact nl_all h.2 (by decide)
theorem nl_digits (u : Nat) : nl (Lib.decDigits u) = 0 := by
  have key : ∀ f u : Nat, u < f → nl (Lib.decDigits u) = 0 := by
    intro f
    induction f with
    | zero => intro u h; omega
    | succ f ih =>
      intro u hu
      have hd : ∀ k : Nat, k < 10 → nl [UInt8.ofNat (48 + k)] = 0 := by decide
      rw [Lib.decDigits]
      split
      · rename_i h; exact hd u h
      · rw [nl_app, ih (u / 10) (by omega), hd (u % 10) (by omega)]
  exact key (u + 1) u (by omega)
theorem nl_join {l : List ByteArray} (h : ∀ s ∈ l, nl (bL s) = 0) : nl (bL (joinS l)) = 0 := by
  have key : ∀ l : List (List UInt8), (∀ s ∈ l, nl s = 0) → nl (Lib.join l [44, 32]) = 0 := by
    intro l
    induction l with
    | nil => intro _; rfl
    | cons x l ih =>
      intro h
      cases l with
      | nil => simpa [Lib.join] using h x (.head _)
      | cons y l =>
        have e : Lib.join (x :: y :: l) [44, 32] = x ++ [44, 32] ++ Lib.join (y :: l) [44, 32] := by simp [Lib.join]
        rw [e, nl_app, nl_app, h x (.head _), ih fun s hs => h s (.tail _ hs)]
        rfl
  show nl (Lib.join (l.map (·.data.toList)) [44, 32]) = 0
  refine key _ fun s hs => ?_
  obtain ⟨b, hb, rfl⟩ := List.mem_map.1 hs
  exact h b hb
theorem nl_sign (op : Int) : nl (bL (signB op)) = 0 := by
  unfold signB
  split
  · rfl
  · cases h : signL[(op - 5).toNat]? with
    | none => rfl
    | some s =>
      have := List.mem_of_getElem? h
      have key : ∀ s ∈ signL, nl (bL s) = 0 := by decide
      exact key s this
theorem nl_inn {k : Ex} {t : ByteArray} (h : nl (bL t) = 0) : nl (bL (inn k t)) = 0 := by
  unfold inn
  split
  · exact h
  · rw [bL_app, bL_app, nl_app, nl_app, h]; rfl
theorem nl_flat {α : Type} {f : α → List UInt8} {k : Nat} {l : List α} (h : ∀ x ∈ l, nl (f x) = k) : nl (l.flatMap f) = k * l.length := by
  induction l with
  | nil => rfl
  | cons x l ih =>
    rw [List.flatMap_cons, nl_app, h x (.head _), ih fun y hy => h y (.tail _ hy), List.length_cons, Nat.mul_add]
    omega
end Go.Tree
namespace Go.Proofs.YthpekiohalejmaaDoor
open Go Go.Vc Go.Tree
set_option maxHeartbeats 4000000
set_option maxRecDepth 100000
theorem nl_itoa (n : Int) : nl (bL (itoaC n)) = 0 := by
  unfold itoaC
  split
  · show nl (Lib.itoa n) = 0
    unfold Lib.itoa
    split
    · show nl ([45] ++ Lib.decDigits n.natAbs) = 0
      rw [nl_app, nl_digits]; rfl
    · exact nl_digits _
  · rfl
theorem nl_empty {s : ByteArray} (h : emptyB s = true) : nl (bL s) = 0 := by
  unfold emptyB at h
  rw [of_decide_eq_true h]; rfl
theorem nl_txt (x : Ex) (hs : shapeB x = true) : nl (bL (txt x)) = 0 := by
  induction x using Ex.ind with
  | h x ih =>
    rw [shape_eq, Bool.and_eq_true, List.all_eq_true] at hs
    obtain ⟨hone, hk⟩ := hs
    have ih2 : ∀ k ∈ x.kids, nl (bL (txt k)) = 0 := fun k hkm => ih k hkm (hk k hkm)
    have htx : txt x = textF itoaC x (x.kids.map txt) := text_eq itoaC x
    rw [htx]
    unfold textF
    split
    · rename_i k t hkk ht
      rw [hkk] at ht ih2
      simp at ht
      subst ht
      rw [bL_app, nl_app, nl_inn (ih2 k (.head _))]
      split
      · rw [bL_app, nl_app, nl_sign]; rfl
      · rw [nl_sign]
    · rename_i k1 k2 t1 t2 hkk ht
      rw [hkk] at ht ih2
      simp at ht
      obtain ⟨rfl, rfl⟩ := ht
      rw [bL_app, bL_app, bL_app, bL_app, nl_app, nl_app, nl_app, nl_app, nl_inn (ih2 k1 (.head _)), nl_inn (ih2 k2 (.tail _ (.head _))), nl_sign]
      rfl
    · unfold oneB at hone
      simp only [Bool.and_eq_true] at hone
      have hl := hone.2
      unfold leafB at hl
      unfold wordB
      split
      · exact nl_itoa _
      · rename_i h1
        rw [if_neg h1] at hl
        split
        · split <;> rfl
        · rename_i h2
          rw [if_neg h2] at hl
          split at hl
          · rw [Bool.and_eq_true] at hl; exact nl_name hl.2
          · split at hl
            · exact nl_empty hl
            · rw [Bool.and_eq_true] at hl; exact nl_empty hl.2
theorem nl_writ {x : Ex} (h : writB x = true) : nl (bL (txt x)) = 0 := nl_txt x (writ_shape h)
theorem nl_enT {e : En} (h : enB e = true) : nl (bL (enT e)) = 1 := by
  unfold enB at h
  simp only [Bool.and_eq_true, List.all_eq_true] at h
  unfold enT
  simp only [bL_app, nl_app, bL_str]
  rw [nl_name h.1.1, nl_join fun s hs => nl_name (h.2 s hs)]
  rfl
theorem nl_deX : ∀ (l : List Ex) (s : ByteArray), (∀ x ∈ l, writB x = true) → nl (bL (deX txt l s)) = nl (bL s)
  | [], s, _ => rfl
  | x :: l, s, h => by
    rw [deX, nl_deX l _ fun y hy => h y (.tail _ hy), bL_app, bL_app, nl_app, nl_app, nl_writ (h x (.head _))]
    rfl
theorem nl_deT {d : De} (h : deB d = true) : nl (bL (deT txt itoaC d)) = 1 := by
  unfold deB at h
  simp only [Bool.and_eq_true, List.all_eq_true] at h
  obtain ⟨⟨⟨hE, hn⟩, _⟩, hb⟩ := h
  unfold deT
  rw [bL_app, nl_app, nl_deX _ _ hb, bL_app, nl_app]
  have hH : nl (bL (deH d)) = 0 := by
    unfold deH
    rw [bL_app, bL_app, nl_app, nl_app, nl_name hn]; rfl
  have hT : nl (bL (deE itoaC d)) = 0 := by
    unfold deE
    split
    · rw [bL_app, bL_app, bL_app, nl_app, nl_app, nl_app, hH, nl_itoa, nl_itoa]; rfl
    · exact hH
  have hY : nl (bL d.typ) = 0 := by
    unfold endsB at hE
    split at hE
    · rename_i h; rw [h]; rfl
    · simp only [Bool.and_eq_true, Bool.or_eq_true, decide_eq_true_eq] at hE
      rcases hE.2 with h | h
      · rw [h]; rfl
      · exact nl_name h
  rw [hT, hY]
  rfl
theorem nl_ruT {r : Ru} (h : ruB r = true) : nl (bL (ruT txt r)) = 1 := by
  unfold ruB at h
  simp only [Bool.and_eq_true, List.all_eq_true] at h
  unfold ruT
  simp only [bL_app, nl_app, bL_str]
  rw [nl_writ h.1.1, nl_join fun s hs => by
    obtain ⟨a, ha, rfl⟩ := List.mem_map.1 hs
    have := h.2 a ha
    unfold asB at this
    rw [Bool.and_eq_true] at this
    unfold asT
    rw [bL_app, bL_app, nl_app, nl_app, nl_name this.1, nl_writ this.2]
    rfl]
  rfl
theorem nl_prL {p : Pr} (h : prB p = true) : nl (prL txt p) = p.rules.length + 2 := by
  unfold prB at h
  simp only [Bool.and_eq_true, List.all_eq_true] at h
  unfold prL prH
  simp only [bL_app, nl_app, bL_str]
  rw [nl_name h.1.1, nl_flat (k := 1) fun r hr => nl_ruT (h.2 r hr), Nat.one_mul]
  show 0 + 0 + 1 + p.rules.length + 1 = _
  omega
def wantN (m : So) : Nat := m.enums.length + m.vars.length + 2 * m.procs.length + (m.procs.map fun p => p.rules.length).sum
theorem nl_soL {m : So} (h : soB m = true) : nl (soL txt itoaC m) = wantN m := by
  unfold soB at h
  simp only [Bool.and_eq_true, List.all_eq_true] at h
  obtain ⟨⟨⟨_, he⟩, hv⟩, hp⟩ := h
  unfold soL wantN
  rw [nl_app, nl_app, nl_flat (k := 1) fun e h => nl_enT (he e h), nl_flat (k := 1) fun e h => nl_deT (hv e h)]
  have : ∀ l : List Pr, (∀ p ∈ l, prB p = true) → nl (l.flatMap (prL txt)) = 2 * l.length + (l.map fun p => p.rules.length).sum := by
    intro l
    induction l with
    | nil => intro _; rfl
    | cons p l ih =>
      intro h
      rw [List.flatMap_cons, nl_app, nl_prL (h p (.head _)), ih fun q hq => h q (.tail _ hq), List.map_cons, List.sum_cons, List.length_cons]
      omega
  rw [this _ hp]
  omega
section
variable {w0 w : World} {l : List Res}
theorem tLines (m : So) (H : Sep w0 w l) (hp : Pow w0) (hs : SoOk w0 m) (hb : soK m ≤ 1500000) : Does Tryd.prog 6 #[soA m] w fun v w' => v = .bool true ∧ Sep w0 w' l := by
  refine Does_intro tok (Tryd.call6 _ _) Tryd.func6 rfl (by rfl) ?_
  have a1 := sum_len (l := m.enums) (g := enK) fun x => by unfold enK; omega
  have a2 := sum_len (l := m.vars) (g := deK) fun x => by unfold deK; omega
  have a3 := sum_len (l := m.procs) (g := prK) fun x => by unfold prK; omega
  have hb0 := hb
  unfold soK at hb
  have hrl : ∀ p ∈ m.procs, p.rules.length ≤ prK p := fun p _ => by
    have := sum_len (l := p.rules) (g := ruK) fun x => by unfold ruK; omega
    unfold prK; omega
  have hrs : (m.procs.map fun p => p.rules.length).sum ≤ 1 * (m.procs.map prK).sum := sum_mul fun p hp => by have := hrl p hp; omega
  have hll := soL_len txt_size itoaC_size m
  (repeat first | refine goN ?_ | ((try conv => whnf); first | (refine Ar_gate ?_; first | (fail_if_success skip) | refine xA ?_) | (first | refine Do_str_eq ?_ | refine Do_str_ne ?_ | refine DoN_len tok rfl ?_ | refine Eqv_in ?_)) | ((try conv => whnf); (first | (refine St_gate ?_; refine xS ?_) | (refine StN_gate ?_; refine xN ?_)); clear H; intro w H))
  (refine Nw_sep H ?_; clear H; intro xb w H; (try simp only [Value.cells, List.toList_toArray, List.append_nil, List.cons_append, List.nil_append] at H))
  (repeat first | refine goN ?_ | ((try conv => whnf); first | (refine Ar_gate ?_; first | (fail_if_success skip) | refine xA ?_) | (first | refine Do_str_eq ?_ | refine Do_str_ne ?_ | refine DoN_len tok rfl ?_ | refine Eqv_in ?_)) | ((try conv => whnf); (first | (refine St_gate ?_; refine xS ?_) | (refine StN_gate ?_; refine xN ?_)); clear H; intro w H))
  refine Call_of (tAlive H hp) ?_
  clear H
  rintro _ w ⟨rfl, H⟩
  by_cases h1 : 60 < m.enums.length
  · (repeat first | refine goN ?_ | ((try conv => whnf); first | (refine Ar_gate ?_; first | (fail_if_success skip) | refine xA ?_) | (first | refine Do_str_eq ?_ | refine Do_str_ne ?_ | refine DoN_len tok rfl ?_ | refine Eqv_in ?_)) | ((try conv => whnf); (first | (refine St_gate ?_; refine xS ?_) | (refine StN_gate ?_; refine xN ?_)); clear H; intro w H))
    exact Ret_in ⟨rfl, H.tail⟩
  by_cases h2 : 60 < m.vars.length
  · (repeat first | refine goN ?_ | ((try conv => whnf); first | (refine Ar_gate ?_; first | (fail_if_success skip) | refine xA ?_) | (first | refine Do_str_eq ?_ | refine Do_str_ne ?_ | refine DoN_len tok rfl ?_ | refine Eqv_in ?_)) | ((try conv => whnf); (first | (refine St_gate ?_; refine xS ?_) | (refine StN_gate ?_; refine xN ?_)); clear H; intro w H))
    exact Ret_in ⟨rfl, H.tail⟩
  by_cases h3 : 60 < m.procs.length
  · (repeat first | refine goN ?_ | ((try conv => whnf); first | (refine Ar_gate ?_; first | (fail_if_success skip) | refine xA ?_) | (first | refine Do_str_eq ?_ | refine Do_str_ne ?_ | refine DoN_len tok rfl ?_ | refine Eqv_in ?_)) | ((try conv => whnf); (first | (refine St_gate ?_; refine xS ?_) | (refine StN_gate ?_; refine xN ?_)); clear H; intro w H))
    exact Ret_in ⟨rfl, H.tail⟩
  (repeat first | refine goN ?_ | ((try conv => whnf); first | (refine Ar_gate ?_; first | (fail_if_success skip) | refine xA ?_) | (first | refine Do_str_eq ?_ | refine Do_str_ne ?_ | refine DoN_len tok rfl ?_ | refine Eqv_in ?_)) | ((try conv => whnf); (first | (refine St_gate ?_; refine xS ?_) | (refine StN_gate ?_; refine xN ?_)); clear H; intro w H))
  refine Call_of (tSource m H hp (fun h => hs.rd h) (by omega)) ?_
  clear H
  rintro _ w ⟨rfl, H⟩
  have hnl : soB m = true → nl (soL txt itoaC m) = wantN m := nl_soL
  obtain ⟨S, hS, hSl⟩ : ∃ S : List UInt8, (if soB m = true then (⟨(soL txt itoaC m).toArray⟩ : ByteArray) else str []) = ⟨S.toArray⟩ ∧ S.length ≤ 50000000 := by
    cases soB m with
    | true => exact ⟨_, rfl, by omega⟩
    | false => exact ⟨[], rfl, by decide⟩
  have hS2 : soB m = true → nl S = wantN m := fun h => by
    rw [h, if_pos rfl] at hS
    rw [← hnl h]
    have := congrArg (fun s : ByteArray => s.data.toList) hS
    simp at this
    rw [this]
  have hS0 : soB m = false → S = [] := fun h => by
    rw [h] at hS
    have := congrArg (fun s : ByteArray => s.data.toList) hS
    simpa [str] using this.symm
  rw [hS]
  generalize hee : (if soB m = true then (0 : Int) else 141) = e at *
  (repeat first | refine goN ?_ | ((try conv => whnf); first | (refine Ar_gate ?_; first | (fail_if_success skip) | refine xA ?_) | (first | refine Do_str_eq ?_ | refine Do_str_ne ?_ | refine DoN_len tok rfl ?_ | refine Eqv_in ?_)) | ((try conv => whnf); (first | (refine St_gate ?_; refine xS ?_) | (refine StN_gate ?_; refine xN ?_)); clear H; intro w H))
  refine Loop_intro (fun i : Nat => [(48, .int .i64 (i : Int)), (5, .int .i64 ((m.enums.length + m.vars.length + 2 * m.procs.length + ((m.procs.take i).map fun p => p.rules.length).sum : Nat) : Int))]) (fun i w => i ≤ m.procs.length ∧ Sep w0 w (cellsR xb 38 (soV m) :: l)) (fun i => m.procs.length - i)
    0 ⟨rfl, congrArg some (vint (by simp)), trivial⟩ ⟨Nat.zero_le _, H⟩ ?_
  clear H
  rintro i w ⟨hi, H⟩
  refine Br_dec (fun k1 => ?_) (fun k1 => ?_)
  · have hlt : i < m.procs.length := by omega
    have hok := H.rd hs.ps
    obtain ⟨b, o, ho⟩ := hok.addr (by rw [rowLen prV_len]; omega)
    have hx : m.procs[i]? = some m.procs[i] := List.getElem?_eq_getElem hlt
    have htk : ((m.procs.take (i + 1)).map fun p => p.rules.length).sum = ((m.procs.take i).map fun p => p.rules.length).sum + m.procs[i].rules.length := by
      rw [List.take_add_one, hx, List.map_append, List.sum_append]; simp
    have hle : ((m.procs.take (i + 1)).map fun p => p.rules.length).sum ≤ (m.procs.map fun p => p.rules.length).sum := by
      conv => rhs; rw [← List.take_append_drop (i + 1) m.procs, List.map_append, List.sum_append]
      omega
    have hrow := rowPart (f := prV) (sz := 4) prV_len hx
    generalize m.procs[i] = k at *
    rw [ho] at hok ⊢
    refine Ix_in i rfl hlt ?_
    refine LdN_src hok (vs := [.string k.name, .slice k.a k.rules.length k.c, .int .i64 k.line, .int .i64 k.col]) hrow rfl ?_
    clear hok
    (repeat first | refine goN ?_ | ((try conv => whnf); first | (refine Ar_gate ?_; first | (fail_if_success skip) | refine xA ?_) | (first | refine Do_str_eq ?_ | refine Do_str_ne ?_ | refine DoN_len tok rfl ?_ | refine Eqv_in ?_)) | ((try conv => whnf); (first | (refine St_gate ?_; refine xS ?_) | (refine StN_gate ?_; refine xN ?_)); clear H; intro w H))
    (refine Nw_sep H ?_; clear H; intro kb w H; (try simp only [Value.cells, List.toList_toArray, List.append_nil, List.cons_append, List.nil_append] at H))
    (repeat first | refine goN ?_ | ((try conv => whnf); first | (refine Ar_gate ?_; first | (fail_if_success skip) | refine xA ?_) | (first | refine Do_str_eq ?_ | refine Do_str_ne ?_ | refine DoN_len tok rfl ?_ | refine Eqv_in ?_)) | ((try conv => whnf); (first | (refine St_gate ?_; refine xS ?_) | (refine StN_gate ?_; refine xN ?_)); clear H; intro w H))
    refine ⟨i + 1, ⟨congrArg some (vint (by omega)), congrArg some (vint (by omega)), trivial⟩, ⟨by omega, H.tail⟩, by omega⟩
  · obtain rfl : i = m.procs.length := by omega
    rw [List.take_length]
    rw [show m.enums.length + m.vars.length + 2 * m.procs.length + (m.procs.map fun p => p.rules.length).sum = wantN m from rfl]
    have hwn : wantN m ≤ 100000000 := by unfold wantN; omega
    (repeat first | refine goN ?_ | ((try conv => whnf); first | (refine Ar_gate ?_; first | (fail_if_success skip) | refine xA ?_) | (first | refine Do_str_eq ?_ | refine Do_str_ne ?_ | refine DoN_len tok rfl ?_ | refine Eqv_in ?_)) | ((try conv => whnf); (first | (refine St_gate ?_; refine xS ?_) | (refine StN_gate ?_; refine xN ?_)); clear H; intro w H))
    refine Loop_intro (fun j : Nat => [(9, .int .i64 (j : Int)), (8, .int .i64 (nl (S.take j) : Int))]) (fun j w => j ≤ S.length ∧ Sep w0 w (cellsR xb 38 (soV m) :: l)) (fun j => S.length - j)
      0 ⟨rfl, rfl, trivial⟩ ⟨Nat.zero_le _, H⟩ ?_
    clear H
    rintro j w ⟨hj, H⟩
    have hcl : nl (S.take j) ≤ j := by
      unfold nl
      have := List.count_le_length (a := (10 : UInt8)) (l := S.take j)
      rw [List.length_take] at this
      omega
    have hSs : (⟨S.toArray⟩ : ByteArray).size = S.length := by simp [ByteArray.size]
    (repeat first | refine goN ?_ | ((try conv => whnf); first | (refine Ar_gate ?_; first | (fail_if_success skip) | refine xA ?_) | (first | refine Do_str_eq ?_ | refine Do_str_ne ?_ | refine DoN_len tok rfl ?_ | refine Eqv_in ?_)) | ((try conv => whnf); (first | (refine St_gate ?_; refine xS ?_) | (refine StN_gate ?_; refine xN ?_)); clear H; intro w H))
    refine Br_dec (fun k2 => ?_) (fun k2 => ?_)
    · have hlt : j < S.length := by omega
      have hx : S[j]? = some S[j] := List.getElem?_eq_getElem hlt
      have htk : S.take (j + 1) = S.take j ++ [S[j]] := by rw [List.take_add_one, hx]; rfl
      generalize S[j] = c at *
      (repeat first | refine goN ?_ | ((try conv => whnf); first | (refine Ar_gate ?_; first | (fail_if_success skip) | refine xA ?_) | (first | refine Do_str_eq ?_ | refine Do_str_ne ?_ | refine DoN_len tok rfl ?_ | refine Eqv_in ?_)) | ((try conv => whnf); (first | (refine St_gate ?_; refine xS ?_) | (refine StN_gate ?_; refine xN ?_)); clear H; intro w H))
      refine Do_idx (s := ⟨S.toArray⟩) (i := j) tok rfl hx ?_
      have hc : c.toNat < 256 := c.toNat_lt
      by_cases h10 : c.toNat = 10
      · have hn : nl (S.take (j + 1)) = nl (S.take j) + 1 := by
          rw [htk, nl_app, show c = 10 from UInt8.toNat_inj.1 h10]; rfl
        (repeat first | refine goN ?_ | ((try conv => whnf); first | (refine Ar_gate ?_; first | (fail_if_success skip) | refine xA ?_) | (first | refine Do_str_eq ?_ | refine Do_str_ne ?_ | refine DoN_len tok rfl ?_ | refine Eqv_in ?_)) | ((try conv => whnf); (first | (refine St_gate ?_; refine xS ?_) | (refine StN_gate ?_; refine xN ?_)); clear H; intro w H))
        exact ⟨j + 1, ⟨congrArg some (vint (by omega)), congrArg some (vint (by rw [hn]; omega)), trivial⟩, ⟨by omega, H⟩, by omega⟩
      · have hn : nl (S.take (j + 1)) = nl (S.take j) := by
          rw [htk, nl_app]
          have : nl [c] = 0 := by
            unfold nl
            rw [List.count_eq_zero]
            intro h
            simp at h
            exact h10 (by rw [← h]; rfl)
          omega
        (repeat first | refine goN ?_ | ((try conv => whnf); first | (refine Ar_gate ?_; first | (fail_if_success skip) | refine xA ?_) | (first | refine Do_str_eq ?_ | refine Do_str_ne ?_ | refine DoN_len tok rfl ?_ | refine Eqv_in ?_)) | ((try conv => whnf); (first | (refine St_gate ?_; refine xS ?_) | (refine StN_gate ?_; refine xN ?_)); clear H; intro w H))
        exact ⟨j + 1, ⟨congrArg some (vint (by omega)), congrArg some (vint (by rw [hn])), trivial⟩, ⟨by omega, H⟩, by omega⟩
    · obtain rfl : j = S.length := by omega
      rw [List.take_length] at hcl ⊢
      cases hB : soB m with
      | false =>
        have hS00 := hS0 hB
        subst hS00
        rw [hB] at hee
        obtain rfl : e = 141 := hee.symm
        (repeat first | refine goN ?_ | ((try conv => whnf); first | (refine Ar_gate ?_; first | (fail_if_success skip) | refine xA ?_) | (first | refine Do_str_eq ?_ | refine Do_str_ne ?_ | refine DoN_len tok rfl ?_ | refine Eqv_in ?_)) | ((try conv => whnf); (first | (refine St_gate ?_; refine xS ?_) | (refine StN_gate ?_; refine xN ?_)); clear H; intro w H))
        refine Br_dec_yes rfl ?_
        (repeat first | refine goN ?_ | ((try conv => whnf); first | (refine Ar_gate ?_; first | (fail_if_success skip) | refine xA ?_) | (first | refine Do_str_eq ?_ | refine Do_str_ne ?_ | refine DoN_len tok rfl ?_ | refine Eqv_in ?_)) | ((try conv => whnf); (first | (refine St_gate ?_; refine xS ?_) | (refine StN_gate ?_; refine xN ?_)); clear H; intro w H))
        exact Ret_in ⟨rfl, H.tail⟩
      | true =>
        have hS22 := hS2 hB
        rw [hB] at hee
        obtain rfl : e = 0 := hee.symm
        (repeat first | refine goN ?_ | ((try conv => whnf); first | (refine Ar_gate ?_; first | (fail_if_success skip) | refine xA ?_) | (first | refine Do_str_eq ?_ | refine Do_str_ne ?_ | refine DoN_len tok rfl ?_ | refine Eqv_in ?_)) | ((try conv => whnf); (first | (refine St_gate ?_; refine xS ?_) | (refine StN_gate ?_; refine xN ?_)); clear H; intro w H))
        refine Call_of (tSameSo m m H hs hs (by omega) (by omega)) ?_
        clear H
        rintro _ w ⟨rfl, H⟩
        rw [sameSo_self]
        (repeat first | refine goN ?_ | ((try conv => whnf); first | (refine Ar_gate ?_; first | (fail_if_success skip) | refine xA ?_) | (first | refine Do_str_eq ?_ | refine Do_str_ne ?_ | refine DoN_len tok rfl ?_ | refine Eqv_in ?_)) | ((try conv => whnf); (first | (refine St_gate ?_; refine xS ?_) | (refine StN_gate ?_; refine xN ?_)); clear H; intro w H))
        exact Ret_in ⟨rfl, H.tail⟩
end
end Go.Proofs.YthpekiohalejmaaDoor
